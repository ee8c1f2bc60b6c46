/- The web of a hierarchy: weave. -/
import Derived.Test.YtjbphoophgbmiaaDoorWeaveP
import Derived.Test.YtjbphoophgbmiaaDoorRefI
import Derived.BigQuiet
namespace Go.Proofs.YtjbphoophgbmiaaDoor
open Go.ChangeShapes Go.WideShapes Go.ChangeAt Go.RowKit Go.Joins Go.Deep

theorem Tryd.sizeWeb : (Tryd.prog.info? 92).map (·.size) = some 1 := by kernel_rfl
def webVal (bo n : Nat) : Value := .agg #[.slice (some ⟨bo, 0, none⟩) n n]
def WeaveNew (h : HierD) (w : World) (e : Ending) (w' : World) : Prop := ∃ bo base vs, e = .returned (webVal bo h.node.length) ∧ WRep base h.node.length (webD h) bo vs w' ∧ w.heap.size ≤ bo ∧ bo < base ∧ Below w.heap.size w w'
def nilSteps (n : Nat) : List Value := (List.range n).map fun _ => .slice none 0 0
theorem steps_made (n : Nat) : madeCells (Value.slice none 0 0).cells (n * 1) = (nilSteps n).toArray := by
  have e := madeCells_eq [Value.slice none 0 0] n (by simp)
  have h : ((List.replicate n ()).flatMap fun _ => [Value.slice none 0 0]) = nilSteps n := by
    apply List.ext_getElem?
    intro j
    have hg := flat_get (f := fun (_ : Unit) => [Value.slice none 0 0]) (sz := 1) (fun _ => rfl) (List.replicate n ()) j 0 (by omega)
    rw [Nat.mul_one, Nat.add_zero] at hg
    rw [hg]
    unfold nilSteps
    rcases Nat.lt_or_ge j n with h1 | h1
    · simp [h1]
    · rw [List.getElem?_eq_none (l := List.replicate n ()) (by simpa using h1), List.getElem?_eq_none (l := (List.range n).map _) (by simpa using h1)]; rfl
  rw [h] at e
  exact e
theorem WRep.nil {base n bo : Nat} {w : World} (h : Cells w bo 140 (nilSteps n)) : WRep base n (webTo ⟨[], [], [], [], []⟩ 0) bo (fun _ => .slice none 0 0) w :=
  ⟨h, fun i _ => World.ownsRow_nil w 0 142 2, fun i _ q hq => by simp [Value.ownBlock] at hq, fun i j _ _ _ q hq => by simp [Value.ownBlock] at hq⟩

set_option linter.unusedSimpArgs false in
set_option maxRecDepth 100000 in
set_option maxHeartbeats 8000000 in
theorem weave_any (A : HA) (h : HierD) (w : World) (see : HSee w A h) (u : FirstsOk h.node.length h.upF h.up.length) (d : FirstsOk h.node.length h.dnF h.dn.length) (ok : HalfOk h.node.length h.upF h.up) (okd : HalfOk h.node.length h.dnF h.dn) (hn : h.node.length ≤ 65536) (htot : h.up.length + h.dn.length ≤ 1048576) : Calls Tryd.prog 49 #[hierVal A h] w (WeaveNew h w) := by
  have hmk := run_make_n (P := Tryd.prog) 90 140 (.slice none 0 0) 1 24 Tryd.underlying90 Tryd.infoSteps .i64 .i64 h.node.length (by omega) (by omega)
  rw [steps_made] at hmk
  have SEE := Lib.hid see
  have UOK := Lib.hid u
  have DOK := Lib.hid d
  have OKU := Lib.hid ok
  have OKD := Lib.hid okd
  clear see u d ok okd
  unfold hierVal
  go_enter Tryd.func49, Tryd.ntmps49
  go_wp2_with fail
  have hb1 : Below w.heap.size w ((((w.alloc (.cells (hierCells A h).toArray 25)).alloc (.cells #[.slice none 0 0] 92)).alloc (.cells (nilSteps h.node.length).toArray 140)).alloc (.cells #[.slice (some ⟨w.heap.size + 1 + 1, 0, none⟩) h.node.length h.node.length] 92)) :=
    ((((Below.refl w.heap.size w).alloc (Nat.le_refl _) _).alloc (by simp) _).alloc (by simp; omega) _).alloc (by simp; omega) _
  have hx1 := (((Cells.new w 25 (hierCells A h)).alloc (.cells #[.slice none 0 0] 92)).alloc (.cells (nilSteps h.node.length).toArray 140)).alloc (.cells #[.slice (some ⟨w.heap.size + 1 + 1, 0, none⟩) h.node.length h.node.length] 92)
  have hr1 := ((cells_at (w := w.alloc (.cells (hierCells A h).toArray 25)) (b := w.heap.size + 1) (by simp) 92 [.slice none 0 0]).alloc (.cells (nilSteps h.node.length).toArray 140)).alloc (.cells #[.slice (some ⟨w.heap.size + 1 + 1, 0, none⟩) h.node.length h.node.length] 92)
  have ho1 := (cells_at (w := (w.alloc (.cells (hierCells A h).toArray 25)).alloc (.cells #[.slice none 0 0] 92)) (b := w.heap.size + 1 + 1) (by simp) 140 (nilSteps h.node.length)).alloc (.cells #[.slice (some ⟨w.heap.size + 1 + 1, 0, none⟩) h.node.length h.node.length] 92)
  have hc1 := cells_at (w := ((w.alloc (.cells (hierCells A h).toArray 25)).alloc (.cells #[.slice none 0 0] 92)).alloc (.cells (nilSteps h.node.length).toArray 140)) (b := w.heap.size + 1 + 1 + 1) (by simp) 92 [.slice (some ⟨w.heap.size + 1 + 1, 0, none⟩) h.node.length h.node.length]
  have HB0 := Lib.hid hb1
  have HX0 := Lib.hid hx1
  have HR0 := Lib.hid hr1
  have HC0 := Lib.hid hc1
  have HW0 := Lib.hid (show WRep (w.heap.size + 4) h.node.length (webTo h 0) (w.heap.size + 1 + 1) (fun _ => .slice none 0 0) _ from WRep.nil ho1)
  clear hb1 hx1 hr1 hc1 ho1 hmk
  go_loopg [17] h.node.length (fun g vi wr => ∃ (r : Nat) (vs : Nat → Value), vi = .int .i64 r ∧ r ≤ h.node.length ∧ g = h.node.length - r ∧ WRep (w.heap.size + 4) h.node.length (webTo h r) (w.heap.size + 1 + 1) vs wr ∧ Cells wr w.heap.size 25 (hierCells A h) ∧ Cells wr (w.heap.size + 1) 92 [.slice none 0 0] ∧ Cells wr (w.heap.size + 1 + 1 + 1) 92 [.slice (some ⟨w.heap.size + 1 + 1, 0, none⟩) h.node.length h.node.length] ∧ Below w.heap.size w wr)
  case atStart => exact ⟨0, _, rfl, Nat.zero_le _, rfl, HW0.out, HX0.out, HR0.out, HC0.out, HB0.out⟩
  case round =>
    obtain ⟨r, vs, rfl, hrl, hgr, hw2, hx2, hr2, hc2, hb2⟩ := hrel
    obtain ⟨wp, rfl⟩ : ∃ wp : World, wp = wr := ⟨_, rfl⟩
    have HGR := Lib.hid hgr
    have HW := Lib.hid hw2
    have HX := Lib.hid hx2
    have HR := Lib.hid hr2
    have HC := Lib.hid hc2
    have HB := Lib.hid hb2
    clear hgr hw2 hx2 hr2 hc2 hb2 HB0 HX0 HR0 HC0 HW0
    by_cases hrn : r < h.node.length
    · skip
      have hfl := UOK.out.len
      obtain ⟨lo, hlo⟩ : ∃ lo, h.upF[r]? = some lo := ⟨_, List.getElem?_eq_getElem (by omega)⟩
      obtain ⟨hi, hhi⟩ : ∃ hi, h.upF[r + 1]? = some hi := ⟨_, List.getElem?_eq_getElem (by omega)⟩
      have glo : h.upF.getD r 0 = lo := by rw [List.getD_eq_getElem?_getD, hlo]; rfl
      have ghi : h.upF.getD (r + 1) 0 = hi := by rw [List.getD_eq_getElem?_getD, hhi]; rfl
      have hlh : lo ≤ hi := by rw [← glo, ← ghi]; exact UOK.out.mono r hrn
      have hhl : hi ≤ h.up.length := by rw [← ghi]; exact UOK.out.le (r + 1) (by omega)
      have hseg : seg h.upF h.up r = (h.up.take hi).drop lo := by unfold seg; rw [glo, ghi]
      have su := SEE.out.below HB.out
      have hhc : hi ≤ A.c2 := Nat.le_trans hhl su.up.hcap
      have hhi32 : hi < 4294967296 := su.bu hi (List.mem_of_getElem? hhi)
      obtain ⟨b1, o1, ea1, lb1, cc1⟩ := see_one (f := fun (n : Nat) => Value.int .u32 n) su.upF (by omega)
      have cl := cc1 r lo hlo
      have ch := cc1 (r + 1) hi hhi
      obtain ⟨k0, k1, k2, k3, k4⟩ := hier_five HX.out
      rw [ea1] at k1
      have hil : r < h.upF.length := by omega
      have hil1 : r + 1 < h.upF.length := by omega
      have hsl := run_sub (P := Tryd.prog) 23 39 4 Tryd.underlying23 Tryd.sizeLink A.a2 h.up.length A.c2 lo hi .u32 .u32 hlh hhc
      have hLlen : ((h.up.take hi).drop lo).length = hi - lo := by simp; omega
      have hSUB : ∀ X, Below w.heap.size w X → See X (slBase A.a2 lo A.c2 4) (A.c2 - lo) linkCells 4 ((h.up.take hi).drop lo) := fun X hX => (SEE.out.below hX).up.sub lo hi hhl
      have hup : ∀ x ∈ (h.up.take hi).drop lo, r < x.to ∧ x.to < h.node.length ∧ x.wt ≤ 140737488355328 := fun x hx => OKU.out.up r hrn x (by rw [hseg]; exact hx)
      have hbnd : ∀ v, (webTo h r v).length + (hi - lo) ≤ 1048576 := fun v => by
        have a1 := webTo_len UOK.out DOK.out r (by omega) v
        have a2 := DOK.out.le r (by omega)
        rw [glo] at a1
        omega
      have LL := Lib.hid hLlen
      have HSUB := Lib.hid hSUB
      have HUP := Lib.hid hup
      have HSEG := Lib.hid hseg
      have HBND := Lib.hid hbnd
      clear hfl hlo hhi glo ghi hseg su cc1 ea1 hLlen hSUB hup hbnd
      generalize (h.up.take hi).drop lo = L at *
      go_wp2_with fail
      go_quiet (fail)
      go_wp2_with fail
      have HBq := Lib.hid (below_drewN HB.out nq)
      have HXq := Lib.hid (HX.out.drewN nq)
      have HWq := Lib.hid (HW.out.below (below_drewN (Below.refl _ _) nq))
      have HRq := Lib.hid (HR.out.drewN nq)
      have HCq := Lib.hid (HC.out.drewN nq)
      clear HB HX HW HR HC cl ch k0 k1 k2 k3 k4 hsl
      go_loopg [35] (hi - lo) (fun g vj wr => ∃ (j : Nat) (vs' : Nat → Value), vj = .int .i64 j ∧ j ≤ hi - lo ∧ g = hi - lo - j ∧ WRep (w.heap.size + 4) h.node.length (webUps r (L.take j) (webTo h r)) (w.heap.size + 1 + 1) vs' wr ∧ Cells wr w.heap.size 25 (hierCells A h) ∧ Cells wr (w.heap.size + 1) 92 [.slice none 0 0] ∧ Cells wr (w.heap.size + 1 + 1 + 1) 92 [.slice (some ⟨w.heap.size + 1 + 1, 0, none⟩) h.node.length h.node.length] ∧ Below w.heap.size w wr)
      case atStart => exact ⟨0, _, rfl, Nat.zero_le _, rfl, HWq.out, HXq.out, HRq.out, HCq.out, HBq.out⟩
      case round =>
        obtain ⟨j, vs', rfl, hj, hgj, hw2, hx2, hr2, hc2, hb2⟩ := hrel
        obtain ⟨wo, rfl⟩ : ∃ wo : World, wo = wr := ⟨_, rfl⟩
        have HGJ := Lib.hid hgj
        have HW := Lib.hid hw2
        have HX := Lib.hid hx2
        have HR := Lib.hid hr2
        have HC := Lib.hid hc2
        have HB := Lib.hid hb2
        clear hgj hw2 hx2 hr2 hc2 hb2 HWq HXq HRq HCq HBq
        by_cases hjl : j < hi - lo
        · obtain ⟨x, hx⟩ : ∃ x, L[j]? = some x := ⟨_, List.getElem?_eq_getElem (by rw [LL.out]; exact hjl)⟩
          obtain ⟨hx1, hx2, hx3⟩ := HUP.out x (List.mem_of_getElem? hx)
          obtain ⟨b2, o2, ea2, cc2⟩ := (HSUB.out wo HB.out).cell j x hx
          have e0 := cc2 0 _ rfl
          have e1 := cc2 1 _ rfl
          have e2 := cc2 2 _ rfl
          have e3 := cc2 3 _ rfl
          rw [Nat.add_zero] at e0
          have EA := Lib.hid ea2
          have HXJ := Lib.hid hx
          clear cc2 ea2 hx
          have HLT0 := Lib.hid (fun i (hi : i < h.node.length) q (hq : (vs' i).ownBlock = some q) => own_lt (HW.out.own i hi) hq)
          have hbsz := HC.out.lt
          obtain ⟨wq, hwq⟩ : ∃ wq, wo.alloc (.cells (linkCells x).toArray 39) = wq := ⟨_, rfl⟩
          have hlink := Cells.new wo 39 (linkCells x)
          have ho := (Below.refl wo.heap.size wo).alloc (Nat.le_refl _) (.cells (linkCells x).toArray 39)
          have hwsz : wq.heap.size = wo.heap.size + 1 := by rw [← hwq]; simp
          rw [hwq] at hlink ho
          have hc3 := HC.out.below ho HC.out.lt
          have hx3' := HX.out.below ho HX.out.lt
          have hr3 := HR.out.below ho HR.out.lt
          have hw3 := HW.out.below ho
          have hb3 := HB.out.trans (ho.mono HB.out.size)
          have lb3 := HC.out.lt
          have v0 : wq.cell? ⟨wo.heap.size, 0, none⟩ = some (.int .u32 (x.to : Nat)) := hlink.cell rfl
          have v1 : wq.cell? ⟨wo.heap.size, 1, none⟩ = some (.int .u64 (x.wt : Nat)) := hlink.cell rfl
          have q3 : wq.cell? ⟨w.heap.size + 1 + 1 + 1, 0, none⟩ = some (.slice (some ⟨w.heap.size + 1 + 1, 0, none⟩) h.node.length h.node.length) := hc3.cell rfl
          have HL3 := Lib.hid hlink
          have HC3 := Lib.hid hc3
          have HX3 := Lib.hid hx3'
          have HR3 := Lib.hid hr3
          have HW3 := Lib.hid hw3
          have HB3 := Lib.hid hb3
          have HWQ := Lib.hid hwq
          clear hlink ho hc3 hx3' hr3 hw3 hb3 HC HX HR HW HB
          rw [EA.out]
          go_upto_region 8 with fail
          try rw [show wo.alloc (.cells #[.int .u32 x.to, .int .u64 x.wt, .int .u32 x.left, .int .u32 x.right] 39) = wq from HWQ.out]
          clear e0 e1 e2 e3
          change Code.wp _ ((regionAt 8 weaveBody).getD .skip) _ _ _
          obtain ⟨ao, cap, hvs⟩ := own_form' (HW3.out.own r hrn)
          have hL := HW3.out.own r hrn
          have hne := HW3.out.lo r hrn
          rw [hvs] at hL hne
          have hlt0 := HLT0.out r hrn
          rw [hvs] at hlt0
          have hm : (webUps r (L.take j) (webTo h r) r).length ≤ 1048576 := by
            have a1 := ups_len r (L.take j) (webTo h r) r
            have a2 := HBND.out r
            have a3 : (L.take j).length ≤ hi - lo := by rw [List.length_take, LL.out]; omega
            omega
          have hidx : ((List.range h.node.length).map vs')[r]? = some (.slice ao (webUps r (L.take j) (webTo h r) r).length cap) := by rw [List.getElem?_map, List.getElem?_range (by omega), ← hvs]; rfl
          have hx32 : x.to < 4294967296 := by omega
          refine weave_app8 (r := r) (tn := x.to) (wt := x.wt) _ (fun _ _ t _ _ hq => by cases t <;> exact hq) q3 v0 v1 HW3.out.o hidx (by omega) hL (fun q hq => ⟨by have := hne q hq; omega, by have := hlt0 q hq; omega, (hne q hq).2⟩) (by omega) (by omega) hm hx32 ?_
          intro t39 t40 t41 t42 t43 t44 t45 t46 t47 t48 t49 t50 t51 t52 t53 t54 t55 ao2 cap2 w6 hown6 hblk6 hcells6 honly6
          rw [← hvs] at hblk6 honly6
          have hone : Only ((w.heap.size + 1 + 1) :: (vs' r).ownBlock.toList) wq w6 := honly6
          have hnew := HW3.out.app hrn (x.to, x.wt) _ (by omega) (by omega) hown6 hblk6 hcells6 honly6
          have hnm : ∀ b, b < w.heap.size + 1 + 1 ∨ b = w.heap.size + 1 + 1 + 1 → b ∉ ((w.heap.size + 1 + 1) :: (vs' r).ownBlock.toList) := fun b hb hm2 => by
            rw [List.mem_cons] at hm2
            rcases hm2 with e | e
            · omega
            · have := (HW3.out.lo r hrn b (by simpa using e)).1
              omega
          have hx6 := HX3.out.kept hone (hnm _ (.inl (by omega)))
          have hr6 := HR3.out.kept hone (hnm _ (.inl (by omega)))
          have hc6 := HC3.out.kept hone (hnm _ (.inr rfl))
          have hb6 : Below w.heap.size w w6 := HB3.out.trans (hone.below HB3.out.size (fun q hq => by
            rw [List.mem_cons] at hq
            rcases hq with e | e
            · omega
            · have := (HW3.out.lo r hrn q (by simpa using e)).1
              omega))
          have hS : putS (webUps r (L.take j) (webTo h r)) r (x.to, x.wt) = webUps r (L.take (j + 1)) (webTo h r) := by
            rw [List.take_add_one, HXJ.out]
            simp only [webUps, Option.toList_some, List.foldl_append, List.foldl_cons, List.foldl_nil]
          rw [hS] at hnew
          have HW6 := Lib.hid hnew
          have HX6 := Lib.hid hx6
          have HR6 := Lib.hid hr6
          have HC6 := Lib.hid hc6
          have HB6 := Lib.hid hb6
          clear hown6 hblk6 hcells6 honly6 hone hnew hnm hx6 hr6 hc6 hb6 hS hidx hL hne hlt0 HW3 HX3 HR3 HC3 HB3 HL3 v0 v1 q3
          try dsimp only [Exit.then]
          go_wp2_with fail
          rw [← EA.out]
          go_roundg (hi - lo - (j + 1))
          case measure => rw [HGJ.out]; omega
          case rel => exact ⟨j + 1, _, by go_num, by omega, rfl, HW6.out, HX6.out, HR6.out, HC6.out, HB6.out⟩
        · obtain rfl : j = hi - lo := by omega
          have hfull := HW.out
          rw [List.take_of_length_le (by rw [LL.out]; exact Nat.le_refl _), ← HSEG.out] at hfull
          clear HW HSEG LL HSUB HUP HBND
          have HW := Lib.hid hfull
          clear hfull
          go_wp2_with fail
          have hfl := DOK.out.len
          obtain ⟨lo, hlo⟩ : ∃ lo, h.dnF[r]? = some lo := ⟨_, List.getElem?_eq_getElem (by omega)⟩
          obtain ⟨hi, hhi⟩ : ∃ hi, h.dnF[r + 1]? = some hi := ⟨_, List.getElem?_eq_getElem (by omega)⟩
          have glo : h.dnF.getD r 0 = lo := by rw [List.getD_eq_getElem?_getD, hlo]; rfl
          have ghi : h.dnF.getD (r + 1) 0 = hi := by rw [List.getD_eq_getElem?_getD, hhi]; rfl
          have hlh : lo ≤ hi := by rw [← glo, ← ghi]; exact DOK.out.mono r hrn
          have hhl : hi ≤ h.dn.length := by rw [← ghi]; exact DOK.out.le (r + 1) (by omega)
          have hseg : seg h.dnF h.dn r = (h.dn.take hi).drop lo := by unfold seg; rw [glo, ghi]
          have su := SEE.out.below HB.out
          have hhc : hi ≤ A.c4 := Nat.le_trans hhl su.dn.hcap
          have hhi32 : hi < 4294967296 := su.bd hi (List.mem_of_getElem? hhi)
          obtain ⟨b1, o1, ea1, lb1, cc1⟩ := see_one (f := fun (n : Nat) => Value.int .u32 n) su.dnF (by omega)
          have cl := cc1 r lo hlo
          have ch := cc1 (r + 1) hi hhi
          obtain ⟨k0, k1, k2, k3, k4⟩ := hier_five HX.out
          rw [ea1] at k3
          have hil : r < h.dnF.length := by omega
          have hil1 : r + 1 < h.dnF.length := by omega
          have hsl := run_sub (P := Tryd.prog) 23 39 4 Tryd.underlying23 Tryd.sizeLink A.a4 h.dn.length A.c4 lo hi .u32 .u32 hlh hhc
          have hLlen : ((h.dn.take hi).drop lo).length = hi - lo := by simp; omega
          have hSUB : ∀ X, Below w.heap.size w X → See X (slBase A.a4 lo A.c4 4) (A.c4 - lo) linkCells 4 ((h.dn.take hi).drop lo) := fun X hX => (SEE.out.below hX).dn.sub lo hi hhl
          have hup : ∀ x ∈ (h.dn.take hi).drop lo, r < x.to ∧ x.to < h.node.length ∧ x.wt ≤ 140737488355328 := fun x hx => OKD.out.up r hrn x (by rw [hseg]; exact hx)
          have hbnd : ∀ v, (webUps r (seg h.upF h.up r) (webTo h r) v).length + (hi - lo) ≤ 1048576 := fun v => by
            have a1 := webTo_len UOK.out DOK.out r (by omega) v
            have a2 := ups_len r (seg h.upF h.up r) (webTo h r) v
            have a3 := seg_length UOK.out r hrn
            have a4 := UOK.out.mono r hrn
            have a5 := UOK.out.le (r + 1) (by omega)
            rw [glo] at a1
            omega
          have LL := Lib.hid hLlen
          have HSUB := Lib.hid hSUB
          have HUP := Lib.hid hup
          have HSEG := Lib.hid hseg
          have HBND := Lib.hid hbnd
          clear hfl hlo hhi glo ghi hseg su cc1 ea1 hLlen hSUB hup hbnd
          generalize (h.dn.take hi).drop lo = L at *
          go_wp2_with fail
          go_quiet (fail)
          go_wp2_with fail
          have HBq := Lib.hid (below_drewN HB.out nq)
          have HXq := Lib.hid (HX.out.drewN nq)
          have HWq := Lib.hid (HW.out.below (below_drewN (Below.refl _ _) nq))
          have HRq := Lib.hid (HR.out.drewN nq)
          have HCq := Lib.hid (HC.out.drewN nq)
          clear HB HX HW HR HC cl ch k0 k1 k2 k3 k4 hsl
          go_loopg [72] (hi - lo) (fun g vj wr => ∃ (j : Nat) (vs' : Nat → Value), vj = .int .i64 j ∧ j ≤ hi - lo ∧ g = hi - lo - j ∧ WRep (w.heap.size + 4) h.node.length (webDns r (L.take j) (webUps r (seg h.upF h.up r) (webTo h r))) (w.heap.size + 1 + 1) vs' wr ∧ Cells wr w.heap.size 25 (hierCells A h) ∧ Cells wr (w.heap.size + 1) 92 [.slice none 0 0] ∧ Cells wr (w.heap.size + 1 + 1 + 1) 92 [.slice (some ⟨w.heap.size + 1 + 1, 0, none⟩) h.node.length h.node.length] ∧ Below w.heap.size w wr)
          case atStart => exact ⟨0, _, rfl, Nat.zero_le _, rfl, HWq.out, HXq.out, HRq.out, HCq.out, HBq.out⟩
          case round =>
            obtain ⟨j, vs', rfl, hj, hgj, hw2, hx2, hr2, hc2, hb2⟩ := hrel
            obtain ⟨wo, rfl⟩ : ∃ wo : World, wo = wr := ⟨_, rfl⟩
            have HGJ := Lib.hid hgj
            have HW := Lib.hid hw2
            have HX := Lib.hid hx2
            have HR := Lib.hid hr2
            have HC := Lib.hid hc2
            have HB := Lib.hid hb2
            clear hgj hw2 hx2 hr2 hc2 hb2 HWq HXq HRq HCq HBq
            by_cases hjl : j < hi - lo
            · obtain ⟨x, hx⟩ : ∃ x, L[j]? = some x := ⟨_, List.getElem?_eq_getElem (by rw [LL.out]; exact hjl)⟩
              obtain ⟨hx1, hx2, hx3⟩ := HUP.out x (List.mem_of_getElem? hx)
              obtain ⟨b2, o2, ea2, cc2⟩ := (HSUB.out wo HB.out).cell j x hx
              have e0 := cc2 0 _ rfl
              have e1 := cc2 1 _ rfl
              have e2 := cc2 2 _ rfl
              have e3 := cc2 3 _ rfl
              rw [Nat.add_zero] at e0
              have EA := Lib.hid ea2
              have HXJ := Lib.hid hx
              clear cc2 ea2 hx
              have HLT0 := Lib.hid (fun i (hi : i < h.node.length) q (hq : (vs' i).ownBlock = some q) => own_lt (HW.out.own i hi) hq)
              have hbsz := HC.out.lt
              obtain ⟨wq, hwq⟩ : ∃ wq, wo.alloc (.cells (linkCells x).toArray 39) = wq := ⟨_, rfl⟩
              have hlink := Cells.new wo 39 (linkCells x)
              have ho := (Below.refl wo.heap.size wo).alloc (Nat.le_refl _) (.cells (linkCells x).toArray 39)
              have hwsz : wq.heap.size = wo.heap.size + 1 := by rw [← hwq]; simp
              rw [hwq] at hlink ho
              have hc3 := HC.out.below ho HC.out.lt
              have hx3' := HX.out.below ho HX.out.lt
              have hr3 := HR.out.below ho HR.out.lt
              have hw3 := HW.out.below ho
              have hb3 := HB.out.trans (ho.mono HB.out.size)
              have lb3 := HC.out.lt
              have v0 : wq.cell? ⟨wo.heap.size, 0, none⟩ = some (.int .u32 (x.to : Nat)) := hlink.cell rfl
              have v1 : wq.cell? ⟨wo.heap.size, 1, none⟩ = some (.int .u64 (x.wt : Nat)) := hlink.cell rfl
              have q3 : wq.cell? ⟨w.heap.size + 1 + 1 + 1, 0, none⟩ = some (.slice (some ⟨w.heap.size + 1 + 1, 0, none⟩) h.node.length h.node.length) := hc3.cell rfl
              have HL3 := Lib.hid hlink
              have HC3 := Lib.hid hc3
              have HX3 := Lib.hid hx3'
              have HR3 := Lib.hid hr3
              have HW3 := Lib.hid hw3
              have HB3 := Lib.hid hb3
              have HWQ := Lib.hid hwq
              clear hlink ho hc3 hx3' hr3 hw3 hb3 HC HX HR HW HB
              rw [EA.out]
              go_upto_region 13 with fail
              try rw [show wo.alloc (.cells #[.int .u32 x.to, .int .u64 x.wt, .int .u32 x.left, .int .u32 x.right] 39) = wq from HWQ.out]
              clear e0 e1 e2 e3
              change Code.wp _ ((regionAt 13 weaveBody).getD .skip) _ _ _
              obtain ⟨ao, cap, hvs⟩ := own_form' (HW3.out.own x.to hx2)
              have hL := HW3.out.own x.to hx2
              have hne := HW3.out.lo x.to hx2
              rw [hvs] at hL hne
              have hlt0 := HLT0.out x.to hx2
              rw [hvs] at hlt0
              have hm : (webDns r (L.take j) (webUps r (seg h.upF h.up r) (webTo h r)) x.to).length ≤ 1048576 := by
                have a1 := dns_len r (L.take j) (webUps r (seg h.upF h.up r) (webTo h r)) x.to
                have a2 := HBND.out x.to
                have a3 : (L.take j).length ≤ hi - lo := by rw [List.length_take, LL.out]; omega
                omega
              have hidx : ((List.range h.node.length).map vs')[x.to]? = some (.slice ao (webDns r (L.take j) (webUps r (seg h.upF h.up r) (webTo h r)) x.to).length cap) := by rw [List.getElem?_map, List.getElem?_range (by omega), ← hvs]; rfl
              have hx32 : x.to < 4294967296 := by omega
              refine weave_app13 (r := r) (tn := x.to) (wt := x.wt) _ (fun _ _ t _ _ hq => by cases t <;> exact hq) q3 v0 v1 HW3.out.o hidx (by omega) hL (fun q hq => ⟨by have := hne q hq; omega, by have := hlt0 q hq; omega, (hne q hq).2⟩) (by omega) (by omega) hm hx32 ?_
              intro t76 t77 t78 t79 t80 t81 t82 t83 t84 t85 t86 t87 t88 t89 t90 t91 t92 ao2 cap2 w6 hown6 hblk6 hcells6 honly6
              rw [← hvs] at hblk6 honly6
              have hone : Only ((w.heap.size + 1 + 1) :: (vs' x.to).ownBlock.toList) wq w6 := honly6
              have hnew := HW3.out.app hx2 (r, x.wt) _ (by omega) (by omega) hown6 hblk6 hcells6 honly6
              have hnm : ∀ b, b < w.heap.size + 1 + 1 ∨ b = w.heap.size + 1 + 1 + 1 → b ∉ ((w.heap.size + 1 + 1) :: (vs' x.to).ownBlock.toList) := fun b hb hm2 => by
                rw [List.mem_cons] at hm2
                rcases hm2 with e | e
                · omega
                · have := (HW3.out.lo x.to hx2 b (by simpa using e)).1
                  omega
              have hx6 := HX3.out.kept hone (hnm _ (.inl (by omega)))
              have hr6 := HR3.out.kept hone (hnm _ (.inl (by omega)))
              have hc6 := HC3.out.kept hone (hnm _ (.inr rfl))
              have hb6 : Below w.heap.size w w6 := HB3.out.trans (hone.below HB3.out.size (fun q hq => by
                rw [List.mem_cons] at hq
                rcases hq with e | e
                · omega
                · have := (HW3.out.lo x.to hx2 q (by simpa using e)).1
                  omega))
              have hS : putS (webDns r (L.take j) (webUps r (seg h.upF h.up r) (webTo h r))) x.to (r, x.wt) = webDns r (L.take (j + 1)) (webUps r (seg h.upF h.up r) (webTo h r)) := by
                rw [List.take_add_one, HXJ.out]
                simp only [webDns, Option.toList_some, List.foldl_append, List.foldl_cons, List.foldl_nil]
              rw [hS] at hnew
              have HW6 := Lib.hid hnew
              have HX6 := Lib.hid hx6
              have HR6 := Lib.hid hr6
              have HC6 := Lib.hid hc6
              have HB6 := Lib.hid hb6
              clear hown6 hblk6 hcells6 honly6 hone hnew hnm hx6 hr6 hc6 hb6 hS hidx hL hne hlt0 HW3 HX3 HR3 HC3 HB3 HL3 v0 v1 q3
              try dsimp only [Exit.then]
              go_wp2_with fail
              rw [← EA.out]
              go_roundg (hi - lo - (j + 1))
              case measure => rw [HGJ.out]; omega
              case rel => exact ⟨j + 1, _, by go_num, by omega, rfl, HW6.out, HX6.out, HR6.out, HC6.out, HB6.out⟩
            · obtain rfl : j = hi - lo := by omega
              have hfull := HW.out
              rw [List.take_of_length_le (by rw [LL.out]; exact Nat.le_refl _), ← HSEG.out] at hfull
              clear HW HSEG LL HSUB HUP HBND
              have HW := Lib.hid hfull
              clear hfull
              go_wp2_with fail
              go_roundg (h.node.length - (r + 1))
              case measure => rw [HGR.out]; omega
              case rel => exact ⟨r + 1, _, by go_num, by omega, rfl, HW.out, HX.out, HR.out, HC.out, HB.out⟩
    · obtain rfl : r = h.node.length := by omega
      have z0 : wp.cell? ⟨w.heap.size + 1, 0, none⟩ = some (.slice none 0 0) := HR.out.cell rfl
      have y0 : wp.cell? ⟨w.heap.size + 1 + 1 + 1, 0, none⟩ = some (.slice (some ⟨w.heap.size + 1 + 1, 0, none⟩) h.node.length h.node.length) := HC.out.cell rfl
      have g0 := HR.out.frozen 0
      have lr := HR.out.lt
      go_wp2
      refine bodyPost_ret (results_c rfl _ _ (w.heap.size + 1) 92 [.slice (some ⟨w.heap.size + 1 + 1, 0, none⟩) h.node.length h.node.length] _ rfl (HR.out.set 0 _) Tryd.underlying92 rfl (by rw [Tryd.sizeWeb]; rfl)) rfl ?_
      exact ⟨w.heap.size + 1 + 1, w.heap.size + 4, vs, rfl, HW.out.kept (bs := [w.heap.size + 1]) ((Only.refl _ _).setCell (.inl (by simp)) _) (by simp) (fun q hq => by simp at hq; omega), by omega, by omega, HB.out.setCell (p := ⟨w.heap.size + 1, 0, none⟩) (by simp) _⟩
end Go.Proofs.YtjbphoophgbmiaaDoor
