/- The iterator over a hierarchy's links: hier's links, and its closure. -/
import Derived.Test.YtblkkjfpggcgfaaGreatDoorH7
import Derived.RangeFuncNested
import Derived.RangeFuncBound
import Derived.RangeFuncCalls
import Derived.RangeFuncLeaves
import Derived.RangeFuncBox
import Derived.Shelf.Abstract
import Derived.OwnWalkIn
import Derived.TacticsInMore
import Derived.LoopNIn
import Derived.LoopIn
import Derived.Sort.QuietIn
import Derived.Sort.LoopGhostIn
namespace Go.Proofs.YtblkkjfpggcgfaaGreatDoor
open Go.ChangeShapes Go.WideShapes Go.ChangeAt Go.RowKit Go.Joins Go.Deep Go.Shelf
def endVal (x : EndD) : Value := .agg #[.int .u32 x.link.to, .int .u64 x.link.wt, .int .u32 x.link.left, .int .u32 x.link.right, .int .i64 x.tail, .int .i64 x.head, .int .i64 x.rank]
def hierCells (A : HA) (h : HierD) : List Value := [.slice A.a0 h.node.length A.c0, .slice A.a1 h.upF.length A.c1, .slice A.a2 h.up.length A.c2, .slice A.a3 h.dnF.length A.c3, .slice A.a4 h.dn.length A.c4]
def KpH (n₀ Bh : Nat) (W W' : World) : Prop := Below n₀ W W' ∧ W'.heap[Bh]? = W.heap[Bh]?
theorem KpH.trans {n₀ Bh : Nat} {A B C : World} (h : KpH n₀ Bh A B) (k : KpH n₀ Bh B C) : KpH n₀ Bh A C := ⟨h.1.trans k.1, k.2.trans h.2⟩
theorem kpH_b {n₀ Bh : Nat} {w : World} (hn : n₀ ≤ w.heap.size) (hb : Bh < w.heap.size) (W : World) (l : Nat) (o o' : Obj) (hl : w.heap.size ≤ l) (h : W.heap[l]? = some o) (hc : o.isCells = false) (hw : o.isWalk = false) : KpH n₀ Bh W (W.putObj l o') :=
  ⟨belowK_b hn W l o o' hl h hc hw, World.putObj_heap_other (by omega)⟩
theorem endsUp_length {n : Nat} {first : List Nat} {links : List LinkD} (ok : FirstsOk n first links.length) (r : Nat) (hr : r ≤ n) : ((List.range r).flatMap (endsUp first links)).length = first.getD r 0 := by
  induction r with
  | zero => rw [ok.zero]; rfl
  | succ r ih =>
    have h1 := ok.mono r (by omega)
    have h2 := ok.le (r + 1) hr
    rw [List.range_succ, List.flatMap_append, List.length_append, ih (by omega)]
    simp only [List.flatMap_cons, List.flatMap_nil, List.append_nil, endsUp, seg, List.length_map, List.length_drop, List.length_take]
    omega
theorem endsDn_length {n : Nat} {first : List Nat} {links : List LinkD} (ok : FirstsOk n first links.length) (r : Nat) (hr : r ≤ n) : ((List.range r).flatMap (endsDn first links)).length = first.getD r 0 := by
  have := endsUp_length ok r hr
  rw [← this]
  clear this
  induction r with
  | zero => rfl
  | succ r ih =>
    rw [List.range_succ, List.flatMap_append, List.length_append, ih (by omega), List.flatMap_append, List.length_append]
    simp [endsDn, endsUp]
theorem endsOf_length {h : HierD} (u : FirstsOk h.node.length h.upF h.up.length) (d : FirstsOk h.node.length h.dnF h.dn.length) : (endsOf h).length = h.up.length + h.dn.length := by
  unfold endsOf
  rw [List.length_append, endsUp_length u _ (Nat.le_refl _), endsDn_length d _ (Nat.le_refl _), u.last, d.last]
set_option maxHeartbeats 1000000 in
theorem links_any (A : HA) (h : HierD) (w : World) : Calls Tryz.prog 37 #[hierVal A h] w fun e w' => e = .returned (.func (.func 65) #[] #[.pointer (some ⟨w.heap.size, 0, none⟩)]) ∧ w' = w.alloc (.cells (hierCells A h).toArray 25) := by
  unfold hierVal
  go_enter Tryz.func37, Tryz.ntmps37
  go_wp2
  go_returns
  exact ⟨rfl, rfl⟩
def LinksPost (h : HierD) (J Jx : List (Nat × EndD) → World → Prop) (e : Ending) (W' : World) : Prop := (∃ v, e = .returned v) ∧ ((∃ ys : List (Nat × EndD), ys.map Prod.snd = endsOf h ∧ J ys W') ∨ (∃ pre, True ∧ Jx pre W'))
set_option maxRecDepth 100000 in
set_option maxHeartbeats 4000000 in
theorem links1_in (n : Nat) (hn : 1 ≤ n) (l Bh : Nat) (h : HierD) (A : HA) (w W : World) (J Jx : List (Nat × EndD) → World → Prop) (hJ : AbidesFrom W.heap.size J)
    (hY : ∀ pre x W1, J pre W1 → pre.length < (endsOf h).length → YieldAt Fence.wide (n - 1) Tryz.prog l #[.int .i64 (x.1 : Int), endVal x.2] W1 fun e W' =>
      (e = .returned (.bool true) ∧ J (pre ++ [x]) W' ∧ KpH w.heap.size Bh W1 W') ∨ (e = .returned (.bool false) ∧ Jx (pre ++ [x]) W'))
    (hBh : Cells W Bh 25 (hierCells A h)) (see : HSee w A h) (hw : Below w.heap.size w W) (u : FirstsOk h.node.length h.upF h.up.length) (d : FirstsOk h.node.length h.dnF h.dn.length) (hn1 : h.node.length ≤ 65536) (hl1 : h.up.length + h.dn.length ≤ 1048576) (h0 : J [] W) :
    CallsIn Fence.wide n Tryz.prog 65 #[.func (.yield l) #[] #[], .pointer (some ⟨Bh, 0, none⟩)] W (LinksPost h J Jx) := by
  have hlen := endsOf_length u d
  have HY := Lib.hid hY
  have HJ := Lib.hid hJ
  have SEE := Lib.hid see
  have UOK := Lib.hid u
  have DOK := Lib.hid d
  have HL := Lib.hid hlen
  have HW := Lib.hid hw
  clear hY hJ see u d hlen hw
  have HB := Lib.hid hBh
  have HJ0 := Lib.hid h0
  have k0 : W.cell? ⟨Bh, 0, none⟩ = some (.slice A.a0 h.node.length A.c0) := hBh.cell rfl
  clear hBh h0
  refine callsIn_of_wp Tryz.func65 rfl trivial ?_ rfl
  simp only [Tryz.ntmps65, List.size_toArray, List.length_cons, List.length_nil, Nat.reduceAdd, Nat.reduceSub, Array.replicate_succ, Array.replicate_zero, List.push_toArray, List.append_toArray, List.nil_append, List.cons_append]
  gi_wp2_with fail
  gi_loopg [3, 13] h.node.length (fun g vi vr wr => ∃ (r : Nat) (pre : List (Nat × EndD)), vr = .int .i64 r ∧ vi = .int .i64 pre.length ∧ r ≤ h.node.length ∧ g = h.node.length - r ∧ pre.map Prod.snd = (List.range r).flatMap (endsUp h.upF h.up) ∧ J pre wr ∧ Below w.heap.size w wr ∧ Cells wr Bh 25 (hierCells A h) ∧ W.heap.size ≤ wr.heap.size)
  case atStart => exact ⟨0, [], rfl, rfl, Nat.zero_le _, rfl, rfl, HJ0.out, HW.out, HB.out, Nat.le_refl _⟩
  case round =>
    obtain ⟨r, pre, rfl, rfl, hr, hg, hpre, hjp, hbl, hcs, hsz⟩ := hrel
    have HG := Lib.hid hg
    have HPRE := Lib.hid hpre
    have HJP := Lib.hid hjp
    have HBL := Lib.hid hbl
    have HCS := Lib.hid hcs
    clear hg hpre hjp hbl hcs
    have q0 : wr.cell? ⟨Bh, 0, none⟩ = some (.slice A.a0 h.node.length A.c0) := HCS.out.cell rfl
    by_cases hrn : r < h.node.length
    · have hfl := UOK.out.len
      obtain ⟨lo, hlo⟩ : ∃ lo, h.upF[r]? = some lo := ⟨_, List.getElem?_eq_getElem (by omega)⟩
      obtain ⟨hi, hhi⟩ : ∃ hi, h.upF[r + 1]? = some hi := ⟨_, List.getElem?_eq_getElem (by omega)⟩
      have glo : h.upF.getD r 0 = lo := by rw [List.getD_eq_getElem?_getD, hlo]; rfl
      have ghi : h.upF.getD (r + 1) 0 = hi := by rw [List.getD_eq_getElem?_getD, hhi]; rfl
      have hlh : lo ≤ hi := by rw [← glo, ← ghi]; exact UOK.out.mono r hrn
      have hhl : hi ≤ h.up.length := by rw [← ghi]; exact UOK.out.le (r + 1) (by omega)
      have hseg : seg h.upF h.up r = (h.up.take hi).drop lo := by unfold seg; rw [glo, ghi]
      have su := SEE.out.below HBL.out
      have hhc : hi ≤ A.c2 := Nat.le_trans hhl su.up.hcap
      have hhi32 : hi < 4294967296 := su.bu hi (List.mem_of_getElem? hhi)
      obtain ⟨b1, o1, ea1, lb1, cc1⟩ := see_one (f := fun (n : Nat) => Value.int .u32 n) su.upF (by omega)
      have cl := cc1 r lo hlo
      have ch := cc1 (r + 1) hi hhi
      have q1 : wr.cell? ⟨Bh, 1, none⟩ = some (.slice A.a1 h.upF.length A.c1) := HCS.out.cell rfl
      rw [ea1] at q1
      have q2 : wr.cell? ⟨Bh, 2, none⟩ = some (.slice A.a2 h.up.length A.c2) := HCS.out.cell rfl
      have hil : r < h.upF.length := by omega
      have hil1 : r + 1 < h.upF.length := by omega
      have hsl := run_sub (P := Tryz.prog) 23 63 4 Tryz.underlying23 Tryz.sizeLink A.a2 h.up.length A.c2 lo hi .u32 .u32 hlh hhc
      have hLlen : ((h.up.take hi).drop lo).length = hi - lo := by simp; omega
      have hSUB : ∀ X, Below w.heap.size w X → See X (slBase A.a2 lo A.c2 4) (A.c2 - lo) linkCells 4 ((h.up.take hi).drop lo) := fun X hX => (SEE.out.below hX).up.sub lo hi hhl
      have hplen : pre.length = lo := by
        have := congrArg List.length HPRE.out
        rw [List.length_map, endsUp_length UOK.out r hr, glo] at this
        exact this
      have hok : ∀ x ∈ (h.up.take hi).drop lo, x.ok := fun x hx => su.bup x (List.mem_of_mem_take (List.mem_of_mem_drop hx))
      have LL := Lib.hid hLlen
      have HSUB := Lib.hid hSUB
      have HSEG := Lib.hid hseg
      have HPL := Lib.hid hplen
      have HOK := Lib.hid hok
      clear hfl hlo hhi glo ghi hseg su cc1 ea1 hLlen hSUB hplen hok
      generalize (h.up.take hi).drop lo = L at *
      gi_wp2_with fail
      gi_quiet (fail)
      gi_wp2_with fail
      obtain ⟨wo, hwo⟩ : ∃ wo : World, wo = wr := ⟨_, rfl⟩
      gi_loopg [3, 31] (hi - lo) (fun g vi vj wr => ∃ (j : Nat) (pre2 : List (Nat × EndD)), vj = .int .i64 j ∧ vi = .int .i64 pre2.length ∧ j ≤ hi - lo ∧ g = hi - lo - j ∧ pre2.length = lo + j ∧ pre2.map Prod.snd = (List.range r).flatMap (endsUp h.upF h.up) ++ (L.map fun l => (⟨l, r, l.to, r⟩ : EndD)).take j ∧ J pre2 wr ∧ Below w.heap.size w wr ∧ Cells wr Bh 25 (hierCells A h) ∧ W.heap.size ≤ wr.heap.size)
      case atStart =>
        refine ⟨0, pre, rfl, rfl, Nat.zero_le _, rfl, HPL.out, by rw [HPRE.out]; simp, ?_, below_drewN HBL.out _, HCS.out, hsz⟩
        exact HJ.out pre wr _ none HJP.out ⟨rfl, rfl, rfl, Nat.le_refl _, fun _ _ _ => rfl⟩ (fun r e => by cases e)
      case round =>
        obtain ⟨j, pre2, rfl, rfl, hj, hgj, hpl2, hpre2, hjp2, hbl2, hcs2, hsz2⟩ := hrel
        have HGJ := Lib.hid hgj
        have HPL2 := Lib.hid hpl2
        have HPRE2 := Lib.hid hpre2
        have HJP2 := Lib.hid hjp2
        have HBL2 := Lib.hid hbl2
        have HCS2 := Lib.hid hcs2
        clear hgj hpl2 hpre2 hjp2 hbl2 hcs2
        by_cases hjl : j < hi - lo
        · obtain ⟨x, hx⟩ : ∃ x, L[j]? = some x := ⟨_, List.getElem?_eq_getElem (by rw [LL.out]; exact hjl)⟩
          have hxo := HOK.out x (List.mem_of_getElem? hx)
          obtain ⟨b2, o2, ea2, cc2⟩ := (HSUB.out wr HBL2.out).cell j x hx
          have e0 := cc2 0 _ rfl
          have e1 := cc2 1 _ rfl
          have e2 := cc2 2 _ rfl
          have e3 := cc2 3 _ rfl
          rw [Nat.add_zero] at e0
          have lb2 := block_lt e0
          have xb := hxo.1
          have EA := Lib.hid ea2
          have HX := Lib.hid hx
          have hplb : pre2.length < 1048576 := by rw [HPL2.out]; omega
          have hJa : J pre2 (wr.alloc (.cells #[.int .u32 x.to, .int .u64 x.wt, .int .u32 x.left, .int .u32 x.right] 63)) := HJ.out pre2 wr _ none HJP2.out (World.grownBy_alloc wr _ none) (fun r e => by cases e)
          obtain ⟨fn, tmps, assign, body, hy, hR⟩ := HY.out pre2 (pre2.length, ⟨x, r, x.to, r⟩) _ hJa (by rw [HL.out, HPL2.out]; omega)
          unfold endVal at hy
          dsimp only at hy
          have HR := Lib.hid hR
          clear hx cc2 ea2 hxo hJa hR
          rw [EA.out]
          gi_wp2_with fail
          refine HR.out.mono ?_
          rintro e W3 (⟨rfl, hJ3, hk3⟩ | ⟨rfl, hJx3⟩)
          · gi_wp2_with fail
            rw [← EA.out]
            gi_roundg (hi - lo - (j + 1))
            case measure => rw [HGJ.out]; omega
            case rel =>
              have hz := hk3.1.size
              refine ⟨j + 1, pre2 ++ [(pre2.length, (⟨x, r, x.to, r⟩ : EndD))], by go_num, ?_, by omega, rfl, by simp [HPL2.out]; omega, ?_, hJ3, (HBL2.out.alloc HBL2.out.size _).trans hk3.1, hk3.2.trans (HCS2.out.alloc _), ?_⟩
              · simp
              · rw [List.map_append, HPRE2.out, List.take_add_one, List.getElem?_map, HX.out]
                simp
              · simp only [World.size_alloc] at hz
                omega
          · gi_wp2
            refine bodyPost_ret (results_none rfl _ _ _) rfl ?_
            exact ⟨⟨_, rfl⟩, .inr ⟨_, trivial, hJx3⟩⟩
        · obtain rfl : j = hi - lo := by omega
          gi_wp2_with fail
          gi_roundg (h.node.length - (r + 1))
          case measure => rw [HG.out]; omega
          case rel =>
            refine ⟨r + 1, pre2, by go_num, rfl, by omega, rfl, ?_, HJP2.out, HBL2.out, HCS2.out, hsz2⟩
            rw [HPRE2.out, List.range_succ, List.flatMap_append, List.take_of_length_le (by rw [List.length_map, LL.out]; exact Nat.le_refl _)]
            simp [endsUp, HSEG.out]
    · obtain rfl : r = h.node.length := by omega
      gi_wp2_with fail
      gi_loopg [3, 53] h.node.length (fun g vi vr wr => ∃ (r : Nat) (pre : List (Nat × EndD)), vr = .int .i64 r ∧ vi = .int .i64 pre.length ∧ r ≤ h.node.length ∧ g = h.node.length - r ∧ pre.map Prod.snd = (List.range h.node.length).flatMap (endsUp h.upF h.up) ++ (List.range r).flatMap (endsDn h.dnF h.dn) ∧ J pre wr ∧ Below w.heap.size w wr ∧ Cells wr Bh 25 (hierCells A h) ∧ W.heap.size ≤ wr.heap.size)
      case atStart => exact ⟨0, pre, rfl, rfl, Nat.zero_le _, rfl, by rw [HPRE.out]; simp, HJP.out, HBL.out, HCS.out, hsz⟩
      case round =>
        obtain ⟨r, pre, rfl, rfl, hr, hg, hpre, hjp, hbl, hcs, hsz⟩ := hrel
        have HG := Lib.hid hg
        have HPRE := Lib.hid hpre
        have HJP := Lib.hid hjp
        have HBL := Lib.hid hbl
        have HCS := Lib.hid hcs
        clear hg hpre hjp hbl hcs
        have q0 : wr.cell? ⟨Bh, 0, none⟩ = some (.slice A.a0 h.node.length A.c0) := HCS.out.cell rfl
        by_cases hrn : r < h.node.length
        · have hfl := DOK.out.len
          obtain ⟨lo, hlo⟩ : ∃ lo, h.dnF[r]? = some lo := ⟨_, List.getElem?_eq_getElem (by omega)⟩
          obtain ⟨hi, hhi⟩ : ∃ hi, h.dnF[r + 1]? = some hi := ⟨_, List.getElem?_eq_getElem (by omega)⟩
          have glo : h.dnF.getD r 0 = lo := by rw [List.getD_eq_getElem?_getD, hlo]; rfl
          have ghi : h.dnF.getD (r + 1) 0 = hi := by rw [List.getD_eq_getElem?_getD, hhi]; rfl
          have hlh : lo ≤ hi := by rw [← glo, ← ghi]; exact DOK.out.mono r hrn
          have hhl : hi ≤ h.dn.length := by rw [← ghi]; exact DOK.out.le (r + 1) (by omega)
          have hseg : seg h.dnF h.dn r = (h.dn.take hi).drop lo := by unfold seg; rw [glo, ghi]
          have su := SEE.out.below HBL.out
          have hhc : hi ≤ A.c4 := Nat.le_trans hhl su.dn.hcap
          have hhi32 : hi < 4294967296 := su.bd hi (List.mem_of_getElem? hhi)
          obtain ⟨b1, o1, ea1, lb1, cc1⟩ := see_one (f := fun (n : Nat) => Value.int .u32 n) su.dnF (by omega)
          have cl := cc1 r lo hlo
          have ch := cc1 (r + 1) hi hhi
          have q1 : wr.cell? ⟨Bh, 3, none⟩ = some (.slice A.a3 h.dnF.length A.c3) := HCS.out.cell rfl
          rw [ea1] at q1
          have q2 : wr.cell? ⟨Bh, 4, none⟩ = some (.slice A.a4 h.dn.length A.c4) := HCS.out.cell rfl
          have hil : r < h.dnF.length := by omega
          have hil1 : r + 1 < h.dnF.length := by omega
          have hsl := run_sub (P := Tryz.prog) 23 63 4 Tryz.underlying23 Tryz.sizeLink A.a4 h.dn.length A.c4 lo hi .u32 .u32 hlh hhc
          have hLlen : ((h.dn.take hi).drop lo).length = hi - lo := by simp; omega
          have hSUB : ∀ X, Below w.heap.size w X → See X (slBase A.a4 lo A.c4 4) (A.c4 - lo) linkCells 4 ((h.dn.take hi).drop lo) := fun X hX => (SEE.out.below hX).dn.sub lo hi hhl
          have hplen : pre.length = h.up.length + lo := by
            have := congrArg List.length HPRE.out
            rw [List.length_map, List.length_append, endsUp_length UOK.out _ (Nat.le_refl _), UOK.out.last, endsDn_length DOK.out r hr, glo] at this
            exact this
          have hok : ∀ x ∈ (h.dn.take hi).drop lo, x.ok := fun x hx => su.bdn x (List.mem_of_mem_take (List.mem_of_mem_drop hx))
          have LL := Lib.hid hLlen
          have HSUB := Lib.hid hSUB
          have HSEG := Lib.hid hseg
          have HPL := Lib.hid hplen
          have HOK := Lib.hid hok
          clear hfl hlo hhi glo ghi hseg su cc1 ea1 hLlen hSUB hplen hok
          generalize (h.dn.take hi).drop lo = L at *
          gi_wp2_with fail
          gi_quiet (fail)
          gi_wp2_with fail
          obtain ⟨wo, hwo⟩ : ∃ wo : World, wo = wr := ⟨_, rfl⟩
          gi_loopg [3, 71] (hi - lo) (fun g vi vj wr => ∃ (j : Nat) (pre2 : List (Nat × EndD)), vj = .int .i64 j ∧ vi = .int .i64 pre2.length ∧ j ≤ hi - lo ∧ g = hi - lo - j ∧ pre2.length = h.up.length + lo + j ∧ pre2.map Prod.snd = (List.range h.node.length).flatMap (endsUp h.upF h.up) ++ (List.range r).flatMap (endsDn h.dnF h.dn) ++ (L.map fun l => (⟨l, l.to, r, r⟩ : EndD)).take j ∧ J pre2 wr ∧ Below w.heap.size w wr ∧ Cells wr Bh 25 (hierCells A h) ∧ W.heap.size ≤ wr.heap.size)
          case atStart =>
            refine ⟨0, pre, rfl, rfl, Nat.zero_le _, rfl, HPL.out, by rw [HPRE.out]; simp, ?_, below_drewN HBL.out _, HCS.out, hsz⟩
            exact HJ.out pre wr _ none HJP.out ⟨rfl, rfl, rfl, Nat.le_refl _, fun _ _ _ => rfl⟩ (fun r e => by cases e)
          case round =>
            obtain ⟨j, pre2, rfl, rfl, hj, hgj, hpl2, hpre2, hjp2, hbl2, hcs2, hsz2⟩ := hrel
            have HGJ := Lib.hid hgj
            have HPL2 := Lib.hid hpl2
            have HPRE2 := Lib.hid hpre2
            have HJP2 := Lib.hid hjp2
            have HBL2 := Lib.hid hbl2
            have HCS2 := Lib.hid hcs2
            clear hgj hpl2 hpre2 hjp2 hbl2 hcs2
            by_cases hjl : j < hi - lo
            · obtain ⟨x, hx⟩ : ∃ x, L[j]? = some x := ⟨_, List.getElem?_eq_getElem (by rw [LL.out]; exact hjl)⟩
              have hxo := HOK.out x (List.mem_of_getElem? hx)
              obtain ⟨b2, o2, ea2, cc2⟩ := (HSUB.out wr HBL2.out).cell j x hx
              have e0 := cc2 0 _ rfl
              have e1 := cc2 1 _ rfl
              have e2 := cc2 2 _ rfl
              have e3 := cc2 3 _ rfl
              rw [Nat.add_zero] at e0
              have lb2 := block_lt e0
              have xb := hxo.1
              have EA := Lib.hid ea2
              have HX := Lib.hid hx
              have hplb : pre2.length < 1048576 := by rw [HPL2.out]; omega
              have hJa : J pre2 (wr.alloc (.cells #[.int .u32 x.to, .int .u64 x.wt, .int .u32 x.left, .int .u32 x.right] 63)) := HJ.out pre2 wr _ none HJP2.out (World.grownBy_alloc wr _ none) (fun r e => by cases e)
              obtain ⟨fn, tmps, assign, body, hy, hR⟩ := HY.out pre2 (pre2.length, ⟨x, x.to, r, r⟩) _ hJa (by rw [HL.out, HPL2.out]; omega)
              unfold endVal at hy
              dsimp only at hy
              have HR := Lib.hid hR
              clear hx cc2 ea2 hxo hJa hR
              rw [EA.out]
              gi_wp2_with fail
              refine HR.out.mono ?_
              rintro e W3 (⟨rfl, hJ3, hk3⟩ | ⟨rfl, hJx3⟩)
              · gi_wp2_with fail
                rw [← EA.out]
                gi_roundg (hi - lo - (j + 1))
                case measure => rw [HGJ.out]; omega
                case rel =>
                  have hz := hk3.1.size
                  refine ⟨j + 1, pre2 ++ [(pre2.length, (⟨x, x.to, r, r⟩ : EndD))], by go_num, ?_, by omega, rfl, by simp [HPL2.out]; omega, ?_, hJ3, (HBL2.out.alloc HBL2.out.size _).trans hk3.1, hk3.2.trans (HCS2.out.alloc _), ?_⟩
                  · simp
                  · rw [List.map_append, HPRE2.out, List.take_add_one, List.getElem?_map, HX.out]
                    simp
                  · simp only [World.size_alloc] at hz
                    omega
              · gi_wp2
                refine bodyPost_ret (results_none rfl _ _ _) rfl ?_
                exact ⟨⟨_, rfl⟩, .inr ⟨_, trivial, hJx3⟩⟩
            · obtain rfl : j = hi - lo := by omega
              gi_wp2_with fail
              gi_roundg (h.node.length - (r + 1))
              case measure => rw [HG.out]; omega
              case rel =>
                refine ⟨r + 1, pre2, by go_num, rfl, by omega, rfl, ?_, HJP2.out, HBL2.out, HCS2.out, hsz2⟩
                rw [HPRE2.out, List.range_succ (n := r), List.flatMap_append (xs := List.range r), List.take_of_length_le (by rw [List.length_map, LL.out]; exact Nat.le_refl _)]
                simp [endsDn, HSEG.out]
        · obtain rfl : r = h.node.length := by omega
          gi_wp2
          go_end0
          exact ⟨⟨_, rfl⟩, .inl ⟨pre, HPRE.out, HJP.out⟩⟩
end Go.Proofs.YtblkkjfpggcgfaaGreatDoor
namespace Go.Proofs.YtblkkjfpggcgfaaGreatDoor
open Go.ChangeShapes Go.WideShapes Go.ChangeAt Go.RowKit Go.Joins Go.Deep
def EndsPost (h : HierD) (w : World) (e : Ending) (w' : World) : Prop :=
  (∃ v, e = .returned (.tuple #[.slice none 0 0, v]) ∧ ErrIs w' v (checkErr h) ∧ checkErr h ≠ .nil ∧ Below w.heap.size w w') ∨
  (∃ ao cap, e = .returned (.tuple #[.slice ao (endsOf h).length cap, .nilIface]) ∧ checkErr h = .nil ∧ See w' ao cap endCells 7 (endsOf h) ∧ Below w.heap.size w w')
theorem EndsPost.bad {h : HierD} {w w' : World} {v : Value} {x : EV} (hc : checkErr h = x) (hx : x ≠ .nil) (hv : ErrIs w' v x) (hb : Below w.heap.size w w') : EndsPost h w (.returned (.tuple #[.slice none 0 0, v])) w' :=
  .inl ⟨v, rfl, by rw [hc]; exact hv, by rw [hc]; exact hx, hb⟩
set_option maxRecDepth 100000 in
set_option maxHeartbeats 2000000 in
theorem ends_limit1 (A : HA) (h : HierD) (w : World) (see : HSee w A h) (h1 : 65536 < h.node.length) : Calls Tryz.prog 16 #[hierVal A h] w (EndsPost h w) := by
  have hd : decide (65536 < h.node.length) = true := by simpa using h1
  have hc : checkErr h = .code 9 := by unfold checkErr; rw [if_pos (.inl h1)]
  have HC := Lib.hid hc
  have hl := Nat.le_trans see.node.hcap see.node.hmax
  clear see hc
  unfold hierVal
  go_enter Tryz.func16, Tryz.ntmps16
  go_wp2
  go_returns
  exact EndsPost.bad HC.out (by simp) rfl (by go_grown)
set_option maxRecDepth 100000 in
set_option maxHeartbeats 2000000 in
theorem ends_limit2 (A : HA) (h : HierD) (w : World) (h1 : h.node.length ≤ 65536) (h2 : 1048576 < wrap64 ((h.up.length : Int) + (h.dn.length : Int))) : Calls Tryz.prog 16 #[hierVal A h] w (EndsPost h w) := by
  have hd : decide (65536 < h.node.length) = false := by simpa using h1
  have hd2 : decide (1048576 < wrap64 ((h.up.length : Int) + (h.dn.length : Int))) = true := by simpa using h2
  have hc : checkErr h = .code 9 := by unfold checkErr; rw [if_pos (.inr h2)]
  have HC := Lib.hid hc
  clear hc
  unfold hierVal
  go_enter Tryz.func16, Tryz.ntmps16
  go_wp2
  go_returns
  exact EndsPost.bad HC.out (by simp) rfl (by go_grown)
set_option maxRecDepth 100000 in
set_option maxHeartbeats 2000000 in
theorem ends_shape1 (A : HA) (h : HierD) (w : World) (h1 : h.node.length ≤ 65536) (h2 : wrap64 ((h.up.length : Int) + (h.dn.length : Int)) ≤ 1048576) (h3 : h.upF.length ≠ h.node.length + 1 ∨ h.dnF.length ≠ h.node.length + 1) : Calls Tryz.prog 16 #[hierVal A h] w (EndsPost h w) := by
  have hd : decide (65536 < h.node.length) = false := by simpa using h1
  have hd2 : decide (1048576 < wrap64 ((h.up.length : Int) + (h.dn.length : Int))) = false := by simpa using h2
  have hc : checkErr h = .code 14 := by unfold checkErr; rw [if_neg (by omega), if_pos h3]
  have HC := Lib.hid hc
  clear hc
  unfold hierVal
  by_cases h4 : h.upF.length = h.node.length + 1
  · have h5 : h.dnF.length ≠ h.node.length + 1 := by omega
    have g1 : ((h.upF.length : Int) != (h.node.length : Int) + 1) = false := by simp; omega
    have g2 : ((h.dnF.length : Int) != (h.node.length : Int) + 1) = true := by simp; omega
    clear h3
    go_enter Tryz.func16, Tryz.ntmps16
    go_wp2
    go_returns
    exact EndsPost.bad HC.out (by simp) rfl (by go_grown)
  · have g1 : ((h.upF.length : Int) != (h.node.length : Int) + 1) = true := by simp; omega
    clear h3
    go_enter Tryz.func16, Tryz.ntmps16
    go_wp2
    go_returns
    exact EndsPost.bad HC.out (by simp) rfl (by go_grown)
theorem ErrIs.iface {w : World} {v : Value} {x : EV} (h : ErrIs w v x) (hx : x ≠ .nil) : ∃ t u, v = .iface t u := by
  cases x with
  | nil => exact absurd rfl hx
  | code n => exact ⟨_, _, h⟩
  | «at» k i n => obtain ⟨b, e, -⟩ := h; exact ⟨_, _, e⟩
theorem ErrIs.nilv {w : World} {v : Value} {x : EV} (h : ErrIs w v x) (hx : x = .nil) : v = .nilIface := by
  subst hx
  exact h
structure Fits (h : HierD) : Prop where
  n : h.node.length ≤ 65536
  s : wrap64 ((h.up.length : Int) + (h.dn.length : Int)) ≤ 1048576
  u : h.upF.length = h.node.length + 1
  d : h.dnF.length = h.node.length + 1
theorem Fits.err {h : HierD} (f : Fits h) : checkErr h = (match firstsErr h.upF h.up.length with | .nil => (match firstsErr h.dnF h.dn.length with | .nil => (match orderErr h.node with | .nil => linksGo h.node.length h.up.length (endsOf h) (endsOf h).length | e => e) | e => e) | e => e) := by
  unfold checkErr
  have h1 := f.n
  have h2 := f.s
  have h3 := f.u
  have h4 := f.d
  rw [if_neg (by omega), if_neg (by omega)]
  rfl
set_option maxRecDepth 100000 in
set_option maxHeartbeats 2000000 in
theorem ends_first1 (A : HA) (h : HierD) (w : World) (see : HSee w A h) (f : Fits h) (hx : firstsErr h.upF h.up.length ≠ .nil) : Calls Tryz.prog 16 #[hierVal A h] w (EndsPost h w) := by
  have h1 := f.n
  have F := Lib.hid f
  have hd : decide (65536 < h.node.length) = false := by simpa using h1
  have hd2 : decide (1048576 < wrap64 ((h.up.length : Int) + (h.dn.length : Int))) = false := by simpa using f.s
  have g1 : ((h.upF.length : Int) != (h.node.length : Int) + 1) = false := by simp; have := f.u; omega
  have g2 : ((h.dnF.length : Int) != (h.node.length : Int) + 1) = false := by simp; have := f.d; omega
  have hc : checkErr h = firstsErr h.upF h.up.length := by
    rw [f.err]
    cases e : firstsErr h.upF h.up.length <;> first | exact absurd e hx | rfl
  have HC := Lib.hid hc
  have SEE := Lib.hid see
  have HX := Lib.hid hx
  clear see hc f hx
  unfold hierVal
  go_enter Tryz.func16, Tryz.ntmps16
  go_wp2_with fail
  refine (firsts_any h.upF A.a1 A.c1 h.up.length _ (SEE.out.upF.alloc _) SEE.out.bu (by have := F.out.u; omega) (by have := F.out.u; omega)).mono ?_
  rintro e w1 ⟨v, rfl, hv, hb⟩
  obtain ⟨t, u, rfl⟩ := hv.iface HX.out
  have HV := Lib.hid hv
  have HB := Lib.hid (((Below.refl w.heap.size w).alloc (Nat.le_refl _) _).trans (hb.mono (by simp)))
  clear hv hb
  go_wp2
  go_returns
  exact EndsPost.bad HC.out HX.out HV.out HB.out
set_option maxRecDepth 100000 in
set_option maxHeartbeats 2000000 in
theorem ends_first2 (A : HA) (h : HierD) (w : World) (see : HSee w A h) (f : Fits h) (hx0 : firstsErr h.upF h.up.length = .nil) (hx : firstsErr h.dnF h.dn.length ≠ .nil) : Calls Tryz.prog 16 #[hierVal A h] w (EndsPost h w) := by
  have h1 := f.n
  have F := Lib.hid f
  have hd : decide (65536 < h.node.length) = false := by simpa using h1
  have hd2 : decide (1048576 < wrap64 ((h.up.length : Int) + (h.dn.length : Int))) = false := by simpa using f.s
  have g1 : ((h.upF.length : Int) != (h.node.length : Int) + 1) = false := by simp; have := f.u; omega
  have g2 : ((h.dnF.length : Int) != (h.node.length : Int) + 1) = false := by simp; have := f.d; omega
  have hc : checkErr h = firstsErr h.dnF h.dn.length := by
    rw [f.err, hx0]
    cases e : firstsErr h.dnF h.dn.length <;> first | exact absurd e hx | rfl
  have HC := Lib.hid hc
  have SEE := Lib.hid see
  have HX := Lib.hid hx
  have HX0 := Lib.hid hx0
  clear see hc f hx hx0
  unfold hierVal
  go_enter Tryz.func16, Tryz.ntmps16
  go_wp2_with fail
  refine (firsts_any h.upF A.a1 A.c1 h.up.length _ (SEE.out.upF.alloc _) SEE.out.bu (by have := F.out.u; omega) (by have := F.out.u; omega)).mono ?_
  rintro e w1 ⟨v, rfl, hv, hb⟩
  obtain rfl := hv.nilv HX0.out
  have hcs := (Cells.new w 25 (hierCells A h)).below hb (by simp)
  have c3 : w1.cell? ⟨w.heap.size, 3, none⟩ = some (.slice A.a3 h.dnF.length A.c3) := hcs.cell rfl
  have c4 : w1.cell? ⟨w.heap.size, 4, none⟩ = some (.slice A.a4 h.dn.length A.c4) := hcs.cell rfl
  have HB := Lib.hid (((Below.refl w.heap.size w).alloc (Nat.le_refl _) _).trans (hb.mono (by simp)))
  have hsz := hcs.lt
  clear hv hb hcs
  go_wp2_with fail
  refine (firsts_any h.dnF A.a3 A.c3 h.dn.length _ (SEE.out.dnF.below HB.out) SEE.out.bd (by have := F.out.d; omega) (by have := F.out.d; omega)).mono ?_
  rintro e w2 ⟨v, rfl, hv, hb⟩
  obtain ⟨t, u, rfl⟩ := hv.iface HX.out
  have HV := Lib.hid hv
  have HB2 := Lib.hid (HB.out.trans (hb.mono HB.out.size))
  clear hv hb
  go_wp2
  go_returns
  exact EndsPost.bad HC.out HX.out HV.out HB2.out
set_option maxRecDepth 100000 in
set_option maxHeartbeats 2000000 in
theorem ends_order (A : HA) (h : HierD) (w : World) (see : HSee w A h) (f : Fits h) (hx0 : firstsErr h.upF h.up.length = .nil) (hx1 : firstsErr h.dnF h.dn.length = .nil) (hx : orderErr h.node ≠ .nil) : Calls Tryz.prog 16 #[hierVal A h] w (EndsPost h w) := by
  have h1 := f.n
  have F := Lib.hid f
  have hd : decide (65536 < h.node.length) = false := by simpa using h1
  have hd2 : decide (1048576 < wrap64 ((h.up.length : Int) + (h.dn.length : Int))) = false := by simpa using f.s
  have g1 : ((h.upF.length : Int) != (h.node.length : Int) + 1) = false := by simp; have := f.u; omega
  have g2 : ((h.dnF.length : Int) != (h.node.length : Int) + 1) = false := by simp; have := f.d; omega
  have hc : checkErr h = orderErr h.node := by
    rw [f.err, hx0, hx1]
    cases e : orderErr h.node <;> first | exact absurd e hx | rfl
  have HC := Lib.hid hc
  have SEE := Lib.hid see
  have HX := Lib.hid hx
  have HX0 := Lib.hid hx0
  have HX1 := Lib.hid hx1
  clear see hc f hx hx0 hx1
  unfold hierVal
  go_enter Tryz.func16, Tryz.ntmps16
  go_wp2_with fail
  refine (firsts_any h.upF A.a1 A.c1 h.up.length _ (SEE.out.upF.alloc _) SEE.out.bu (by have := F.out.u; omega) (by have := F.out.u; omega)).mono ?_
  rintro e w1 ⟨v, rfl, hv, hb⟩
  obtain rfl := hv.nilv HX0.out
  have hcs := (Cells.new w 25 (hierCells A h)).below hb (by simp)
  have c3 : w1.cell? ⟨w.heap.size, 3, none⟩ = some (.slice A.a3 h.dnF.length A.c3) := hcs.cell rfl
  have c4 : w1.cell? ⟨w.heap.size, 4, none⟩ = some (.slice A.a4 h.dn.length A.c4) := hcs.cell rfl
  have HCS := Lib.hid hcs
  have HB := Lib.hid (((Below.refl w.heap.size w).alloc (Nat.le_refl _) _).trans (hb.mono (by simp)))
  have hsz := hcs.lt
  clear hv hb hcs
  go_wp2_with fail
  refine (firsts_any h.dnF A.a3 A.c3 h.dn.length _ (SEE.out.dnF.below HB.out) SEE.out.bd (by have := F.out.d; omega) (by have := F.out.d; omega)).mono ?_
  rintro e w2 ⟨v, rfl, hv, hb⟩
  obtain rfl := hv.nilv HX1.out
  have hcs2 := HCS.out.below hb hsz
  have c0 : w2.cell? ⟨w.heap.size, 0, none⟩ = some (.slice A.a0 h.node.length A.c0) := hcs2.cell rfl
  have HB2 := Lib.hid (HB.out.trans (hb.mono HB.out.size))
  have hsz2 := hcs2.lt
  clear hv hb hcs2 c3 c4
  go_wp2_with fail
  refine (order_any h.node A.a0 A.c0 _ (SEE.out.node.below HB2.out) SEE.out.bn (by omega)).mono ?_
  rintro e w3 ⟨v, rfl, hv, hb⟩
  obtain ⟨t, u, rfl⟩ := hv.iface HX.out
  have HV := Lib.hid hv
  have HB3 := Lib.hid (HB2.out.trans (hb.mono HB2.out.size))
  clear hv hb
  go_wp2
  go_returns
  exact EndsPost.bad HC.out HX.out HV.out HB3.out
theorem shapeB_eq (n ups : Nat) (all : List EndD) (i : Nat) (x y : EndD) (hx : all.getD i default = x) (hy : all.getD (i - 1) default = y) : shapeB n ups all i =
    if n ≤ x.link.to ∨ x.link.to ≤ x.rank then false
    else if 0 < i ∧ i ≠ ups ∧ y.rank = x.rank ∧ x.link.to ≤ y.link.to then false
    else if x.link.plain then true
    else if x.link.left < ups ∨ all.length ≤ x.link.left ∨ ups ≤ x.link.right then false
    else decide ((all.getD x.link.left default).tail = x.tail ∧ (all.getD x.link.right default).head = x.head ∧ (all.getD x.link.left default).rank = (all.getD x.link.right default).rank) := by
  unfold shapeB
  simp only [hx, hy]
end Go.Proofs.YtblkkjfpggcgfaaGreatDoor
