/- The reference's Graph: the plain links as a normal graph. -/
import Derived.Test.YtchhbgckonpedaaGreatDoorA45
import Derived.Test.YtchhbgckonpedaaGreatDoorA46
import Derived.Test.YtchhbgckonpedaaGreatDoorA38
import Derived.Test.YtchhbgckonpedaaGreatDoorA39
import Derived.Test.YtchhbgckonpedaaGreatDoorA32
import Derived.Test.YtchhbgckonpedaaGreatDoorA31
import Derived.Test.YtchhbgckonpedaaGreatDoorA34
import Derived.Test.YtchhbgckonpedaaGreatDoorA16
import Derived.Lib.SmallJoins
import Derived.Deep.Slices
import Derived.Deep.Fields
namespace Go.Proofs.YtchhbgckonpedaaGreatDoor
open Go.ChangeShapes Go.WideShapes Go.ChangeAt Go.RowKit Go.Joins Go.Deep
structure RGI (K : Nat) (A : HA) (h : HierD) (k : Nat) (v : Value) (w wr : World) : Prop where
  x : Cells wr w.heap.size 25 (hierCells A h)
  r : Cells wr (w.heap.size + 1) 52 [.int .i64 0, .slice none 0 0]
  g : Cells wr (w.heap.size + 2) 52 [.int .i64 (h.node.length : Int), v]
  o : ArcsO K wr v (arcsTo h k)
  b : Below w.heap.size w wr
theorem RGI.below {K : Nat} {A : HA} {h : HierD} {k : Nat} {v : Value} {w wr wy : World} (s : RGI K A h k v w wr) (o : Below wr.heap.size wr wy) : RGI K A h k v w wy :=
  ⟨s.x.below o s.x.lt, s.r.below o s.r.lt, s.g.below o s.g.lt, s.o.below o, s.b.trans (o.mono s.b.size)⟩
set_option linter.unusedSimpArgs false in
set_option maxRecDepth 100000 in
set_option maxHeartbeats 8000000 in
theorem rgraph_any (A : HA) (h : HierD) (w : World) (see : HSee w A h) (hc : checkErr h = .nil) (htot : h.up.length + h.dn.length ≤ 1048576) : Calls Tryz.prog 23 #[hierVal A h] w (ROfPost h.node.length (arcsL h) w) := by
  obtain ⟨fit, -, -, ho, -⟩ := checkErr_parts hc
  obtain ⟨u, d⟩ := parts_firsts hc
  have hn := fit.n
  obtain ⟨N, hN⟩ : ∃ N, (endsOf h).length = N := ⟨_, rfl⟩
  have hNc : N = h.up.length + h.dn.length := by rw [← hN]; exact cnt_ends hc
  have hNb : N ≤ 1048576 := by omega
  have SEE := Lib.hid see
  have HC := Lib.hid hc
  have HN := Lib.hid hN
  have HU := Lib.hid u
  have HD := Lib.hid d
  have HTOT := Lib.hid htot
  have HNC := Lib.hid hNc
  have HAR := Lib.hid (fun W s => arcs_any A h W s u d hn htot)
  unfold hierVal at HAR
  have r0 := Cells.new (w.alloc (.cells (hierCells A h).toArray 25)) 52 [.int .i64 0, .slice none 0 0]
  rw [show (w.alloc (.cells (hierCells A h).toArray 25)).heap.size = w.heap.size + 1 by simp] at r0
  have c0 := Cells.new ((w.alloc (.cells (hierCells A h).toArray 25)).alloc (.cells #[.int .i64 0, .slice none 0 0] 52)) 52 [.int .i64 (h.node.length : Int), .slice none 0 0]
  rw [show ((w.alloc (.cells (hierCells A h).toArray 25)).alloc (.cells #[.int .i64 0, .slice none 0 0] 52)).heap.size = w.heap.size + 2 by simp] at c0
  have hI := fun K => (RGI.mk (K := K) (A := A) (h := h) (k := 0) (v := .slice none 0 0) (w := w) (((Cells.new w 25 (hierCells A h)).alloc _).alloc _) (r0.alloc _) c0 (ArcsO.nil _ _) ((((Below.refl w.heap.size w).alloc (Nat.le_refl _) _).alloc (by simp) _).alloc (by simp; omega) _))
  have HI := Lib.hid hI
  clear hI see hc hN u d htot hNc ho r0 c0 fit
  unfold hierVal
  go_enter Tryz.func23, Tryz.ntmps23
  go_wp2_with fail
  refine (HAR.out _ (SEE.out.below (HI.out 0).b)).mono ?_
  rintro e w1 ⟨aa, ac, rfl, sa, hnew, hb1⟩
  have HI1 := Lib.hid ((HI.out w1.heap.size).below hb1)
  have hw1 : w.heap.size + 3 ≤ w1.heap.size := by have := hb1.size; simp at this; omega
  have SA := Lib.hid sa
  have HNEW := Lib.hid (show ∀ b o, aa = some ⟨b, o, none⟩ → w.heap.size + 3 ≤ b from fun b o e => by have := hnew b o e; simp at this; omega)
  clear sa hb1 hnew HI
  rw [HN.out]
  go_wp2_with fail
  go_loopg [14, 4] N (fun gg vi v4 wr => ∃ (k : Nat) (v : Value), vi = .int .i64 k ∧ k ≤ N ∧ gg = N - k ∧ RGI w1.heap.size A h k v w wr ∧ See wr aa ac rendCells 3 (endsOf h) ∧ w1.heap.size ≤ wr.heap.size)
  case atStart => exact ⟨0, .slice none 0 0, rfl, Nat.zero_le _, rfl, HI1.out, SA.out, Nat.le_refl _⟩
  case round =>
    obtain ⟨k, v, rfl, hk, hg, hi, hbw, hw1r⟩ := hrel
    have HG := Lib.hid hg
    have HI2 := Lib.hid hi
    have HBW := Lib.hid hbw
    obtain ⟨k0, k1, k2, k3, k4⟩ := hier_five hi.x
    have lx := hi.x.lt
    clear hg HI1
    by_cases hkN : k < N
    · obtain ⟨x, hx⟩ : ∃ x, (endsOf h)[k]? = some x := ⟨_, List.getElem?_eq_getElem (by rw [HN.out]; exact hkN)⟩
      obtain ⟨b, o, ea, cc⟩ := hbw.cell k x hx
      have e0 := cc 0 _ rfl
      have e1 := cc 1 _ rfl
      have e2 := cc 2 _ rfl
      have hbw1 : b < w1.heap.size := by
        obtain ⟨b', o', ea', cc'⟩ := SA.out.cell k x hx
        rw [ea] at ea'
        simp only [Option.some.injEq, Addr.mk.injEq, and_true] at ea'
        obtain ⟨rfl, rfl⟩ := ea'
        exact block_lt (cc' 0 _ rfl)
      have hbw2 := HNEW.out b o ea
      rw [Nat.add_zero] at e0
      have lb := block_lt e0
      have hmem := List.mem_of_getElem? hx
      have hkc : k < cntOf h := by rw [← cnt_ends HC.out, HN.out]; exact hkN
      have hexa : endAt h k = x := by unfold endAt; rw [List.getD_eq_getElem?_getD, hx]; rfl
      have hlk := endAt_link HC.out hkc
      rw [hexa] at hlk
      have hok := linkAt_ok SEE.out k hkc
      have HLK := Lib.hid (fun W s => rlink_any A h k W s hkc (by have := HTOT.out; omega))
      unfold hierVal at HLK
      rw [← hlk] at HLK hok
      have HPL := Lib.hid (fun W => rplain_any x.link W hok)
      unfold LinkIs linkVal at HLK
      unfold linkVal at HPL
      have EA := Lib.hid ea
      have HX := Lib.hid (And.intro hx (And.intro hmem hkc))
      have HRC := Lib.hid (show rendCells x = [.int .i64 x.tail, .int .i64 x.head, .int .i64 x.rank] from rfl)
      clear cc ea hx hmem hexa hlk hok hi hbw
      rw [EA.out]
      go_wp2_with fail
      refine (HLK.out _ ((SEE.out.below HI2.out.b).below ((Below.refl _ _).alloc (Nat.le_refl _) _))).mono ?_
      rintro e w2 ⟨rfl, hb2⟩
      have hba := (Below.refl wr.heap.size wr).alloc (Nat.le_refl _) (.cells #[.int .i64 x.tail, .int .i64 x.head, .int .i64 x.rank] 59)
      have hbb := hba.trans (hb2.mono (by simp))
      have hi3 := HI2.out.below hbb
      have hae := (Cells.new wr 59 [.int .i64 x.tail, .int .i64 x.head, .int .i64 x.rank]).below hb2 (by simp)
      have hsz2 : wr.heap.size + 1 ≤ w2.heap.size := by have := hb2.size; simp at this; omega
      have HI3 := Lib.hid hi3
      have HAE := Lib.hid hae
      have HBW3 := Lib.hid (HBW.out.below hbb)
      clear hba hbb hi3 hae hb2 e0 e1 e2 lb k0 k1 k2 k3 k4
      go_wp2_with fail
      refine (HPL.out _).mono ?_
      rintro e w3 ⟨rfl, hb3⟩
      have hba := (Below.refl w2.heap.size w2).alloc (Nat.le_refl _) (.cells #[.int .u32 x.link.to, .int .u64 x.link.wt, .int .u32 x.link.left, .int .u32 x.link.right] 65)
      have hbb := hba.trans (hb3.mono (by simp))
      have hi4 := HI3.out.below hbb
      have hae4 := HAE.out.below hbb HAE.out.lt
      have hll := (Cells.new w2 65 [.int .u32 x.link.to, .int .u64 x.link.wt, .int .u32 x.link.left, .int .u32 x.link.right]).below hb3 (by simp)
      have HI4 := Lib.hid hi4
      have HAE4 := Lib.hid hae4
      have HLL := Lib.hid hll
      have HBW4 := Lib.hid (HBW3.out.below hbb)
      have hsz3 : w2.heap.size + 1 ≤ w3.heap.size := by have := hb3.size; simp at this; omega
      clear hba hbb hi4 hae4 hll hb3
      cases hpl : x.link.plain with
      | false =>
        have hs : arcsTo h (k + 1) = arcsTo h k := by rw [arcsTo_succ h k x HX.out.1, hpl]; simp
        have HS := Lib.hid hs
        clear hs hpl
        go_wp2_with fail
        rw [← EA.out]
        go_roundg (N - (k + 1))
        case measure => rw [HG.out]; omega
        case rel => exact ⟨k + 1, v, by go_num, by omega, rfl, ⟨HI4.out.x, HI4.out.r, HI4.out.g, by rw [HS.out]; exact HI4.out.o, HI4.out.b⟩, HBW4.out, by omega⟩
      | true =>
        have HPP := Lib.hid hpl
        clear hpl
        obtain ⟨hq0, hq1⟩ := ends_lt HC.out HX.out.2.1
        obtain ⟨hv0, n0⟩ := node_lt HC.out hq0
        obtain ⟨hv1, n1⟩ := node_lt HC.out hq1
        have hwt := plain_wt HC.out HX.out.2.1 HPP.out
        obtain ⟨va, vb, vc⟩ := arcOf_vals HC.out HX.out.2.1 HPP.out
        have hcx : arcCells (arcOf h x) = [.int .i64 (nodeAt h x.tail : Int), .int .i64 (nodeAt h x.head : Int), .int .i64 (x.link.wt : Int)] := by unfold arcCells; rw [va, vb, vc]
        obtain ⟨b0, o0, ea0, cc0⟩ := SEE.out.node.cell _ _ n0
        obtain ⟨b0', o0', ea1, cc1⟩ := SEE.out.node.cell _ _ n1
        rw [ea0] at ea1
        simp only [Option.some.injEq, Addr.mk.injEq, and_true] at ea1
        obtain ⟨rfl, rfl⟩ := ea1
        have z0 := ck HI4.out.b (cc0 0 _ rfl)
        have z1 := ck HI4.out.b (cc1 0 _ rfl)
        have lb0 := block_lt (cc0 0 _ rfl)
        rw [Nat.mul_one, Nat.add_zero] at z0 z1
        obtain ⟨k0, -, -, -, -⟩ := hier_five HI4.out.x
        rw [ea0] at k0
        clear ea0
        have y1 : w3.cell? ⟨wr.heap.size, 0, none⟩ = some (.int .i64 (x.tail : Int)) := HAE4.out.cell rfl
        have y4 : w3.cell? ⟨wr.heap.size, 1, none⟩ = some (.int .i64 (x.head : Int)) := HAE4.out.cell rfl
        have y5 : w3.cell? ⟨w2.heap.size, 1, none⟩ = some (.int .u64 (x.link.wt : Int)) := HLL.out.cell rfl
        obtain ⟨ao, cap, hv⟩ := HI4.out.o.form
        subst hv
        obtain ⟨M, hM⟩ : ∃ M, (arcsTo h k).length = M := ⟨_, rfl⟩
        have hMk : M ≤ k := by rw [← hM]; exact arcsTo_len h k
        have hown := HI4.out.o.own
        have hnew := HI4.out.o.new
        have hlo2 := HI2.out.o
        rw [hM] at hown hnew hlo2
        have hlt2 : ∀ q, (Value.slice ao M cap).ownBlock = some q → q < wr.heap.size := fun q hq => (hlo2.own.lt q hq).2
        have HCX := Lib.hid hcx
        have HM := Lib.hid hM
        have HNW := Lib.hid hnew
        have HLT := Lib.hid hlt2
        have hgc := HI4.out.g
        have lg2 := HI2.out.g.lt
        rw [hM] at hgc
        go_wp2_with fail
        change Code.wp _ ((regionAt 7 rgBody).getD .skip) _ _ _
        refine rgraph_app k0 y1 y4 y5 hgc z0 z1 hq0 hq1 (by omega) (by omega) hwt (by omega) hown (fun hm => by have := HNW.out _ (own_mem hm); omega) (fun hm => by have := HNW.out _ (own_mem hm); omega) (fun hm => by have := HLT.out _ (own_mem hm); omega) (fun hm => by have := HLT.out _ (own_mem hm); omega) (fun hm => by have := HNW.out _ (own_mem hm); omega) (by omega) (by omega) (by omega) (by omega) ?_
        intro ao5 cap5 w5 t24 t25 t26 t27 t28 t29 t30 t31 t32 t33 t34 t35 t36 t37 t38 t39 t40 t41 t42 t43 t44 t45 t46 hown5 ho5 hk5 hc5
        have hsz5 := ho5.size
        have hs : arcsTo h (k + 1) = arcsTo h k ++ [arcOf h x] := by rw [arcsTo_succ h k x HX.out.1, HPP.out]; rfl
        have hn5 : ArcsO w1.heap.size w5 (.slice ao5 (M + 1) cap5) (arcsTo h (k + 1)) := by
          rw [hs]
          have := HI4.out.o.app [arcOf h x] (m := 1) rfl (ao := ao5) (cap := cap5) (w5 := w5) (by rw [HM.out, List.flatMap_singleton, HCX.out]; exact hown5) (by rw [HM.out]; exact hk5) (by omega)
          rwa [HM.out] at this
        have hout : ∀ q, q < w.heap.size + 3 → q ∉ (Value.slice ao M cap).ownBlock.toList := fun q h1 h2 => by have := HNW.out _ (own_mem h2); omega
        have hO : Only [w.heap.size + 2] w5 (w5.setCell ⟨w.heap.size + 2, 1, none⟩ (.slice ao5 (M + 1) cap5)) := (Only.refl _ w5).setCell (p := ⟨w.heap.size + 2, 1, none⟩) (by simp) _
        have hb5 : Below w.heap.size w w5 := HI4.out.b.trans (ho5.below (B := w.heap.size) HI4.out.b.size (fun q hq => by have := HNW.out _ (own_mem hq); omega))
        have HS5 := Lib.hid ((HBW4.out.kept ho5 (fun b' o' e' hm => by
          rw [EA.out] at e'
          simp only [Option.some.injEq, Addr.mk.injEq, and_true] at e'
          have := HNW.out _ (own_mem hm)
          omega)).kept hO (fun b' o' e' hm => by
          rw [EA.out] at e'
          simp only [Option.some.injEq, Addr.mk.injEq, and_true] at e'
          simp at hm
          omega))
        have HE := Lib.hid (RGI.mk (K := w1.heap.size) (A := A) (h := h) (k := k + 1) (v := .slice ao5 (M + 1) cap5) (w := w) ((HI4.out.x.kept ho5 (hout _ (by omega))).kept hO (by simp)) ((HI4.out.r.kept ho5 (hout _ (by omega))).kept hO (by simp)) (hc5.set 1 _) (hn5.kept hO (fun q hq hm => by have := hn5.new q hq; simp at hm; omega)) (hb5.trans (hO.below (B := w.heap.size) hb5.size (fun q hq => by simp at hq; omega))))
        clear hown5 ho5 hk5 hc5 hs hn5 hout hO hb5
        go_wp2_with fail
        rw [← EA.out]
        go_roundg (N - (k + 1))
        case measure => rw [HG.out]; omega
        case rel => exact ⟨k + 1, .slice ao5 (M + 1) cap5, by go_num, by omega, rfl, HE.out, HS5.out, by simp; omega⟩
    · obtain rfl : k = N := by omega
      have c0 : wr.cell? ⟨w.heap.size + 2, 0, none⟩ = some (.int .i64 (h.node.length : Int)) := hi.g.cell rfl
      have c1 : wr.cell? ⟨w.heap.size + 2, 1, none⟩ = some v := hi.g.cell rfl
      have lg := hi.g.lt
      have hall := arcsTo_all h
      rw [HN.out] at hall
      have ho := hi.o
      rw [hall] at ho
      obtain ⟨ao, cap, rfl⟩ := ho.form
      have hcl := arcs_clean HC.out
      have hle := arcsTo_len h k
      rw [hall] at hle
      have HOF := Lib.hid (rof_any h.node.length ao (arcsL h).length cap (arcsL h) wr ho.see.1 rfl (by have := HNC.out; have := HTOT.out; omega) hcl.ne hcl.nd)
      clear hi hbw ho hcl hall hle k1 k2 k3 k4
      go_wp2_with fail
      refine HOF.out.mono ?_
      rintro e w2 ⟨ao2, cap2, l2, rfl, hp2, ho2, hb2⟩
      have hr2 := HI2.out.r.below hb2 HI2.out.r.lt
      have r0 : w2.cell? ⟨w.heap.size + 1, 0, none⟩ = some (.int .i64 0) := hr2.cell rfl
      have r1 : w2.cell? ⟨w.heap.size + 1, 1, none⟩ = some (.slice none 0 0) := hr2.cell rfl
      have f0 := hr2.frozen 0
      have f1 := hr2.frozen 1
      have lr := hr2.lt
      have HR2 := Lib.hid hr2
      have HP2 := Lib.hid hp2
      have HO2 := Lib.hid ho2
      have HB2 := Lib.hid (HI2.out.b.trans (hb2.mono HI2.out.b.size))
      clear hr2 hp2 ho2 hb2 c0 c1
      go_wp2_with fail
      refine bodyPost_ret (results_e rfl _ _ (w.heap.size + 1) 52 [.int .i64 (h.node.length : Int), .slice ao2 l2.length cap2] _ rfl ((HR2.out.set 0 _).set 1 _) Tryz.underlying52 rfl (by rw [Tryz.sizeGraph]; rfl)) rfl ?_
      have hO : Only [w.heap.size + 1] w2 ((w2.setCell ⟨w.heap.size + 1, 0, none⟩ (.int .i64 (h.node.length : Int))).setCell ⟨w.heap.size + 1, 1, none⟩ (.slice ao2 l2.length cap2)) := ((Only.refl _ w2).setCell (p := ⟨w.heap.size + 1, 0, none⟩) (by simp) _).setCell (p := ⟨w.heap.size + 1, 1, none⟩) (by simp) _
      have lg3 : w.heap.size + 3 ≤ wr.heap.size := by omega
      exact ⟨ao2, cap2, l2, rfl, HP2.out, (HO2.out.kept hO (fun q hq hm => by
          have := HO2.out.new q hq
          simp at hm
          omega)).mono (by omega), HB2.out.trans (hO.below (B := w.heap.size) HB2.out.size (fun q hq => by simp at hq; omega))⟩
def RPathNew (h : HierD) (s t : Int) (w : World) (e : Ending) (w' : World) : Prop :=
  ∃ (r : Nat) (d : Int) (x : EV) (v : Value), e = .returned (.tuple #[.int .u64 d, v]) ∧ ErrV w' v x ∧ MeetIs h s t r d x ∧ Below w.heap.size w w'
set_option linter.unusedSimpArgs false in
set_option maxRecDepth 100000 in
set_option maxHeartbeats 8000000 in
theorem rdocpath_any (A : HA) (h : HierD) (s t : Int) (w : World) (see : HSee w A h) (hk1 : h.up.length ≤ 140737488355328) (hk2 : h.dn.length ≤ 140737488355328) (hn64 : h.node.length ≤ 140737488355328) :
    Calls Tryz.prog 20 #[hierVal A h, .int .i64 s, .int .i64 t] w (RPathNew h s t w) := by
  have SEE := Lib.hid see
  have hb0 := ((Below.refl w.heap.size w).alloc (Nat.le_refl _) (.cells (hierCells A h).toArray 25)).alloc (by simp) (.cells errZero.toArray 36)
  have r0 := cells_at (w := w.alloc (.cells (hierCells A h).toArray 25)) (b := w.heap.size + 1) (by simp) 36 errZero
  have HB := Lib.hid hb0
  have HR := Lib.hid r0
  have HDM := Lib.hid (fun W s' => rdocmeet_any A h s t W s' hk1 hk2 hn64)
  unfold hierVal at HDM
  clear see hb0 r0
  unfold hierVal
  go_enter Tryz.func20, Tryz.ntmps20
  go_wp2_with fail
  refine (HDM.out _ (SEE.out.below HB.out)).mono ?_
  rintro e w1 ⟨r, d, x, v, rfl, hv, hm, hb⟩
  obtain ⟨uc, ua, un, ucap, rfl⟩ := hv.form
  have ho := (Below.refl w1.heap.size w1).alloc (Nat.le_refl _) (.cells #[.int .i64 uc, .slice ua un ucap] 36)
  have hr2 := (HR.out.below hb HR.out.lt).alloc (.cells #[.int .i64 uc, .slice ua un ucap] 36)
  have hf2 := Cells.new w1 36 [.int .i64 uc, .slice ua un ucap]
  have HB2 := Lib.hid ((HB.out.trans (hb.mono HB.out.size)).alloc (HB.out.trans (hb.mono HB.out.size)).size (.cells #[.int .i64 uc, .slice ua un ucap] 36))
  have HV2 := Lib.hid (hv.below ho)
  have HM := Lib.hid hm
  obtain ⟨bf, hbf⟩ : ∃ bf, w1.heap.size = bf := ⟨_, rfl⟩
  obtain ⟨wz, hwz⟩ : ∃ wz, w1.alloc (.cells #[.int .i64 uc, .slice ua un ucap] 36) = wz := ⟨_, rfl⟩
  have hlt := (HR.out.below hb HR.out.lt).lt
  rw [hbf] at hf2 hlt
  rw [hwz] at hr2 hf2 HB2 HV2
  have y0 : wz.cell? ⟨bf, 0, none⟩ = some (.int .i64 uc) := hf2.cell rfl
  have y1 : wz.cell? ⟨bf, 1, none⟩ = some (.slice ua un ucap) := hf2.cell rfl
  have z0 : wz.cell? ⟨w.heap.size + 1, 0, none⟩ = some (.int .i64 0) := hr2.cell rfl
  have z1 : wz.cell? ⟨w.heap.size + 1, 1, none⟩ = some (.slice none 0 0) := hr2.cell rfl
  have g0 := hr2.frozen 0
  have g1 := hr2.frozen 1
  have lr := hr2.lt
  have lf := hf2.lt
  have ne1 : bf ≠ w.heap.size + 1 := by omega
  have ne2 : w.heap.size + 1 ≠ bf := by omega
  have HR2 := Lib.hid hr2
  clear hb ho hr2 hf2 hv hm
  go_wp2_with fail
  try rw [hwz]
  try rw [hbf]
  clear hbf hwz
  go_region
  all_goals (try dsimp only [Exit.then])
  all_goals go_wp2_with fail
  all_goals refine bodyPost_ret (results_te3 rfl _ _ (w.heap.size + 1) 36 [.int .i64 uc, .slice ua un ucap] _ rfl ((HR2.out.drew.set 0 _).set 1 _) Tryz.underlying36 rfl (by rw [Tryz.sizeErr]; rfl)) rfl ?_
  all_goals exact ⟨r, d, x, _, rfl, (HV2.out.below (Below.refl _ _).drew).put HR2.out.drew _ _, HM.out, ((HB2.out.drew).setCell (p := ⟨w.heap.size + 1, 0, none⟩) (by simp) _).setCell (p := ⟨w.heap.size + 1, 1, none⟩) (by simp) _⟩
def GreatIs (h : HierD) (w : World) (e : Ending) (w' : World) : Prop := ∃ b, e = .returned (.bool b) ∧ (b = false → cntOf h ≤ 2000 ∨ 1048576 < cntOf h) ∧ Below w.heap.size w w'
set_option maxRecDepth 100000 in
theorem great22v_any (A : HA) (h : HierD) (w : World) (hk : h.up.length + h.dn.length ≤ 281474976710656) : Calls Tryz.prog 10 #[hierVal A h] w (GreatIs h w) := by
  unfold hierVal
  go_enter Tryz.func10, Tryz.ntmps10
  go_wp2_with fail
  refine (count_any A h _).mono ?_
  rintro e w1 ⟨c, rfl, hc, hb⟩
  rw [IntWalk.wrap64_in _ (by omega)] at hc
  have HCV := Lib.hid hc
  have hbx1 := (Cells.new w 25 (hierCells A h)).below hb (by simp)
  have HB1 := Lib.hid (((Below.refl w.heap.size w).alloc (Nat.le_refl _) _).trans (hb.mono (by simp)))
  obtain ⟨k0, k1, k2, k3, k4⟩ := hier_five hbx1
  clear hb hbx1 hc
  by_cases hd : 2000 < c
  · have d1 : decide (2000 < c) = true := by simpa using hd
    clear hd
    go_wp2_with fail
    refine (count_any A h _).mono ?_
    rintro e w2 ⟨c2, rfl, hc2, hb⟩
    rw [IntWalk.wrap64_in _ (by omega)] at hc2
    have HC2 := Lib.hid hc2
    have HB2 := Lib.hid (HB1.out.trans (hb.mono HB1.out.size))
    clear hb k0 k1 k2 k3 k4 hc2
    go_wp2
    go_returns
    refine ⟨_, rfl, fun h1 => .inr ?_, HB2.out⟩
    have := HC2.out
    unfold cntOf
    simp only [decide_eq_false_iff_not] at h1
    omega
  · have d1 : decide (2000 < c) = false := by simpa using hd
    have HD := Lib.hid hd
    clear hd
    go_wp2
    go_returns
    refine ⟨_, rfl, fun _ => .inl ?_, HB1.out⟩
    have := HCV.out
    have := HD.out
    unfold cntOf
    omega
set_option linter.unusedSimpArgs false in
set_option maxRecDepth 100000 in
set_option maxHeartbeats 8000000 in
theorem unpackPaths_any (A : HA) (h : HierD) (s t : Int) (w : World) (hg : EVar w) (see : HSee w A h) (hr : Reach5 h) (hs64 : s ≤ 9223372036854775807) (ht64 : t ≤ 9223372036854775807) :
    Calls Tryz.prog 4 #[hierVal A h, .int .i64 s, .int .i64 t] w (BoolIs true w) := by
  have hk1 : h.up.length ≤ 140737488355328 := by have := hr.up; omega
  have hk2 : h.dn.length ≤ 140737488355328 := by have := hr.dn; omega
  have hn64 : h.node.length ≤ 140737488355328 := by have := hr.n; omega
  have hk : h.up.length + h.dn.length ≤ 281474976710656 := by omega
  have HG := Lib.hid hg
  have SEE := Lib.hid see
  have HRE := Lib.hid hr
  have K0 := Lib.hid (UX.mk (A := A) (h := h) (w := w) (Cells.new w 25 (hierCells A h)) ((Below.refl w.heap.size w).alloc (Nat.le_refl _) (.cells (hierCells A h).toArray 25)))
  clear hg see hr
  unfold hierVal
  go_enter Tryz.func4, Tryz.ntmps4
  go_wp2_with fail
  refine (awake22_any _).mono ?_
  rintro e w1 ⟨rfl, hb⟩
  have K1 := Lib.hid (K0.out.below hb)
  obtain ⟨k0, k1, k2, k3, k4⟩ := hier_five K1.out.x
  clear hb K0
  go_wp2_with fail
  refine (great22v_any A h _ hk).mono ?_
  rintro e w2 ⟨b, rfl, hgr, hb⟩
  have K2 := Lib.hid (K1.out.below hb)
  clear hb K1 k0 k1 k2 k3 k4
  cases b
  case true =>
    clear hgr
    go_wp2
    go_returns
    exact ⟨rfl, K2.out.b⟩
  case false =>
    have HGO := Lib.hid (hgr rfl)
    clear hgr
    obtain ⟨k0, k1, k2, k3, k4⟩ := hier_five K2.out.x
    go_wp2_with fail
    refine (twin_any A h _ (SEE.out.below K2.out.b) HRE.out).mono ?_
    rintro e w3 ⟨A3, rfl, see3, -, hb⟩
    have K3 := Lib.hid (K2.out.below hb)
    have S3 := Lib.hid see3
    clear hb K2 see3 k0 k1 k2 k3 k4
    go_wp2_with fail
    refine (upath_any A3 h s t _ S3.out hk hs64 ht64 (plainly_all A3 h _ _ hk HGO.out)).mono ?_
    rintro e w4 ⟨r, d, x, v, p, ao, cap, rfl, hv, hm, hpn, hpp, hn, hb⟩
    have K4 := Lib.hid (K3.out.below hb)
    have HV4 := Lib.hid hv
    have HM := Lib.hid hm
    have HPN := Lib.hid (And.intro hpn hpp)
    have HL4 := Lib.hid hn.see.1
    obtain ⟨k0, k1, k2, k3, k4⟩ := hier_five K4.out.x
    clear hb K3 S3 hv hn hm hpn hpp
    go_wp2_with fail
    refine (rdocpath_any A h s t _ (SEE.out.below K4.out.b) hk1 hk2 hn64).mono ?_
    rintro e w5 ⟨r2, d2, x2, v2, rfl, hv, hm2, hb⟩
    obtain ⟨rfl, rfl, rfl⟩ := hm2.same HM.out
    obtain ⟨uc, ua, un, ucap, rfl⟩ := hv.form
    have ho := (Below.refl w5.heap.size w5).alloc (Nat.le_refl _) (.cells #[.int .i64 uc, .slice ua un ucap] 36)
    have K5 := Lib.hid ((K4.out.below hb).below ho)
    have F5 := Lib.hid (UF.mk (Cells.new w5 36 [.int .i64 uc, .slice ua un ucap]) (hv.below ho))
    have HV5 := Lib.hid ((HV4.out.below hb).below ho)
    have HL5 := Lib.hid ((HL4.out.below hb).below ho)
    obtain ⟨bf, hbf⟩ : ∃ bf, w5.heap.size = bf := ⟨_, rfl⟩
    rw [hbf] at F5
    obtain ⟨wz, hwz⟩ : ∃ wz, w5.alloc (.cells #[.int .i64 uc, .slice ua un ucap] 36) = wz := ⟨_, rfl⟩
    rw [hwz] at K5 F5 HV5 HL5
    clear hb ho hv hm2 K4 HV4 HL4 k0 k1 k2 k3 k4
    have y0 : wz.cell? ⟨bf, 0, none⟩ = some (.int .i64 uc) := F5.out.f.cell rfl
    have y1 : wz.cell? ⟨bf, 1, none⟩ = some (.slice ua un ucap) := F5.out.f.cell rfl
    go_wp2_with fail
    try rw [hwz]
    try rw [hbf]
    clear hbf hwz
    refine (bad_any _ x2 _ F5.out.v (meet_pos HM.out)).mono ?_
    rintro e w6 ⟨rfl, hb⟩
    have K6 := Lib.hid (K5.out.below hb)
    have F6 := Lib.hid (F5.out.below hb)
    have HV6 := Lib.hid (HV5.out.below hb)
    have HL6 := Lib.hid (HL5.out.below hb)
    clear hb y0 y1 K5 F5 HV5 HL5
    cases hnil : x2.isNil with
    | false =>
      have hxn : x2 ≠ .nil := fun e => by rw [e] at hnil; cases hnil
      have hpz := HPN.out.1 hxn
      subst hpz
      have y0 : w6.cell? ⟨bf, 0, none⟩ = some (.int .i64 uc) := F6.out.f.cell rfl
      have y1 : w6.cell? ⟨bf, 1, none⟩ = some (.slice ua un ucap) := F6.out.f.cell rfl
      clear hnil hxn
      go_wp2_with fail
      refine (same_any x2 _ _ _ (meet_pos HM.out) (HG.out.below K6.out.b) HV6.out F6.out.v).mono ?_
      rintro e w7 ⟨rfl, hb⟩
      have HB7 := Lib.hid (K6.out.b.trans (hb.mono K6.out.b.size))
      clear hb y0 y1
      go_wp2_with fail
      go_returns
      exact ⟨rfl, HB7.out⟩
    | true =>
      have hxe : x2 = .nil := EV.isNil_iff.1 hnil
      subst hxe
      have HPI := Lib.hid (HPN.out.2 rfl)
      have hvn := HV6.out.nilv rfl
      subst hvn
      obtain ⟨D, E, hc, hne, -⟩ := HM.out.parts rfl
      obtain ⟨hs2, ht2⟩ := nodesErr_nil.1 hne
      have htot := cnt_le hc hk
      have HGP := Lib.hid (fun W see => rgraph_any A h W see hc htot)
      unfold hierVal at HGP
      obtain ⟨k0, k1, k2, k3, k4⟩ := hier_five K6.out.x
      have HC := Lib.hid hc
      clear hnil hc hne htot D E
      go_wp2_with fail
      refine (HGP.out _ (SEE.out.below K6.out.b)).mono ?_
      rintro e w7 ⟨ga, gc, gl, rfl, hgp, hgo, hb⟩
      obtain ⟨s', hs'⟩ : ∃ s' : Nat, s = (s' : Int) := ⟨s.toNat, by omega⟩
      obtain ⟨t', ht'⟩ : ∃ t' : Nat, t = (t' : Int) := ⟨t.toNat, by omega⟩
      subst hs' ht'
      have hn6 := (checkErr_parts HC.out).1.n
      obtain ⟨hpl, es, hwk, hsum⟩ := HPI.out.ok HC.out (by rw [Int.toNat_natCast]; omega) hgp
      rw [Int.toNat_natCast, Int.toNat_natCast] at hwk
      have hgl : gl.length ≤ 1048576 := by
        rw [hgp.length_eq]
        have h1 := arcsTo_len h (endsOf h).length
        rw [arcsTo_all, cnt_ends HC.out] at h1
        have h2 := cnt_le HC.out hk
        unfold cntOf at h1
        omega
      have HWA := Lib.hid (rwalk_any h.node.length ga gl.length gc gl es ao cap p.length p s' t' w7 hgo.see.1 rfl hgl (HL6.out.below hb) rfl (by omega) hwk)
      have HB7 := Lib.hid (K6.out.b.trans (hb.mono K6.out.b.size))
      have HSUM := Lib.hid hsum
      clear hb hgp hgo hpl hwk hsum hgl k0 k1 k2 k3 k4
      go_wp2_with fail
      refine HWA.out.mono ?_
      rintro e w8 ⟨rfl, hb⟩
      have HB8 := Lib.hid (HB7.out.trans (hb.mono HB7.out.size))
      have hsm := HSUM.out
      obtain ⟨sm, hsme⟩ : ∃ sm, (es.map fun x : AF => x.2.2.val).sum = sm := ⟨_, rfl⟩
      rw [hsme] at hsm ⊢
      have q1 : decide ((sm : Int) ≤ d2) = true := by simp; omega
      clear hb hsm hsme
      go_wp2_with fail
      go_returns
      exact ⟨rfl, HB8.out⟩
section
variable {H : Type} {enc : TypeId × Value → H} {P : Program} {w : World}
theorem wfu32 {x : Int} (h : (Lit.int .u32 x).wf = true) : 0 ≤ x ∧ x < 4294967296 := by
  simp [Lit.wf, IntKind.min, IntKind.max, IntKind.signed, IntKind.bits] at h
  omega
theorem wfu64' {x : Int} (h : (Lit.int .u64 x).wf = true) : 0 ≤ x ∧ x < 18446744073709551616 := by
  simp [Lit.wf, IntKind.min, IntKind.max, IntKind.signed, IntKind.bits] at h
  omega
theorem ok_slice {t e : TypeId} {b0 : Nat} {v : Value} (ht : P.underlying t = some (.slice e)) (h : Cell.okWide P w .any b0 t v) : v = .slice none 0 0 ∨ ∃ b o n cap, v = .slice (some ⟨b, o, none⟩) n cap := by
  simp only [Cell.okWide, ht, Cell.ok] at h
  cases v <;> simp_all
  rename_i a n cap
  cases a with
  | none => exact .inl (by cases n <;> cases cap <;> simp_all)
  | some a =>
    obtain ⟨b, o, sp⟩ := a
    simp only [World.has] at h
    exact .inr ⟨b, o, by simpa using h.2.2.2.1⟩
def WordsIn (w : World) (v : Value) : Prop := ∃ ao cap l, v = .slice ao l.length cap ∧ See w ao cap u32Cells 1 l ∧ SForm ao cap ∧ ∀ x ∈ l, x < 4294967296
theorem open_words {t e : TypeId} {v : Value} {b0 base n : Nat} {held : Bool} {y : DataW H × List MemPlace} (ht : P.underlying t = some (.slice e)) (he : P.underlying e = some (.int .u32)) (hce : P.cellsOf e = 1) (hok : Cell.okWide P w .any b0 t v) (h : DataW.trod enc P w base (fun _ => true) held n t [v] = some y) : WordsIn w v := by
  rcases open_ints ht he hce h with ⟨h1, -⟩ | ⟨a, len, cap, zs, h1, -, hl, hm, hz, -, hc, hw⟩
  · simp only [List.cons.injEq, and_true] at h1
    subst h1
    exact ⟨none, 0, [], rfl, See.nil _ _ _, .inl ⟨rfl, rfl⟩, by simp⟩
  · simp only [List.cons.injEq, and_true] at h1
    subst h1
    rcases ok_slice ht hok with h2 | ⟨b, o, n2, c2, h2⟩
    · cases h2
    · simp only [Value.slice.injEq, Option.some.injEq] at h2
      obtain ⟨rfl, rfl, rfl⟩ := h2
      simp only [if_true] at hz
      have hlen : ((zs.take len).map Int.toNat).length = len := by simp; omega
      have hget : ∀ (i x : Nat), ((zs.take len).map Int.toNat)[i]? = some x → i < zs.length ∧ zs.getD i 0 = (x : Int) ∧ x < 4294967296 := by
        intro i x hx
        rw [List.getElem?_map, List.getElem?_take] at hx
        split at hx
        · rename_i hi
          have hil : i < zs.length := by omega
          rw [List.getElem?_eq_getElem hil] at hx
          simp only [Option.map_some, Option.some.injEq] at hx
          have := wfu32 (hw _ (List.getElem_mem hil))
          rw [List.getD_eq_getElem?_getD, List.getElem?_eq_getElem hil]
          simp only [Option.getD_some]
          exact ⟨hil, by omega, by omega⟩
        · cases hx
      refine ⟨some ⟨b, o, none⟩, cap, (zs.take len).map Int.toNat, by rw [hlen], ⟨by omega, hm, fun i x hx => ⟨b, o, rfl, fun j u hu => ?_⟩⟩, .inr ⟨_, _, rfl⟩, fun x hx => ?_⟩
      · obtain ⟨h3, h4, -⟩ := hget i x hx
        have := hc i h3
        rw [h4] at this
        have e : (⟨b, o, none⟩ : Addr).add i = ⟨b, o + i, none⟩ := by unfold Addr.add; split <;> simp_all
        rw [e] at this
        cases j with
        | zero =>
          simp only [u32Cells, List.getElem?_cons_zero, Option.some.injEq] at hu
          rw [Nat.mul_one, Nat.add_zero, this, hu]
        | succ j => simp [u32Cells] at hu
      · obtain ⟨i, hi⟩ := List.getElem?_of_mem hx
        exact (hget i x hi).2.2
def LinksIn (w : World) (v : Value) : Prop := ∃ ao cap l, v = .slice ao l.length cap ∧ See w ao cap linkCells 4 l ∧ SForm ao cap ∧ ∀ x ∈ l, x.ok
def LinkType (P : Program) (u a b : TypeId) : Prop := P.underlying a = some (.int .u32) ∧ P.underlying b = some (.int .u64) ∧ P.cellsOf u = 4 ∧ ∃ f0 f1 f2 f3, P.underlying u = some (.struct #[f0, f1, f2, f3]) ∧ oneCellFields P #[f0, f1, f2, f3] = true ∧ f0.type = a ∧ f1.type = b ∧ f2.type = a ∧ f3.type = a
theorem open_link {u a b : TypeId} {base n : Nat} {spare : Nat → Bool} {held : Bool} {cs : List Value} {y : DataW H × List MemPlace} (lt : LinkType P u a b) (h : DataW.trod enc P w base spare held n u cs = some y) : ∃ l : LinkD, cs = linkCells l ∧ l.ok := by
  obtain ⟨ha, hb, hcu, f0, f1, f2, f3, hu, hone, t0, t1, t2, t3⟩ := lt
  obtain ⟨xs, m, -, -, hlen, hxl, hf⟩ := DataW.trod_struct hu h
  rw [hcu] at hlen
  match cs, hlen with
  | [c0, c1, c2, c3], _ =>
    obtain ⟨o0, k0⟩ := hone_of hone 0 f0 rfl
    obtain ⟨o1, k1⟩ := hone_of hone 1 f1 rfl
    obtain ⟨o2, k2⟩ := hone_of hone 2 f2 rfl
    obtain ⟨o3, k3⟩ := hone_of hone 3 f3 rfl
    have h0 := hf 0 f0 rfl
    have h1 := hf 1 f1 rfl
    have h2 := hf 2 f2 rfl
    have h3 := hf 3 f3 rfl
    rw [o0, k0, t0] at h0
    rw [o1, k1, t1] at h1
    rw [o2, k2, t2] at h2
    rw [o3, k3, t3] at h3
    have some_of : ∀ (i : Nat) (f : Field), (#[f0, f1, f2, f3] : Array Field)[i]? = some f → ∃ z, xs[i]? = some z := by
      intro i f hi
      have hlt : i < 4 := (Array.getElem?_eq_some_iff.1 hi).1
      exact ⟨_, List.getElem?_eq_getElem (by simp at hxl; omega)⟩
    obtain ⟨z0, hz0⟩ := some_of 0 f0 rfl
    obtain ⟨z1, hz1⟩ := some_of 1 f1 rfl
    obtain ⟨z2, hz2⟩ := some_of 2 f2 rfl
    obtain ⟨z3, hz3⟩ := some_of 3 f3 rfl
    obtain ⟨n0, e0, -, w0⟩ := DataW.trod_int ha (h0.trans hz0)
    obtain ⟨n1, e1, -, w1⟩ := DataW.trod_int hb (h1.trans hz1)
    obtain ⟨n2, e2, -, w2⟩ := DataW.trod_int ha (h2.trans hz2)
    obtain ⟨n3, e3, -, w3⟩ := DataW.trod_int ha (h3.trans hz3)
    simp at e0 e1 e2 e3
    subst e0 e1 e2 e3
    have b0 := wfu32 w0
    have b1 := wfu64' w1
    have b2 := wfu32 w2
    have b3 := wfu32 w3
    refine ⟨⟨n0.toNat, n1.toNat, n2.toNat, n3.toNat⟩, ?_, ?_⟩
    · simp only [linkCells]
      rw [Int.toNat_of_nonneg b0.1, Int.toNat_of_nonneg b1.1, Int.toNat_of_nonneg b2.1, Int.toNat_of_nonneg b3.1]
    · simp only [LinkD.ok]
      omega
theorem open_links {t u a b : TypeId} {v : Value} {b0 base n : Nat} {held : Bool} {y : DataW H × List MemPlace} (hts : P.underlying t = some (.slice u)) (lt : LinkType P u a b) (hok : Cell.okWide P w .any b0 t v) (h : DataW.trod enc P w base (fun _ => true) held n t [v] = some y) : LinksIn w v := by
  rcases open_slice hts h with ⟨h1, -⟩ | ⟨a, len, cap, m, n, D, Pl, h1, -, hl, hm, hmm, -, hi⟩
  · simp only [List.cons.injEq, and_true] at h1
    subst h1
    exact ⟨none, 0, [], rfl, See.nil _ _ _, .inl ⟨rfl, rfl⟩, by simp⟩
  · simp only [List.cons.injEq, and_true] at h1
    subst h1
    rcases ok_slice hts hok with h2 | ⟨b, o, n2, c2, h2⟩
    · cases h2
    · simp only [Value.slice.injEq, Option.some.injEq] at h2
      obtain ⟨rfl, rfl, rfl⟩ := h2
      simp only [if_true] at hmm
      subst hmm
      have each : ∀ i, i < m → ∃ l : LinkD, l.ok ∧ ∀ j u, (linkCells l)[j]? = some u → w.cell? ⟨b, o + i * 4 + j, none⟩ = some u := by
        intro i him
        obtain ⟨cs, hc, ht⟩ := hi i him
        rw [lt.2.2.1] at hc
        obtain ⟨l, rfl, hlo⟩ := open_link lt ht
        obtain ⟨-, -, hat⟩ := World.cells?_some hc
        refine ⟨l, hlo, fun j u hu => ?_⟩
        have hj : j < 4 := (List.getElem?_eq_some_iff.1 hu).1
        have := hat j hj
        have e1 : (⟨b, o, none⟩ : Addr).add (i * 4) = ⟨b, o + i * 4, none⟩ := by unfold Addr.add; split <;> simp_all
        have e2 : (⟨b, o + i * 4, none⟩ : Addr).add j = ⟨b, o + i * 4 + j, none⟩ := by unfold Addr.add; split <;> simp_all
        rw [e1, e2, hu] at this
        exact this
      obtain ⟨L, hL⟩ : ∃ L : Nat → LinkD, ∀ i, i < m → (L i).ok ∧ ∀ j u, (linkCells (L i))[j]? = some u → w.cell? ⟨b, o + i * 4 + j, none⟩ = some u :=
        ⟨fun i => if h : i < m then Classical.choose (each i h) else default, fun i h => by simp only [dif_pos h]; exact Classical.choose_spec (each i h)⟩
      have hget : ∀ i x, ((List.range len).map L)[i]? = some x → i < len ∧ x = L i := by
        intro i x hx
        have hil : i < len := by have := (List.getElem?_eq_some_iff.1 hx).1; simpa using this
        rw [List.getElem?_map, List.getElem?_range hil] at hx
        simp only [Option.map_some, Option.some.injEq] at hx
        exact ⟨hil, hx.symm⟩
      refine ⟨some ⟨b, o, none⟩, m, (List.range len).map L, by simp, ⟨by simpa using hl, hm, fun i x hx => ⟨b, o, rfl, ?_⟩⟩, .inr ⟨_, _, rfl⟩, fun x hx => ?_⟩
      · obtain ⟨h3, rfl⟩ := hget i x hx
        exact (hL i (by omega)).2
      · obtain ⟨i, hi⟩ := List.getElem?_of_mem hx
        obtain ⟨h3, rfl⟩ := hget i x hi
        exact (hL i (by omega)).1
def HierType (P : Program) (u a b : TypeId) : Prop := P.cellsOf u = 5 ∧ P.cellTypes P.depth u = some [a, a, b, a, b] ∧ ∃ f0 f1 f2 f3 f4, P.underlying u = some (.struct #[f0, f1, f2, f3, f4]) ∧ oneCellFields P #[f0, f1, f2, f3, f4] = true ∧ f0.type = a ∧ f1.type = a ∧ f2.type = b ∧ f3.type = a ∧ f4.type = b
theorem open_hier_of {u a b x l y : TypeId} {v : Value} {b0 base : Nat} {held : Bool} {d : DataW H} {p : List MemPlace} (ht : HierType P u a b) (hta : P.underlying a = some (.slice x)) (htx : P.underlying x = some (.int .u32)) (hcx : P.cellsOf x = 1) (htb : P.underlying b = some (.slice l)) (lt : LinkType P l x y) (hv : Value.okWide P w .any b0 u v) (h : DataW.Trod enc P w base (fun _ => true) held u v d p) :
    ∃ A h, v = hierVal A h ∧ HSee w A h ∧ HForm A := by
  obtain ⟨hcs, hct, f0, f1, f2, f3, f4, hu, hone, t0, t1, t2, t3, t4⟩ := ht
  have hv' := hv
  simp only [Value.okWide, hu] at hv'
  obtain ⟨cs, rfl, hsz, ts, hts, -, hrow⟩ := hv'
  rw [hct] at hts
  simp only [Option.some.injEq] at hts
  subst hts
  obtain ⟨cs⟩ := cs
  match cs, hsz.trans hcs with
  | [c0, c1, c2, c3, c4], _ =>
    obtain ⟨fuel, hf⟩ := h
    obtain ⟨xs, n, _, hx, _, hlen, hg⟩ := DataW.trod_struct hu hf
    obtain ⟨o0, k0⟩ := hone_of hone 0 f0 rfl
    obtain ⟨o1, k1⟩ := hone_of hone 1 f1 rfl
    obtain ⟨o2, k2⟩ := hone_of hone 2 f2 rfl
    obtain ⟨o3, k3⟩ := hone_of hone 3 f3 rfl
    obtain ⟨o4, k4⟩ := hone_of hone 4 f4 rfl
    match xs, hlen with
    | [y0, y1, y2, y3, y4], _ =>
      have h0 : DataW.trod enc P w base (fun _ => true) held n f0.type [c0] = some y0 := by simpa [Value.cells, o0, k0] using hg 0 f0 rfl
      have h1 : DataW.trod enc P w base (fun _ => true) held n f1.type [c1] = some y1 := by simpa [Value.cells, o1, k1] using hg 1 f1 rfl
      have h2 : DataW.trod enc P w base (fun _ => true) held n f2.type [c2] = some y2 := by simpa [Value.cells, o2, k2] using hg 2 f2 rfl
      have h3 : DataW.trod enc P w base (fun _ => true) held n f3.type [c3] = some y3 := by simpa [Value.cells, o3, k3] using hg 3 f3 rfl
      have h4 : DataW.trod enc P w base (fun _ => true) held n f4.type [c4] = some y4 := by simpa [Value.cells, o4, k4] using hg 4 f4 rfl
      rw [t0] at h0; rw [t1] at h1; rw [t2] at h2; rw [t3] at h3; rw [t4] at h4
      have r0 : Cell.okWide P w .any b0 a c0 := by obtain ⟨u, hu', h⟩ := hrow 0 c0 rfl; simp at hu'; subst hu'; exact h
      have r1 : Cell.okWide P w .any b0 a c1 := by obtain ⟨u, hu', h⟩ := hrow 1 c1 rfl; simp at hu'; subst hu'; exact h
      have r2 : Cell.okWide P w .any b0 b c2 := by obtain ⟨u, hu', h⟩ := hrow 2 c2 rfl; simp at hu'; subst hu'; exact h
      have r3 : Cell.okWide P w .any b0 a c3 := by obtain ⟨u, hu', h⟩ := hrow 3 c3 rfl; simp at hu'; subst hu'; exact h
      have r4 : Cell.okWide P w .any b0 b c4 := by obtain ⟨u, hu', h⟩ := hrow 4 c4 rfl; simp at hu'; subst hu'; exact h
      obtain ⟨a0, q0, l0, rfl, s0, m0, b0⟩ := open_words hta htx hcx r0 h0
      obtain ⟨a1, q1, l1, rfl, s1, m1, b1⟩ := open_words hta htx hcx r1 h1
      obtain ⟨a2, q2, l2, rfl, s2, m2, b2⟩ := open_links htb lt r2 h2
      obtain ⟨a3, q3, l3, rfl, s3, m3, b3⟩ := open_words hta htx hcx r3 h3
      obtain ⟨a4, q4, l4, rfl, s4, m4, b4⟩ := open_links htb lt r4 h4
      exact ⟨⟨a0, a1, a2, a3, a4, q0, q1, q2, q3, q4⟩, ⟨l0, l1, l2, l3, l4⟩, rfl, ⟨s0, s1, s2, s3, s4, b0, b1, b3, b2, b4⟩, ⟨m0, m1, m2, m3, m4⟩⟩
set_option maxRecDepth 100000 in
theorem Tryz.linkType : LinkType Tryz.prog 65 62 45 :=
  ⟨Tryz.underlying62, Tryz.underlying45, by kernel_rfl, _, _, _, _, Tryz.underlying65, by kernel_rfl, rfl, rfl, rfl, rfl⟩
set_option maxRecDepth 100000 in
theorem Tryz.hierType : HierType Tryz.prog 25 22 23 :=
  ⟨by kernel_rfl, by kernel_rfl, _, _, _, _, _, Tryz.underlying25, by kernel_rfl, rfl, rfl, rfl, rfl, rfl⟩
set_option maxRecDepth 100000 in
theorem open_hier {v : Value} {b0 base : Nat} {held : Bool} {d : DataW H} {p : List MemPlace} (hv : Value.okWide Tryz.prog w .any b0 25 v) (h : DataW.Trod enc Tryz.prog w base (fun _ => true) held 25 v d p) :
    ∃ A h, v = hierVal A h ∧ HSee w A h ∧ HForm A :=
  open_hier_of Tryz.hierType Tryz.underlying22 Tryz.underlying62 (by kernel_rfl) Tryz.underlying23 Tryz.linkType hv h
end
end Go.Proofs.YtchhbgckonpedaaGreatDoor
