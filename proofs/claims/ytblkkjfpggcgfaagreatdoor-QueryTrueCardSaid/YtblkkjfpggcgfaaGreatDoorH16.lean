/- The contract of query's meet, where both nodes are there. -/
import Derived.Test.YtblkkjfpggcgfaaGreatDoorH14
namespace Go.Proofs.YtblkkjfpggcgfaaGreatDoor
open Go.ChangeShapes Go.WideShapes Go.ChangeAt Go.RowKit Go.Joins Go.Deep
theorem Tryz.sizeSeen (w : World) : (sizeOf 117).run Tryz.prog w = .ok 3 w := by kernel_rfl
theorem run_tail {P : Program} (t e : TypeId) (sz : Nat) (ht : P.underlying t = some (.slice e)) (hs : ∀ w, (sizeOf e).run P w = .ok sz w) (ao : Option Addr) (n cap : Nat) (h1 : 1 ≤ n) (w : World) :
    (Instr.slice t (.slice ao n cap) (some (.int .i64 1)) none none).run P w = .ok (.slice (slBase ao 1 cap sz) (n - 1) (cap - 1)) w := by
  have he : P.elem t = e := by simp [Program.elem, ht]
  have h := run_slice_l (P := P) (w := w) t ao n cap (by rw [ht, he]) .i64 1 (by omega) (by omega)
  rw [h, he, hs]
  simp [Result.andThen, sliced, slBase]
theorem see_tail {α : Type} {w : World} {ao : Option Addr} {cap sz : Nat} {f : α → List Value} {x : α} {l : List α} (h : See w ao cap f sz (x :: l)) : See w (slBase ao 1 cap sz) (cap - 1) f sz l := by
  have := h.sub 1 (x :: l).length (Nat.le_refl _)
  rw [List.take_length] at this
  exact this
structure MInv (n : Nat) (D E : Nat → Option Int) (m : Nat) (L M : List SeenD) (r : Nat) (d : Int) : Prop where
  le : m ≤ n
  up : L.map (fun x => (x.rank, x.dist)) = seenFrom n D m
  dn : M.map (fun x => (x.rank, x.dist)) = seenFrom n E m
  best : meetTo D E m = (r, d)
theorem MInv.done {n : Nat} {D E : Nat → Option Int} {m : Nat} {L M : List SeenD} {r : Nat} {d : Int} (h : MInv n D E m L M r d) (he : L = [] ∨ M = []) : meetTo D E n = (r, d) := by
  rw [← h.best, show n = m + (n - m) from by have := h.le; omega]
  apply meetTo_skip
  intro q h1 h2
  rcases he with rfl | rfl
  · exact .inl (seenFrom_nil _ m rfl h.up.symm q h1 (by have := h.le; omega))
  · exact .inr (seenFrom_nil _ m rfl h.dn.symm q h1 (by have := h.le; omega))
theorem MInv.same {n : Nat} {D E : Nat → Option Int} {m : Nat} {x y : SeenD} {L M : List SeenD} {r : Nat} {d : Int} (h : MInv n D E m (x :: L) (y :: M) r d) (hxy : x.rank = y.rank) :
    MInv n D E (x.rank + 1) L M (if x.dist + y.dist < d then x.rank else r) (if x.dist + y.dist < d then x.dist + y.dist else d) := by
  obtain ⟨h1, h2, h3, h4, h5⟩ := seenFrom_cons _ m rfl h.up.symm
  obtain ⟨k1, k2, k3, k4, k5⟩ := seenFrom_cons _ m rfl h.dn.symm
  refine ⟨h2, h4, by rw [hxy]; exact k4, ?_⟩
  rw [← hxy] at k3
  rw [meetTo_step h3 k3]
  have hs := meetTo_skip (D := D) (E := E) (m := m) (x.rank - m) (fun q q1 q2 => .inl (h5 q q1 (by omega)))
  rw [show m + (x.rank - m) = x.rank from by omega, h.best] at hs
  rw [hs]
  split <;> rfl
theorem MInv.left {n : Nat} {D E : Nat → Option Int} {m : Nat} {x y : SeenD} {L M : List SeenD} {r : Nat} {d : Int} (h : MInv n D E m (x :: L) (y :: M) r d) (hxy : x.rank < y.rank) : MInv n D E (x.rank + 1) L (y :: M) r d := by
  obtain ⟨h1, h2, h3, h4, h5⟩ := seenFrom_cons _ m rfl h.up.symm
  obtain ⟨k1, k2, k3, k4, k5⟩ := seenFrom_cons _ m rfl h.dn.symm
  refine ⟨h2, h4, ?_, ?_⟩
  · rw [h.dn, show x.rank + 1 = m + (x.rank + 1 - m) from by omega]
    exact seenFrom_skip _ (by omega) (fun q q1 q2 => k5 q q1 (by omega))
  · rw [← h.best, show x.rank + 1 = m + (x.rank + 1 - m) from by omega]
    exact meetTo_skip _ (fun q q1 q2 => .inr (k5 q q1 (by omega)))
theorem MInv.right {n : Nat} {D E : Nat → Option Int} {m : Nat} {x y : SeenD} {L M : List SeenD} {r : Nat} {d : Int} (h : MInv n D E m (x :: L) (y :: M) r d) (hxy : y.rank < x.rank) : MInv n D E (y.rank + 1) (x :: L) M r d := by
  obtain ⟨h1, h2, h3, h4, h5⟩ := seenFrom_cons _ m rfl h.up.symm
  obtain ⟨k1, k2, k3, k4, k5⟩ := seenFrom_cons _ m rfl h.dn.symm
  refine ⟨k2, ?_, k4, ?_⟩
  · rw [h.up, show y.rank + 1 = m + (y.rank + 1 - m) from by omega]
    exact seenFrom_skip _ (by omega) (fun q q1 q2 => h5 q q1 (by omega))
  · rw [← h.best, show y.rank + 1 = m + (y.rank + 1 - m) from by omega]
    exact meetTo_skip _ (fun q q1 q2 => .inl (h5 q q1 (by omega)))
theorem MInv.heads {n : Nat} {D E : Nat → Option Int} {m : Nat} {x y : SeenD} {L M : List SeenD} {r : Nat} {d : Int} (h : MInv n D E m (x :: L) (y :: M) r d) : x.rank < n ∧ y.rank < n ∧ D x.rank = some x.dist ∧ E y.rank = some y.dist := by
  obtain ⟨h1, h2, h3, h4, h5⟩ := seenFrom_cons _ m rfl h.up.symm
  obtain ⟨k1, k2, k3, k4, k5⟩ := seenFrom_cons _ m rfl h.dn.symm
  exact ⟨h2, k2, h3, k3⟩
set_option maxRecDepth 100000 in
set_option maxHeartbeats 4000000 in
theorem meet_walk (A : HA) (h : HierD) (s t : Nat) (w : World) (see : HSee w A h) (hc : checkErr h = .nil) (hs : s < h.node.length) (ht : t < h.node.length) : Calls Tryz.prog 20 #[hierVal A h, .int .i64 s, .int .i64 t] w (MeetPost h s t w) := by
  have SEE := Lib.hid see
  have HC := Lib.hid hc
  obtain ⟨f, -, -, ho, -⟩ := checkErr_parts hc
  have hn := f.n
  have ok := order_nil ho
  have hk : nodesErr h.node.length s t = .nil := by unfold nodesErr; rw [if_neg (by omega), if_neg (by omega)]
  have HK := Lib.hid hk
  have his : h.node.idxOf s < h.node.length := List.idxOf_lt_length_of_mem (ok.mem s hs)
  have hit : h.node.idxOf t < h.node.length := List.idxOf_lt_length_of_mem (ok.mem t ht)
  have e1 : decide (h.node.length ≤ s) = false := by simp; omega
  have e2 : decide (h.node.length ≤ t) = false := by simp; omega
  clear see hc hk f ho ok
  unfold hierVal
  go_enter Tryz.func20, Tryz.ntmps20
  go_wp2_with fail
  refine (ranks_any A h _ (SEE.out.below (((Below.refl _ _).alloc (Nat.le_refl _) _).alloc (by simp) _))).mono ?_
  rintro e w1 (⟨v, rfl, hv, hcc, hb⟩ | ⟨b, rfl, -, hbb, hrk, hb⟩)
  · exact absurd HC.out hcc
  have hcs0 := ((Cells.new w 25 (hierCells A h)).alloc (.cells #[.int .i64 0, .int .u64 0] 72)).below hb (by simp; omega)
  have hcs := (Cells.new (w.alloc (.cells (hierCells A h).toArray 25)) 72 [.int .i64 0, .int .u64 0]).below hb (by simp)
  rw [World.size_alloc] at hcs
  have lb := hcs.lt
  have HCS0 := Lib.hid hcs0
  have HCS := Lib.hid hcs
  have HRK := Lib.hid hrk
  have lbb := hrk.lt
  have HB := Lib.hid ((((Below.refl w.heap.size w).alloc (Nat.le_refl _) _).alloc (by simp) _).trans (hb.mono (by simp; omega)))
  clear hb hcs hcs0 hrk hbb
  go_wp2_with fail
  go_loopg [30] 2 (fun g vi wr => ∃ k : Nat, vi = .int .i64 k ∧ k ≤ 2 ∧ g = 2 - k ∧ wr = w1.alloc (.cells #[.int .i64 s, .int .i64 t] 3))
  case atStart => exact ⟨0, rfl, by omega, rfl, rfl⟩
  case round =>
    obtain ⟨k, rfl, hk, hg, rfl⟩ := hrel
    rcases (by omega : k = 0 ∨ k = 1 ∨ k = 2) with rfl | rfl | rfl
    · go_wp2_with fail
      go_roundg 1
      case measure => omega
      case rel => exact ⟨1, rfl, by omega, rfl, rfl⟩
    · go_wp2_with fail
      go_roundg 0
      case measure => omega
      case rel => exact ⟨2, rfl, by omega, rfl, rfl⟩
    · have HB1 := Lib.hid (HB.out.alloc HB.out.size (.cells #[.int .i64 s, .int .i64 t] 3))
      have HRK1 := Lib.hid (HRK.out.alloc (.cells #[.int .i64 s, .int .i64 t] 3))
      have HCS1 := Lib.hid (HCS.out.alloc (.cells #[.int .i64 s, .int .i64 t] 3))
      have HCS01 := Lib.hid (HCS0.out.alloc (.cells #[.int .i64 s, .int .i64 t] 3))
      have hz1 : w1.heap.size < (w1.alloc (.cells #[.int .i64 s, .int .i64 t] 3)).heap.size := by simp
      obtain ⟨wo, hwo⟩ : ∃ wo, w1.alloc (.cells #[.int .i64 s, .int .i64 t] 3) = wo := ⟨_, rfl⟩
      rw [hwo] at HB1 HRK1 HCS1 HCS01 hz1 ⊢
      clear hwo HB HRK HCS HCS0 hg hk
      have k0 : wo.cell? ⟨w.heap.size, 0, none⟩ = some (.slice A.a0 h.node.length A.c0) := HCS01.out.cell rfl
      have k1 : wo.cell? ⟨w.heap.size, 1, none⟩ = some (.slice A.a1 h.upF.length A.c1) := HCS01.out.cell rfl
      have k2 : wo.cell? ⟨w.heap.size, 2, none⟩ = some (.slice A.a2 h.up.length A.c2) := HCS01.out.cell rfl
      have k3 : wo.cell? ⟨w.heap.size, 3, none⟩ = some (.slice A.a3 h.dnF.length A.c3) := HCS01.out.cell rfl
      have k4 : wo.cell? ⟨w.heap.size, 4, none⟩ = some (.slice A.a4 h.dn.length A.c4) := HCS01.out.cell rfl
      have k5 : wo.cell? ⟨b, s, none⟩ = some (.int .i64 (h.node.idxOf s : Int)) := HRK1.out.cell (by simp [rankCells, hs])
      go_wp2_with fail
      go_region_held3 (fun W => W.cell? ⟨w.heap.size, 0, none⟩ = some (.slice A.a0 h.node.length A.c0) ∧ W.cell? ⟨w.heap.size, 1, none⟩ = some (.slice A.a1 h.upF.length A.c1) ∧ W.cell? ⟨w.heap.size, 2, none⟩ = some (.slice A.a2 h.up.length A.c2) ∧ W.cell? ⟨w.heap.size, 3, none⟩ = some (.slice A.a3 h.dnF.length A.c3) ∧ W.cell? ⟨w.heap.size, 4, none⟩ = some (.slice A.a4 h.dn.length A.c4) ∧ W.cell? ⟨b, s, none⟩ = some (.int .i64 (h.node.idxOf s : Int))) (go_keep)
        (first | (go_at_call 43; refine (cup_any A h (h.node.idxOf s) _ ((SEE.out.below HB1.out).below (Below.refl _ _).drew) HC.out his).mono ?_; rintro e w2 ⟨ao, cap, L, D, rfl, hown, hnew, hd, hm, hb2⟩; (have j0 := ck hb2 k0); (have j1 := ck hb2 k1); (have j2 := ck hb2 k2); (have j3 := ck hb2 k3); (have j4 := ck hb2 k4); (have j5 := ck hb2 k5)))
      have hB2 : Below wo.heap.size wo w2 := (Below.refl wo.heap.size wo).drew.trans hb2
      have HB2 := Lib.hid (HB1.out.trans (hB2.mono HB1.out.size))
      have HOWN := Lib.hid hown
      have HNEW := Lib.hid hnew
      have HD := Lib.hid hd
      have HM := Lib.hid hm
      have HRK2 := Lib.hid (HRK1.out.below hB2 (by omega))
      have HCS2 := Lib.hid (HCS1.out.below hB2 (by omega))
      have HCS02 := Lib.hid (HCS01.out.below hB2 (by omega))
      have hz2 := hB2.size
      have k6 : w2.cell? ⟨b, t, none⟩ = some (.int .i64 (h.node.idxOf t : Int)) := HRK2.out.cell (by simp [rankCells, ht])
      clear hown hnew hd hm hb2 hB2 k0 k1 k2 k3 k4 k5 j5
      go_wp2_with fail
      go_region_held3 (fun W => W.cell? ⟨w.heap.size, 0, none⟩ = some (.slice A.a0 h.node.length A.c0) ∧ W.cell? ⟨w.heap.size, 1, none⟩ = some (.slice A.a1 h.upF.length A.c1) ∧ W.cell? ⟨w.heap.size, 2, none⟩ = some (.slice A.a2 h.up.length A.c2) ∧ W.cell? ⟨w.heap.size, 3, none⟩ = some (.slice A.a3 h.dnF.length A.c3) ∧ W.cell? ⟨w.heap.size, 4, none⟩ = some (.slice A.a4 h.dn.length A.c4) ∧ W.cell? ⟨b, t, none⟩ = some (.int .i64 (h.node.idxOf t : Int))) (go_keep)
        (first | (go_at_call 44; refine (cdown_any A h (h.node.idxOf t) _ ((SEE.out.below HB2.out).below (Below.refl _ _).drew) HC.out hit).mono ?_; rintro e w3 ⟨ao2, cap2, M, E, rfl, hown2, hnew2, hd2, hm2, hb3⟩; (have i0 := ck hb3 j0); (have i1 := ck hb3 j1); (have i2 := ck hb3 j2); (have i3 := ck hb3 j3); (have i4 := ck hb3 j4); (have i5 := ck hb3 k6)))
      have hB3 : Below w2.heap.size w2 w3 := (Below.refl w2.heap.size w2).drew.trans hb3
      have HB3 := Lib.hid (HB2.out.trans (hB3.mono HB2.out.size))
      have hz3 := hB3.size
      have HCS3 := Lib.hid (HCS2.out.below hB3 (by omega))
      have hsL := (See.of_own seenCells_len (own_kept (bs := []) HOWN.out (Only.of_below hB3) (fun _ _ => by simp)) (by omega)).1
      have hsM := (See.of_own seenCells_len hown2 (by omega)).1
      have HSL := Lib.hid hsL
      have HSM := Lib.hid hsM
      have HE := Lib.hid hd2
      have HM2 := Lib.hid hm2
      clear hown2 hnew2 hd2 hm2 hb3 hB3 i0 i1 i2 i3 i4 i5 j0 j1 j2 j3 j4 k6 hsL hsM
      go_wp2_with fail
      go_loopg [12, 13] (L.length + M.length) (fun g vl vm wr => ∃ (a1 : Option Addr) (c1 l1 : Nat) (L1 : List SeenD) (a2 : Option Addr) (c2 l2 : Nat) (M1 : List SeenD) (m r : Nat) (d : Int), vl = .slice a1 l1 c1 ∧ vm = .slice a2 l2 c2 ∧ L1.length = l1 ∧ M1.length = l2 ∧ g = l1 + l2 ∧
        See w3 a1 c1 seenCells 3 L1 ∧ See w3 a2 c2 seenCells 3 M1 ∧ MInv h.node.length D E m L1 M1 r d ∧ Cells wr w3.heap.size 72 [.int .i64 r, .int .u64 d] ∧ Below w3.heap.size w3 wr)
      case atStart =>
        exact ⟨ao, cap, _, L, ao2, cap2, _, M, 0, 0, 18446744073709551615, rfl, rfl, rfl, rfl, rfl, HSL.out, HSM.out, ⟨Nat.zero_le _, by rw [HM.out, seenFrom_zero], by rw [HM2.out, seenFrom_zero], rfl⟩,
          Cells.new w3 72 [.int .i64 0, .int .u64 18446744073709551615], (Below.refl _ _).alloc (Nat.le_refl _) _⟩
      case round =>
        obtain ⟨a1, c1, l1, L1, a2, c2, l2, M1, m, r, d, rfl, rfl, hl1, hl2, hg, hs1, hs2, hmi, hcb, hbl⟩ := hrel
        have hbD := HD.out.bnd (half_up HC.out)
        have hbE := HE.out.bnd (half_dn HC.out)
        have hmb : 0 ≤ d ∧ d ≤ 18446744073709551615 ∧ r ≤ 65536 := by
          have h1 := meetTo_bnd (fun r d h => (hbD r d h).1) (fun r d h => (hbE r d h).1) m
          rw [hmi.best] at h1
          have := hmi.le
          exact ⟨h1.2.1, h1.2.2, by have := h1.1; simp only at this; omega⟩
        obtain ⟨hd0, hd1, hr0⟩ := hmb
        have q0 : wr.cell? ⟨w3.heap.size, 0, none⟩ = some (.int .i64 r) := hcb.cell rfl
        have q1 : wr.cell? ⟨w3.heap.size, 1, none⟩ = some (.int .u64 d) := hcb.cell rfl
        have f0 := hcb.frozen 0
        have f1 := hcb.frozen 1
        have lbq := hcb.lt
        have hbz := hbl.size
        have HG := Lib.hid hg
        have HS1 := Lib.hid hs1
        have HS2 := Lib.hid hs2
        have HMI := Lib.hid hmi
        have HCB := Lib.hid hcb
        have HBL := Lib.hid hbl
        have HBD := Lib.hid hbD
        have HBE := Lib.hid hbE
        have HL1 := Lib.hid hl1
        have HL2 := Lib.hid hl2
        clear hg hs1 hs2 hmi hcb hbl hbD hbE hl1 hl2
        by_cases hz : l1 = 0 ∨ l2 = 0
        · have hfin : meetTo D E h.node.length = (r, d) := HMI.out.done (by
            rcases hz with h0 | h0
            · exact .inl (List.eq_nil_of_length_eq_zero (HL1.out.trans h0))
            · exact .inr (List.eq_nil_of_length_eq_zero (HL2.out.trans h0)))
          have HFIN := Lib.hid hfin
          have hcs4 := HCS3.out.below HBL.out (by omega)
          have p0 : wr.cell? ⟨w.heap.size + 1, 0, none⟩ = some (.int .i64 0) := hcs4.cell rfl
          have p1 : wr.cell? ⟨w.heap.size + 1, 1, none⟩ = some (.int .u64 0) := hcs4.cell rfl
          have g0 := hcs4.frozen 0
          have g1 := hcs4.frozen 1
          have HCS4 := Lib.hid hcs4
          have lb4 := hcs4.lt
          have HB4 := Lib.hid (HB3.out.trans (HBL.out.mono HB3.out.size))
          have hz2 : decide (0 < l1) = false ∨ (decide (0 < l1) = true ∧ decide (0 < l2) = false) := by
            by_cases h0 : 0 < l1
            · exact .inr ⟨by simpa using h0, by simp; omega⟩
            · exact .inl (by simpa using h0)
          clear hfin hcs4 hz
          by_cases hu : d = 18446744073709551615
          · have hu2 : (d == 18446744073709551615) = true := by simpa using hu
            rcases hz2 with z1 | ⟨z1, z2⟩
            all_goals
              go_wp2
              refine bodyPost_ret (results_ct rfl _ _ (w.heap.size + 1) 72 [.int .i64 0, .int .u64 0] _ rfl ((HCS4.out.set 0 _).set 1 _) Tryz.underlying72 rfl (by rw [Tryz.sizeBest]; rfl)) rfl ?_
              exact ⟨0, 0, .code 16, _, rfl, rfl, .none D E HC.out HK.out HD.out HE.out (by rw [HFIN.out]; first | exact hu | rfl), (HB4.out.setCell (p := ⟨w.heap.size + 1, 0, none⟩) (by simp) _).setCell (p := ⟨w.heap.size + 1, 1, none⟩) (by simp) _⟩
          · have hu2 : (d == 18446744073709551615) = false := by simpa using hu
            rcases hz2 with z1 | ⟨z1, z2⟩
            all_goals
              go_wp2
              refine bodyPost_ret (results_ct rfl _ _ (w.heap.size + 1) 72 [.int .i64 r, .int .u64 d] _ rfl ((HCS4.out.set 0 _).set 1 _) Tryz.underlying72 rfl (by rw [Tryz.sizeBest]; rfl)) rfl ?_
              exact ⟨r, d, .nil, _, rfl, rfl, .walk D E r d HC.out HK.out HD.out HE.out HFIN.out hu, (HB4.out.setCell (p := ⟨w.heap.size + 1, 0, none⟩) (by simp) _).setCell (p := ⟨w.heap.size + 1, 1, none⟩) (by simp) _⟩
        · obtain ⟨z1, z2⟩ : 0 < l1 ∧ 0 < l2 := by omega
          have w1' : decide (0 < l1) = true := by simpa using z1
          have w2' : decide (0 < l2) = true := by simpa using z2
          cases L1 with
          | nil => exact absurd HL1.out (by simp; omega)
          | cons x L1 =>
          cases M1 with
          | nil => exact absurd HL2.out (by simp; omega)
          | cons y M1 =>
          obtain ⟨b1, o1, rfl, lb1, cc1⟩ := see_base HS1.out (by simp) seenCells_len (by omega)
          obtain ⟨b2, o2, rfl, lb2, cc2⟩ := see_base HS2.out (by simp) seenCells_len (by omega)
          have x0 := ck HBL.out (cc1 0 x rfl 0 _ rfl)
          have x1 := ck HBL.out (cc1 0 x rfl 1 _ rfl)
          have x2 := ck HBL.out (cc1 0 x rfl 2 _ rfl)
          have y0 := ck HBL.out (cc2 0 y rfl 0 _ rfl)
          have y1 := ck HBL.out (cc2 0 y rfl 1 _ rfl)
          have y2 := ck HBL.out (cc2 0 y rfl 2 _ rfl)
          simp only [Nat.zero_mul, Nat.add_zero] at x0 x1 x2 y0 y1 y2
          have htl1 := run_tail (P := Tryz.prog) 113 117 3 Tryz.underlying113 Tryz.sizeSeen (some ⟨b1, o1, none⟩) l1 c1 (by omega)
          have htl2 := run_tail (P := Tryz.prog) 113 117 3 Tryz.underlying113 Tryz.sizeSeen (some ⟨b2, o2, none⟩) l2 c2 (by omega)
          obtain ⟨hxr, hyr, hxd, hyd⟩ := HMI.out.heads
          obtain ⟨hx0, hx1⟩ := HBD.out _ _ hxd
          obtain ⟨hy0, hy1⟩ := HBE.out _ _ hyd
          have hx2 : x.dist ≤ 9223231299366420480 := by omega
          have hy2 : y.dist ≤ 9223231299366420480 := by omega
          have lw1 : b1 < wr.heap.size := by omega
          have lw2 : b2 < wr.heap.size := by omega
          clear cc1 cc2 hz hxd hyd hx1 hy1
          rcases Nat.lt_trichotomy x.rank y.rank with hxy | hxy | hxy
          · have t1 : ((x.rank : Int) == (y.rank : Int)) = false := by simp; omega
            have t2 : decide (x.rank ≤ y.rank) = true := by simp; omega
            have t3 : decide (y.rank ≤ x.rank) = false := by simp; omega
            have HI := Lib.hid (HMI.out.left hxy)
            clear hxy
            go_wp2_with fail
            go_region
            all_goals
              dsimp only [Exit.then]
              go_wp2_with fail
              go_roundg (l1 - 1 + l2)
              case measure => rw [HG.out]; omega
              case rel =>
                have hbb := HBL.out
                refine ⟨slBase (some ⟨b1, o1, none⟩) 1 c1 3, c1 - 1, l1 - 1, L1, _, _, _, (y :: M1), _, r, d, rfl, rfl, by have := HL1.out; simp at this; omega, HL2.out, rfl, see_tail HS1.out, HS2.out, HI.out, ?_, ?_⟩
                · exact ((HCB.out.alloc _).alloc _)
                · go_grown
          · have t1 : ((x.rank : Int) == (y.rank : Int)) = true := by simp; omega
            have t2 : decide (x.rank ≤ y.rank) = true := by simp; omega
            have t3 : decide (y.rank ≤ x.rank) = true := by simp; omega
            have hi := HMI.out.same hxy
            clear hxy
            by_cases hlt : x.dist + y.dist < d
            · have t4 : decide (x.dist + y.dist < d) = true := by simpa using hlt
              rw [if_pos hlt, if_pos hlt] at hi
              have HI := Lib.hid hi
              clear hi hlt
              go_wp2_with fail
              go_region
              all_goals
                dsimp only [Exit.then]
                go_wp2_with fail
                go_roundg (l1 - 1 + (l2 - 1))
                case measure => rw [HG.out]; omega
                case rel =>
                  have hbb := HBL.out
                  refine ⟨slBase (some ⟨b1, o1, none⟩) 1 c1 3, c1 - 1, l1 - 1, L1, slBase (some ⟨b2, o2, none⟩) 1 c2 3, c2 - 1, l2 - 1, M1, _, x.rank, (x.dist + y.dist), rfl, rfl, by have := HL1.out; simp at this; omega, by have := HL2.out; simp at this; omega, rfl, see_tail HS1.out, see_tail HS2.out, HI.out, ?_, ?_⟩
                  · exact (((HCB.out.set 0 _).set 1 _).alloc _).alloc _
                  · go_grown
            · have t4 : decide (x.dist + y.dist < d) = false := by simpa using hlt
              rw [if_neg hlt, if_neg hlt] at hi
              have HI := Lib.hid hi
              clear hi hlt
              go_wp2_with fail
              go_region
              all_goals
                dsimp only [Exit.then]
                go_wp2_with fail
                go_roundg (l1 - 1 + (l2 - 1))
                case measure => rw [HG.out]; omega
                case rel =>
                  have hbb := HBL.out
                  refine ⟨slBase (some ⟨b1, o1, none⟩) 1 c1 3, c1 - 1, l1 - 1, L1, slBase (some ⟨b2, o2, none⟩) 1 c2 3, c2 - 1, l2 - 1, M1, _, r, d, rfl, rfl, by have := HL1.out; simp at this; omega, by have := HL2.out; simp at this; omega, rfl, see_tail HS1.out, see_tail HS2.out, HI.out, ?_, ?_⟩
                  · exact ((HCB.out.alloc _).alloc _)
                  · go_grown
          · have t1 : ((x.rank : Int) == (y.rank : Int)) = false := by simp; omega
            have t2 : decide (x.rank ≤ y.rank) = false := by simp; omega
            have t3 : decide (y.rank ≤ x.rank) = true := by simp; omega
            have HI := Lib.hid (HMI.out.right hxy)
            clear hxy
            go_wp2_with fail
            go_region
            all_goals
              dsimp only [Exit.then]
              go_wp2_with fail
              go_roundg (l1 + (l2 - 1))
              case measure => rw [HG.out]; omega
              case rel =>
                have hbb := HBL.out
                refine ⟨_, _, _, (x :: L1), slBase (some ⟨b2, o2, none⟩) 1 c2 3, c2 - 1, l2 - 1, M1, _, r, d, rfl, rfl, HL1.out, by have := HL2.out; simp at this; omega, rfl, HS1.out, see_tail HS2.out, HI.out, ?_, ?_⟩
                · exact ((HCB.out.alloc _).alloc _)
                · go_grown
end Go.Proofs.YtblkkjfpggcgfaaGreatDoor
