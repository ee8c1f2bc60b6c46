/- The reference's Above: its square, and the whole. -/
import Derived.Test.YtjbphoophgbmiaaDoorM20
import Derived.Test.YtjbphoophgbmiaaDoorM14
import Derived.BigQuiet
namespace Go.Proofs.YtjbphoophgbmiaaDoor
open Go.ChangeShapes Go.WideShapes Go.ChangeAt Go.RowKit Go.Joins Go.Deep

/-- The first k rows of a square are laid. -/
structure MBeg (n k : Nat) (X : Nat → Nat → Int) (bm base : Nat) (vs : Nat → Value) (rb : Nat → Nat) (w : World) : Prop where
  m : Cells w bm 57 (ptrRow n vs)
  bb : base ≤ bm
  v : ∀ q, q < k → vs q = .slice (some ⟨rb q, 0, none⟩) n n
  c : ∀ q, q < k → Cells w (rb q) 37 (rowCells n (X q))
  lo : ∀ q, q < k → base ≤ rb q
  ne : ∀ q, q < k → rb q ≠ bm
  inj : ∀ p q, p < k → q < k → rb p = rb q → p = q
theorem MBeg.below {n k : Nat} {X : Nat → Nat → Int} {bm base : Nat} {vs : Nat → Value} {rb : Nat → Nat} {w w' : World} (h : MBeg n k X bm base vs rb w) (o : Below w.heap.size w w') : MBeg n k X bm base vs rb w' :=
  ⟨h.m.below o h.m.lt, h.bb, h.v, fun q hq => (h.c q hq).below o (h.c q hq).lt, h.lo, h.ne, h.inj⟩
theorem MBeg.all {n : Nat} {X : Nat → Nat → Int} {bm base : Nat} {vs : Nat → Value} {rb : Nat → Nat} {w : World} (h : MBeg n n X bm base vs rb w) : MOwn n X bm base rb w :=
  ⟨⟨by rw [← ptrRow_congr h.v]; exact h.m, h.c⟩, h.bb, h.lo, h.ne, h.inj⟩
/-- A row has been written in a block of its own. -/
theorem MBeg.next {n k : Nat} {X : Nat → Nat → Int} {bm base : Nat} {vs : Nat → Value} {rb : Nat → Nat} {w wn : World} {f : Nat → Int} {b : Nat} (h : MBeg n k X bm base vs rb w) (hb : w.heap.size ≤ b) (hbase : base ≤ w.heap.size)
    (o : Only [bm] w wn) (hm : Cells wn bm 57 (ptrRow n fun x => if x = k then .slice (some ⟨b, 0, none⟩) n n else vs x)) (hc : Cells wn b 37 (rowCells n f)) (hf : ∀ x, x < n → f x = X k x) :
    MBeg n (k + 1) X bm base (fun x => if x = k then .slice (some ⟨b, 0, none⟩) n n else vs x) (fun x => if x = k then b else rb x) wn := by
  have lt := h.m.lt
  refine ⟨hm, h.bb, fun q hq => ?_, fun q hq => ?_, fun q hq => ?_, fun q hq => ?_, fun p q hp hq e => ?_⟩
  · by_cases c : q = k
    · rw [if_pos c, if_pos c]
    · rw [if_neg c, if_neg c]; exact h.v q (by omega)
  · by_cases c : q = k
    · rw [if_pos c, c, ← rowCells_congr hf]; exact hc
    · rw [if_neg c]; exact (h.c q (by omega)).kept o (by simpa using h.ne q (by omega))
  · by_cases c : q = k
    · rw [if_pos c]; omega
    · rw [if_neg c]; exact h.lo q (by omega)
  · by_cases c : q = k
    · rw [if_pos c]; omega
    · rw [if_neg c]; exact h.ne q (by omega)
  · by_cases c : p = k <;> by_cases c2 : q = k
    · omega
    · rw [if_pos c, if_neg c2] at e
      have := (h.c q (by omega)).lt
      omega
    · rw [if_neg c, if_pos c2] at e
      have := (h.c p (by omega)).lt
      omega
    · rw [if_neg c, if_neg c2] at e
      exact h.inj p q (by omega) (by omega) e
set_option linter.unusedSimpArgs false in
set_option maxRecDepth 100000 in
set_option maxHeartbeats 8000000 in
theorem rab_rows {s0 s3 s4 s7 s8 s9 s10 s11 s12 s13 s14 s15 s16 s17 s18 s19 s20 s21 s22 s23 s24 s25 s26 s27 s28 s29 s30 s31 s32 s33 s34 s35 s36 s37 s38 s39 s40 s41 s42 s43 s44 s45 s46 s47 s48 s49 s50 s51 s52 s53 s54 s55 s56 s57 s58 s59 s60 s61 s62 s63 s64 s65 s66 s67 s68 s69 s70 s71 s72 s73 s74 s75 s76 s77 s78 s79 s80 s81 s82 s83 s84 s85 s86 s87 s88 s89 s90 s91 s92 s93 s94 s95 s96 s97 s98 s99 s100 s101 s102 s103 s104 s105 s106 s107 s108 s109 s110 s111 s112 s113 s114 s115 s116 s117 s118 s119 s120 s121 s122 s123 s124 s125 s126 s127 s128 s129 s130 s131 s132 s133 s134 s135 s136 s137 s138 s139 s140 s141 s142 s143 s144 s145 s146 s147 s148 s149 s150 s151 : Value} {A : HA} {h : HierD} {lo bm : Nat} {r : Int} {w wx : World} (see : HSee w A h) (hc : checkErr h = .nil) (hr : (lo : Int) = r + 1) (hlo : lo ≤ h.node.length) (hn : h.node.length ≤ 14) (hx : Cells wx w.heap.size 25 (hierCells A h)) (hb : Below w.heap.size w wx) (hm : Cells wx bm 57 (ptrRow h.node.length fun _ => .slice none 0 0)) (hbm : w.heap.size < bm) : Code.wp Tryd.prog (tailAt 3 rabBody) (bodyPost Tryd.prog Tryd.f56 (RAboveNew h lo w)) ⟨#[s0, .int .i64 r, .pointer (some ⟨w.heap.size, 0, none⟩), s3, s4, .int .i64 (h.node.length : Nat), .slice (some ⟨bm, 0, none⟩) h.node.length h.node.length, s7, s8, s9, s10, s11, s12, s13, s14, s15, s16, s17, s18, s19, s20, s21, s22, s23, s24, s25, s26, s27, s28, s29, s30, s31, s32, s33, s34, s35, s36, s37, s38, s39, s40, s41, s42, s43, s44, s45, s46, s47, s48, s49, s50, s51, s52, s53, s54, s55, s56, s57, s58, s59, s60, s61, s62, s63, s64, s65, s66, s67, s68, s69, s70, s71, s72, s73, s74, s75, s76, s77, s78, s79, s80, s81, s82, s83, s84, s85, s86, s87, s88, s89, s90, s91, s92, s93, s94, s95, s96, s97, s98, s99, s100, s101, s102, s103, s104, s105, s106, s107, s108, s109, s110, s111, s112, s113, s114, s115, s116, s117, s118, s119, s120, s121, s122, s123, s124, s125, s126, s127, s128, s129, s130, s131, s132, s133, s134, s135, s136, s137, s138, s139, s140, s141, s142, s143, s144, s145, s146, s147, s148, s149, s150, s151], []⟩ wx := by
  have SEE := Lib.hid see
  have HC := Lib.hid hc
  have HR := Lib.hid hr
  have HX0 := Lib.hid hx
  have HB0 := Lib.hid hb
  have HM0 := Lib.hid hm
  have HSZ := Lib.hid (show w.heap.size < wx.heap.size from hx.lt)
  clear see hc hr hx hb hm
  conv => arg 2; whnf
  apply wp_seq_k
  intro KK hK
  have HKK := Lib.hid hK
  clear hK
  go_wp2_with fail
  go_loopg [21] h.node.length (fun gg vi wr => ∃ (k : Nat) (vs : Nat → Value) (rb : Nat → Nat), vi = .int .i64 (k : Int) ∧ k ≤ h.node.length ∧ gg = h.node.length - k ∧ MBeg h.node.length k (fun a b => farOf (D0 a b)) bm (w.heap.size + 1) vs rb wr ∧ Cells wr w.heap.size 25 (hierCells A h) ∧ Below w.heap.size w wr)
  case atStart => exact ⟨0, fun _ => .slice none 0 0, fun _ => 0, rfl, Nat.zero_le _, rfl, ⟨HM0.out, by omega, fun q hq => absurd hq (by omega), fun q hq => absurd hq (by omega), fun q hq => absurd hq (by omega), fun q hq => absurd hq (by omega), fun p q hp => absurd hp (by omega)⟩, HX0.out, HB0.out⟩
  case round =>
    obtain ⟨k, vs, rb, rfl, hk, hgk, hm, hx, hb⟩ := hrel
    obtain ⟨wo, rfl⟩ : ∃ wo : World, wo = wr := ⟨_, rfl⟩
    have HGK := Lib.hid hgk
    have HM := Lib.hid hm
    have HX := Lib.hid hx
    have HB := Lib.hid hb
    clear hgk hm hx hb HM0 HX0 HB0
    by_cases hkn : k < h.node.length
    · have c0 : wo.cell? ⟨bm, k, none⟩ = some (vs k) := HM.out.m.cell (ptrRow_get hkn)
      have g0 := HM.out.m.frozen k
      have lb := HM.out.m.lt
      have hmk := run_make_n (P := Tryd.prog) 57 37 (.int .u64 0) 1 8 Tryd.underlying57 Tryd.infoU64 .i64 .i64 h.node.length (by omega) (by omega)
      rw [rowCells_made] at hmk
      have hset := HM.out.m.set k (.slice (some ⟨wo.heap.size, 0, none⟩) h.node.length h.node.length)
      rw [ptrRow_set] at hset
      have hset := hset.alloc (.cells (rowCells h.node.length fun _ => 0).toArray 37)
      have ho2 : Only [bm] wo ((wo.setCell ⟨bm, k, none⟩ (.slice (some ⟨wo.heap.size, 0, none⟩) h.node.length h.node.length)).alloc (.cells (rowCells h.node.length fun _ => 0).toArray 37)) := ((Only.refl [bm] wo).setCell (p := ⟨bm, k, none⟩) (.inl (by simp)) _).alloc _
      have hzz := cells_at (w := wo.setCell ⟨bm, k, none⟩ (.slice (some ⟨wo.heap.size, 0, none⟩) h.node.length h.node.length)) (b := wo.heap.size) (by simp) 37 (rowCells h.node.length fun _ => 0)
      have hxx := (HX.out.other (a := ⟨bm, k, none⟩) (by simp; omega) (.slice (some ⟨wo.heap.size, 0, none⟩) h.node.length h.node.length)).alloc (.cells (rowCells h.node.length fun _ => 0).toArray 37)
      have hbs := HB.out.setCell (p := ⟨bm, k, none⟩) (by simp; omega) (.slice (some ⟨wo.heap.size, 0, none⟩) h.node.length h.node.length)
      have hbb := hbs.alloc hbs.size (.cells (rowCells h.node.length fun _ => 0).toArray 37)
      obtain ⟨wq, hwq⟩ : ∃ wq, (wo.setCell ⟨bm, k, none⟩ (.slice (some ⟨wo.heap.size, 0, none⟩) h.node.length h.node.length)).alloc (.cells (rowCells h.node.length fun _ => 0).toArray 37) = wq := ⟨_, rfl⟩
      rw [hwq] at hset ho2 hzz hxx hbb
      have HSET := Lib.hid hset
      have HO2 := Lib.hid ho2
      have HZ := Lib.hid hzz
      have HXX := Lib.hid hxx
      have HBB := Lib.hid hbb
      have HWQ := Lib.hid hwq
      clear hset ho2 hzz hxx hbb hwq hbs
      go_upto_region 7 with fail
      rw [HWQ.out]
      clear hmk c0 g0
      have c1 : wq.cell? ⟨bm, k, none⟩ = some (.slice (some ⟨wo.heap.size, 0, none⟩) h.node.length h.node.length) := HSET.out.cell (by rw [ptrRow_get hkn]; simp)
      go_wp2_with fail
      clear c1
      go_loopg [34] h.node.length (fun gg vj wr => ∃ j : Nat, vj = .int .i64 (j : Int) ∧ j ≤ h.node.length ∧ gg = h.node.length - j ∧ Cells wr bm 57 (ptrRow h.node.length fun x => if x = k then .slice (some ⟨wo.heap.size, 0, none⟩) h.node.length h.node.length else vs x) ∧ Cells wr wo.heap.size 37 (rowCells h.node.length fun x => if x < j ∧ x ≠ k then 18446744073709551615 else 0) ∧ Only [bm] wo wr ∧ Cells wr w.heap.size 25 (hierCells A h) ∧ Below w.heap.size w wr)
      case atStart => exact ⟨0, rfl, Nat.zero_le _, rfl, HSET.out, by rw [rowCells_congr (g := fun _ => 0) (fun x _ => by simp)]; exact HZ.out, HO2.out, HXX.out, HBB.out⟩
      case round =>
        obtain ⟨j, rfl, hj, hgj, hm, hz, ho, hx, hb⟩ := hrel
        obtain ⟨wp, rfl⟩ : ∃ wp : World, wp = wr := ⟨_, rfl⟩
        have HGJ := Lib.hid hgj
        have HM2 := Lib.hid hm
        have HZ2 := Lib.hid hz
        have HO3 := Lib.hid ho
        have HX2 := Lib.hid hx
        have HB2 := Lib.hid hb
        clear hgj hm hz ho hx hb HSET HO2 HZ HXX HBB
        by_cases hjn : j < h.node.length
        · have c1 : wp.cell? ⟨bm, k, none⟩ = some (.slice (some ⟨wo.heap.size, 0, none⟩) h.node.length h.node.length) := HM2.out.cell (by rw [ptrRow_get hkn]; simp)
          by_cases hjk : k = j
          · have t1 : ((k : Int) == (j : Int)) = true := by simp; omega
            have t2 : ((k : Int) != (j : Int)) = false := by simp; omega
            have HJK := Lib.hid hjk
            clear hjk
            go_wp2_with fail
            go_roundg (h.node.length - (j + 1))
            case measure => rw [HGJ.out]; omega
            case rel =>
              refine ⟨j + 1, by go_num, by omega, rfl, HM2.out, ?_, HO3.out, HX2.out, HB2.out⟩
              rw [rowCells_congr (g := fun x => if x < j ∧ x ≠ k then 18446744073709551615 else 0) (fun x _ => by have := HJK.out; by_cases e : x < j ∧ x ≠ k <;> by_cases e2 : x < j + 1 ∧ x ≠ k <;> simp only [e, e2, if_true, if_false] <;> omega)]
              exact HZ2.out
          · have t1 : ((k : Int) == (j : Int)) = false := by simp; omega
            have t2 : ((k : Int) != (j : Int)) = true := by simp; omega
            have HJK := Lib.hid hjk
            have y0 : wp.cell? ⟨wo.heap.size, j, none⟩ = some (.int .u64 (if j < j ∧ j ≠ k then 18446744073709551615 else 0)) := HZ2.out.cell (rowCells_get hjn)
            have g1 := HZ2.out.frozen j
            have lz := HZ2.out.lt
            clear hjk
            go_wp2_with fail
            go_roundg (h.node.length - (j + 1))
            case measure => rw [HGJ.out]; omega
            case rel =>
              have h1 := HZ2.out.set j (.int .u64 18446744073709551615)
              rw [rowCells_set] at h1
              refine ⟨j + 1, by go_num, by omega, rfl, HM2.out.other (a := ⟨wo.heap.size, j, none⟩) (by have := HM.out.m.lt; simp; omega) _, ?_, HO3.out.setCell (p := ⟨wo.heap.size, j, none⟩) (.inr (Nat.le_refl _)) _, HX2.out.other (a := ⟨wo.heap.size, j, none⟩) (by have := HX.out.lt; simp; omega) _, HB2.out.setCell (p := ⟨wo.heap.size, j, none⟩) (by have := HX.out.lt; simp; omega) _⟩
              rw [rowCells_congr (g := fun x => if x = j then 18446744073709551615 else if x < j ∧ x ≠ k then 18446744073709551615 else 0) (fun x _ => by have := HJK.out; by_cases e : x < j ∧ x ≠ k <;> by_cases e2 : x < j + 1 ∧ x ≠ k <;> by_cases e3 : x = j <;> simp only [e, e2, e3, if_true, if_false] <;> omega)]
              exact h1
        · obtain rfl : j = h.node.length := by omega
          go_wp2_with fail
          go_roundg (h.node.length - (k + 1))
          case measure => rw [HGK.out]; omega
          case rel =>
            refine ⟨k + 1, _, _, by go_num, by omega, rfl, HM.out.next (Nat.le_refl _) (by have := HX.out.lt; omega) HO3.out HM2.out HZ2.out (fun x hx => ?_), HX2.out, HB2.out⟩
            unfold D0
            by_cases e : k = x
            · rw [if_neg (by omega), if_pos e]; rfl
            · rw [if_pos (by omega), if_neg e]; rfl
    · obtain rfl : k = h.node.length := by omega
      have HALL := Lib.hid HM.out.all
      have hlo2 := HALL.out.lo
      have HLO := Lib.hid hlo2
      clear hlo2
      go_wp2_with fail
      refine HKK.out _ _ ?_
      change Code.wp _ (tailAt 4 rabBody) _ _ _
      exact rab_arcs SEE.out HC.out HR.out hlo hn HX.out HB.out ⟨HALL.out.rep, by have := HALL.out.bb; omega, fun v hv => by have := HLO.out v hv; omega, HALL.out.ne, HALL.out.inj⟩ (by omega) (fun v hv => by have := HLO.out v hv; omega)
set_option linter.unusedSimpArgs false in
set_option maxRecDepth 100000 in
set_option maxHeartbeats 8000000 in
/-- **The reference's Above.** -/
theorem rabove_any (A : HA) (h : HierD) (lo : Nat) (r : Int) (w : World) (see : HSee w A h) (hc : checkErr h = .nil) (hr : (lo : Int) = r + 1) (hlo : lo ≤ h.node.length) (hn : h.node.length ≤ 14) : Calls Tryd.prog 56 #[hierVal A h, .int .i64 r] w (RAboveNew h lo w) := by
  have SEE := Lib.hid see
  have HC := Lib.hid hc
  have HR := Lib.hid hr
  have HX0 := Lib.hid (Cells.new w 25 (hierCells A h))
  have HB0 := Lib.hid ((Below.refl w.heap.size w).alloc (Nat.le_refl _) (.cells (hierCells A h).toArray 25))
  obtain ⟨k0, k1, k2, k3, k4⟩ := hier_five HX0.out
  have hmk := run_make_n (P := Tryd.prog) 49 57 (.slice none 0 0) 1 24 Tryd.underlying49 Tryd.infoRow .i64 .i64 h.node.length (by omega) (by omega)
  rw [ptrRow_made] at hmk
  clear see hc hr
  unfold hierVal
  go_enter Tryd.func56, Tryd.ntmps56
  apply wp_seq_k
  intro K0 hK0
  have HK0 := Lib.hid hK0
  clear hK0
  go_wp2_with fail
  refine HK0.out _ _ ?_
  clear HK0
  apply wp_seq_k
  intro K1 hK1
  have HK1 := Lib.hid hK1
  clear hK1
  go_wp2_with fail
  refine HK1.out _ _ ?_
  clear HK1
  apply wp_seq_k
  intro K2 hK2
  have HK2 := Lib.hid hK2
  clear hK2
  go_wp2_with fail
  refine HK2.out _ _ ?_
  change Code.wp _ (tailAt 3 rabBody) _ _ _
  exact rab_rows SEE.out HC.out HR.out hlo hn (HX0.out.alloc _) (HB0.out.alloc HB0.out.size _) (cells_at (w := w.alloc (.cells (hierCells A h).toArray 25)) (b := w.heap.size + 1) (by simp) _ _) (by omega)
end Go.Proofs.YtjbphoophgbmiaaDoor

/- The reference's holds: is a hierarchy true at a rank? -/
namespace Go.Proofs.YtjbphoophgbmiaaDoor
open Go.ChangeShapes Go.WideShapes Go.ChangeAt Go.RowKit Go.Joins Go.Deep

noncomputable def rhBody : Code := Tryd.f55.body.getD .skip
theorem IsS.far {W : Nat → List (Nat × Nat)} {r : Int} {u v : Nat} {D : Nat → Option Int} (i : IsS W r u D) {s : Int} (hs : s < 18446744073709551615) : farOf (D v) ≤ s ↔ ∃ d, Wk W r u v d ∧ d ≤ s := by
  constructor
  · intro h
    cases hd : D v with
    | none => rw [hd] at h; simp only [farOf] at h; omega
    | some d => rw [hd] at h; exact ⟨d, i.walk v d hd, h⟩
  · rintro ⟨d, hw, hle⟩
    obtain ⟨e, he, hl⟩ := i.least v d hw
    rw [he]
    simp only [farOf]
    omega
theorem above_lit (A : HA) (h : HierD) (lo : Nat) (r : Int) (w : World) (see : HSee w A h) (hc : checkErr h = .nil) (hr : (lo : Int) = r + 1) (hlo : lo ≤ h.node.length) (hn : h.node.length ≤ 14) : Calls Tryd.prog 56 #[.agg #[.slice A.a0 h.node.length A.c0, .slice A.a1 h.upF.length A.c1, .slice A.a2 h.up.length A.c2, .slice A.a3 h.dnF.length A.c3, .slice A.a4 h.dn.length A.c4], .int .i64 r] w (RAboveNew h lo w) := rabove_any A h lo r w see hc hr hlo hn

set_option linter.unusedSimpArgs false in
set_option maxRecDepth 100000 in
set_option maxHeartbeats 8000000 in
theorem rh_loops {s0 s3 s4 s6 s7 s8 s9 s10 s11 s12 s13 s14 s15 s16 s17 s18 s19 s20 s21 s22 s23 s24 s25 s26 s27 s28 s29 s30 s31 s32 s33 s34 s35 s36 s37 s38 s39 s40 s41 s42 s43 s44 s45 s46 s47 s48 s49 s50 s51 s52 s53 s54 s55 s56 s57 s58 s59 s60 s61 s62 s63 s64 s65 s66 s67 s68 s69 s70 s71 s72 s73 s74 s75 s76 s77 s78 s79 s80 s81 s82 s83 s84 s85 s86 s87 s88 s89 s90 s91 s92 s93 s94 s95 s96 s97 s98 s99 s100 : Value} {A : HA} {h : HierD} {r bm : Nat} {rb : Nat → Nat} {w wx : World} (see : HSee w A h) (hc : checkErr h = .nil) (hn : h.node.length ≤ 14) (hrn : r < h.node.length) (hx : Cells wx w.heap.size 25 (hierCells A h)) (hb : Below w.heap.size w wx) (hm : MRep h.node.length (fun a b => farOf (aboveM h (r + 1) a b)) bm rb wx) : Code.wp Tryd.prog (tailAt 3 rhBody) (bodyPost Tryd.prog Tryd.f55 (HoldsPost h r w)) ⟨#[s0, .int .i64 (r : Nat), .pointer (some ⟨w.heap.size, 0, none⟩), s3, s4, .slice (some ⟨bm, 0, none⟩) h.node.length h.node.length, s6, s7, s8, s9, s10, s11, s12, s13, s14, s15, s16, s17, s18, s19, s20, s21, s22, s23, s24, s25, s26, s27, s28, s29, s30, s31, s32, s33, s34, s35, s36, s37, s38, s39, s40, s41, s42, s43, s44, s45, s46, s47, s48, s49, s50, s51, s52, s53, s54, s55, s56, s57, s58, s59, s60, s61, s62, s63, s64, s65, s66, s67, s68, s69, s70, s71, s72, s73, s74, s75, s76, s77, s78, s79, s80, s81, s82, s83, s84, s85, s86, s87, s88, s89, s90, s91, s92, s93, s94, s95, s96, s97, s98, s99, s100], []⟩ wx := by
  have hp := checkErr_parts hc
  have u := firsts_nil hp.1.u hp.2.1
  have d := firsts_nil hp.1.d hp.2.2.1
  have htot := hp.1.total see u d
  have UOK := Lib.hid u
  have DOK := Lib.hid d
  have OKU := Lib.hid (half_up hc)
  have OKD := Lib.hid (half_dn hc)
  have SEE := Lib.hid see
  have HC := Lib.hid hc
  have HX := Lib.hid hx
  have HB := Lib.hid hb
  clear hp u d see hc hx hb
  have HM := Lib.hid hm
  clear hm
  conv => arg 2; whnf
  apply wp_seq_k
  intro KK hK
  have HKK := Lib.hid hK
  clear hK
  have hflD := DOK.out.len
  obtain ⟨loD, hloD⟩ : ∃ lo, h.dnF[r]? = some lo := ⟨_, List.getElem?_eq_getElem (by omega)⟩
  obtain ⟨hiD, hhiD⟩ : ∃ hi, h.dnF[r + 1]? = some hi := ⟨_, List.getElem?_eq_getElem (by omega)⟩
  have gloD : h.dnF.getD r 0 = loD := by rw [List.getD_eq_getElem?_getD, hloD]; rfl
  have ghiD : h.dnF.getD (r + 1) 0 = hiD := by rw [List.getD_eq_getElem?_getD, hhiD]; rfl
  have hlhD : loD ≤ hiD := by rw [← gloD, ← ghiD]; exact DOK.out.mono r hrn
  have hhlD : hiD ≤ h.dn.length := by rw [← ghiD]; exact DOK.out.le (r + 1) (by omega)
  have hsegD : seg h.dnF h.dn r = (h.dn.take hiD).drop loD := by unfold seg; rw [gloD, ghiD]
  have suD := SEE.out.below HB.out
  have hhcD : hiD ≤ A.c4 := Nat.le_trans hhlD suD.dn.hcap
  have hh32D : hiD < 4294967296 := suD.bd hiD (List.mem_of_getElem? hhiD)
  obtain ⟨b1D, o1D, ea1D, lb1D, cc1D⟩ := see_one (f := fun (n : Nat) => Value.int .u32 n) suD.dnF (by omega)
  have clD := cc1D r loD hloD
  have chD := cc1D (r + 1) hiD hhiD
  obtain ⟨k0, k1, k2, k3, k4⟩ := hier_five HX.out
  rw [ea1D] at k3
  have hilD : r < h.dnF.length := by omega
  have hil1D : r + 1 < h.dnF.length := by omega
  have hslD := run_sub (P := Tryd.prog) 23 39 4 Tryd.underlying23 Tryd.sizeLink A.a4 h.dn.length A.c4 loD hiD .u32 .u32 hlhD hhcD
  have hLlenD : ((h.dn.take hiD).drop loD).length = hiD - loD := by simp; omega
  have hSUBD : ∀ X, Below w.heap.size w X → See X (slBase A.a4 loD A.c4 4) (A.c4 - loD) linkCells 4 ((h.dn.take hiD).drop loD) := fun X hX => (SEE.out.below hX).dn.sub loD hiD hhlD
  have hupD : ∀ y ∈ (h.dn.take hiD).drop loD, r < y.to ∧ y.to < h.node.length ∧ y.wt ≤ 140737488355328 := fun y hy => OKD.out.up r hrn y (by rw [hsegD]; exact hy)
  have LLD := Lib.hid hLlenD
  have HSUBD := Lib.hid hSUBD
  have HUPD := Lib.hid hupD
  have HSEGD := Lib.hid hsegD
  clear hflD hloD hhiD gloD ghiD hsegD suD cc1D ea1D hLlenD hSUBD hupD
  obtain ⟨LD, hLD⟩ : ∃ L, (h.dn.take hiD).drop loD = L := ⟨_, rfl⟩
  rw [hLD] at LLD HSUBD HUPD HSEGD
  clear hLD
  go_wp2_with fail
  go_quiet (fail)
  go_wp2_with fail
  have HX1 := Lib.hid (HX.out.drewN nq)
  have HB1 := Lib.hid (below_drewN HB.out nq)
  have HM1 := Lib.hid (HM.out.below (below_drewN (Below.refl _ _) nq))
  clear HX HB HM clD chD k0 k1 k2 k3 k4 hslD
  go_loopg [54] (hiD - loD) (fun g vj wr => ∃ j : Nat, vj = .int .i64 j ∧ j ≤ hiD - loD ∧ g = hiD - loD - j ∧ (∀ a ∈ LD.take j, ∀ b ∈ seg h.upF h.up r, okPair h r a b) ∧ MRep h.node.length (fun a b => farOf (aboveM h (r + 1) a b)) bm rb wr ∧ Cells wr w.heap.size 25 (hierCells A h) ∧ Below w.heap.size w wr)
  case atStart => exact ⟨0, rfl, Nat.zero_le _, rfl, by simp, HM1.out, HX1.out, HB1.out⟩
  case round =>
    obtain ⟨j, rfl, hj, hgj, hall, hm, hx, hb⟩ := hrel
    obtain ⟨wp, rfl⟩ : ∃ wp : World, wp = wr := ⟨_, rfl⟩
    have HGJ := Lib.hid hgj
    have HALL := Lib.hid hall
    have HM := Lib.hid hm
    have HX := Lib.hid hx
    have HB := Lib.hid hb
    clear hgj hall hm hx hb HM1 HX1 HB1
    by_cases hjl : j < hiD - loD
    · obtain ⟨a, ha⟩ : ∃ a, LD[j]? = some a := ⟨_, List.getElem?_eq_getElem (by rw [LLD.out]; exact hjl)⟩
      obtain ⟨ha1, ha2, ha3⟩ := HUPD.out a (List.mem_of_getElem? ha)
      obtain ⟨b2, o2, ea2, cc2⟩ := (HSUBD.out wp HB.out).cell j a ha
      have e0 := cc2 0 _ rfl
      have e1 := cc2 1 _ rfl
      have e2 := cc2 2 _ rfl
      have e3 := cc2 3 _ rfl
      rw [Nat.add_zero] at e0
      have EA := Lib.hid ea2
      have HAJ := Lib.hid ha
      have htk : LD.take (j + 1) = LD.take j ++ [a] := by rw [List.take_add_one, ha]; rfl
      have HTK := Lib.hid htk
      clear cc2 ea2 ha htk
      obtain ⟨wq, hwq⟩ : ∃ wq, wp.alloc (.cells (linkCells a).toArray 39) = wq := ⟨_, rfl⟩
      have hla := Cells.new wp 39 (linkCells a)
      have ho := (Below.refl wp.heap.size wp).alloc (Nat.le_refl _) (.cells (linkCells a).toArray 39)
      rw [hwq] at hla ho
      have hm2 := HM.out.below ho
      have hx2 := HX.out.below ho HX.out.lt
      have hb2 := HB.out.trans (ho.mono HB.out.size)
      have HLA := Lib.hid hla
      have HWQ := Lib.hid hwq
      clear HM HX HB ho
      have HM := Lib.hid hm2
      have HX := Lib.hid hx2
      have HB := Lib.hid hb2
      clear hla hwq hm2 hx2 hb2
      rw [EA.out]
      go_upto_region 7 with fail
      try rw [show wp.alloc (.cells #[.int .u32 a.to, .int .u64 a.wt, .int .u32 a.left, .int .u32 a.right] 39) = wq from HWQ.out]
      clear e0 e1 e2 e3
      have hflU := UOK.out.len
      obtain ⟨loU, hloU⟩ : ∃ lo, h.upF[r]? = some lo := ⟨_, List.getElem?_eq_getElem (by omega)⟩
      obtain ⟨hiU, hhiU⟩ : ∃ hi, h.upF[r + 1]? = some hi := ⟨_, List.getElem?_eq_getElem (by omega)⟩
      have gloU : h.upF.getD r 0 = loU := by rw [List.getD_eq_getElem?_getD, hloU]; rfl
      have ghiU : h.upF.getD (r + 1) 0 = hiU := by rw [List.getD_eq_getElem?_getD, hhiU]; rfl
      have hlhU : loU ≤ hiU := by rw [← gloU, ← ghiU]; exact UOK.out.mono r hrn
      have hhlU : hiU ≤ h.up.length := by rw [← ghiU]; exact UOK.out.le (r + 1) (by omega)
      have hsegU : seg h.upF h.up r = (h.up.take hiU).drop loU := by unfold seg; rw [gloU, ghiU]
      have suU := SEE.out.below HB.out
      have hhcU : hiU ≤ A.c2 := Nat.le_trans hhlU suU.up.hcap
      have hh32U : hiU < 4294967296 := suU.bu hiU (List.mem_of_getElem? hhiU)
      obtain ⟨b1U, o1U, ea1U, lb1U, cc1U⟩ := see_one (f := fun (n : Nat) => Value.int .u32 n) suU.upF (by omega)
      have clU := cc1U r loU hloU
      have chU := cc1U (r + 1) hiU hhiU
      obtain ⟨k0, k1, k2, k3, k4⟩ := hier_five HX.out
      rw [ea1U] at k1
      have hilU : r < h.upF.length := by omega
      have hil1U : r + 1 < h.upF.length := by omega
      have hslU := run_sub (P := Tryd.prog) 23 39 4 Tryd.underlying23 Tryd.sizeLink A.a2 h.up.length A.c2 loU hiU .u32 .u32 hlhU hhcU
      have hLlenU : ((h.up.take hiU).drop loU).length = hiU - loU := by simp; omega
      have hSUBU : ∀ X, Below w.heap.size w X → See X (slBase A.a2 loU A.c2 4) (A.c2 - loU) linkCells 4 ((h.up.take hiU).drop loU) := fun X hX => (SEE.out.below hX).up.sub loU hiU hhlU
      have hupU : ∀ y ∈ (h.up.take hiU).drop loU, r < y.to ∧ y.to < h.node.length ∧ y.wt ≤ 140737488355328 := fun y hy => OKU.out.up r hrn y (by rw [hsegU]; exact hy)
      have LLU := Lib.hid hLlenU
      have HSUBU := Lib.hid hSUBU
      have HUPU := Lib.hid hupU
      have HSEGU := Lib.hid hsegU
      clear hflU hloU hhiU gloU ghiU hsegU suU cc1U ea1U hLlenU hSUBU hupU
      obtain ⟨LU, hLU⟩ : ∃ L, (h.up.take hiU).drop loU = L := ⟨_, rfl⟩
      rw [hLU] at LLU HSUBU HUPU HSEGU
      clear hLU
      go_quiet (fail)
      have HLA2 := Lib.hid (HLA.out.drewN nq)
      have HM2 := Lib.hid (HM.out.below (below_drewN (Below.refl _ _) nq))
      have HX2 := Lib.hid (HX.out.drewN nq)
      have HB2 := Lib.hid (below_drewN HB.out nq)
      obtain ⟨wy, hwy⟩ : ∃ wy, wq.drewN nq = wy := ⟨_, rfl⟩
      rw [hwy] at HLA2 HM2 HX2 HB2 ⊢
      clear HLA HM HX HB hwy clU chU k0 k1 k2 k3 k4 hslU HWQ
      go_wp2_with fail
      go_loopg [73] (hiU - loU) (fun g vi wr => ∃ i : Nat, vi = .int .i64 i ∧ i ≤ hiU - loU ∧ g = hiU - loU - i ∧ (∀ b ∈ LU.take i, okPair h r a b) ∧ Cells wr wp.heap.size 39 (linkCells a) ∧ MRep h.node.length (fun a b => farOf (aboveM h (r + 1) a b)) bm rb wr ∧ Cells wr w.heap.size 25 (hierCells A h) ∧ Below w.heap.size w wr)
      case atStart => exact ⟨0, rfl, Nat.zero_le _, rfl, by simp, HLA2.out, HM2.out, HX2.out, HB2.out⟩
      case round =>
        obtain ⟨i, rfl, hi, hgi, halli, ha4, hm4, hx4, hb4⟩ := hrel
        obtain ⟨wu, rfl⟩ : ∃ wu : World, wu = wr := ⟨_, rfl⟩
        have HGI := Lib.hid hgi
        have HALLI := Lib.hid halli
        have HLA := Lib.hid ha4
        have HM := Lib.hid hm4
        have HX := Lib.hid hx4
        have HB := Lib.hid hb4
        clear hgi halli ha4 hm4 hx4 hb4 HLA2 HM2 HX2 HB2
        by_cases hil2 : i < hiU - loU
        · obtain ⟨b, hb⟩ : ∃ b, LU[i]? = some b := ⟨_, List.getElem?_eq_getElem (by rw [LLU.out]; exact hil2)⟩
          have hbm := List.mem_of_getElem? hb
          obtain ⟨hb1', hb2', hb3'⟩ := HUPU.out b hbm
          obtain ⟨b3, o3, ea3, cc3⟩ := (HSUBU.out wu HB.out).cell i b hb
          have e0 := cc3 0 _ rfl
          have e1 := cc3 1 _ rfl
          have e2 := cc3 2 _ rfl
          have e3 := cc3 3 _ rfl
          rw [Nat.add_zero] at e0
          have EB := Lib.hid ea3
          have HBM := Lib.hid hbm
          have htk : LU.take (i + 1) = LU.take i ++ [b] := by rw [List.take_add_one, hb]; rfl
          have HTKU := Lib.hid htk
          clear cc3 ea3 hb hbm htk
          obtain ⟨wq2, hwq⟩ : ∃ wq, wu.alloc (.cells (linkCells b).toArray 39) = wq := ⟨_, rfl⟩
          have hlb := Cells.new wu 39 (linkCells b)
          have ho := (Below.refl wu.heap.size wu).alloc (Nat.le_refl _) (.cells (linkCells b).toArray 39)
          rw [hwq] at hlb ho
          have ha5 := HLA.out.below ho HLA.out.lt
          have hm5 := HM.out.below ho
          have hx5 := HX.out.below ho HX.out.lt
          have hb5 := HB.out.trans (ho.mono HB.out.size)
          have v0 : wq2.cell? ⟨wu.heap.size, 0, none⟩ = some (.int .u32 (b.to : Nat)) := hlb.cell rfl
          have v1 : wq2.cell? ⟨wu.heap.size, 1, none⟩ = some (.int .u64 (b.wt : Nat)) := hlb.cell rfl
          have u0 : wq2.cell? ⟨wp.heap.size, 0, none⟩ = some (.int .u32 (a.to : Nat)) := ha5.cell rfl
          have u1 : wq2.cell? ⟨wp.heap.size, 1, none⟩ = some (.int .u64 (a.wt : Nat)) := ha5.cell rfl
          have m0 : wq2.cell? ⟨bm, a.to, none⟩ = some (.slice (some ⟨rb a.to, 0, none⟩) h.node.length h.node.length) := hm5.m.cell (ptrRow_get ha2)
          have m1 : wq2.cell? ⟨rb a.to, b.to, none⟩ = some (.int .u64 (farOf (aboveM h (r + 1) a.to b.to))) := (hm5.r a.to ha2).cell (rowCells_get hb2')
          have usum : IntKind.u64.wrap ((a.wt : Int) + (b.wt : Int)) = (a.wt : Int) + (b.wt : Int) := IntWalk.u64_in _ (by omega)
          have HWQ := Lib.hid hwq
          have HA5 := Lib.hid ha5
          have HM5 := Lib.hid hm5
          have HX5 := Lib.hid hx5
          have HB5 := Lib.hid hb5
          clear hwq hlb ho ha5 hm5 hx5 hb5 HLA HM HX HB
          rw [EB.out]
          go_upto_region 10 with fail
          try rw [show wu.alloc (.cells #[.int .u32 b.to, .int .u64 b.wt, .int .u32 b.left, .int .u32 b.right] 39) = wq2 from HWQ.out]
          clear e0 e1 e2 e3
          have fin : ∀ wn, Below wq2.heap.size wq2 wn → okPair h r a b → (∀ c ∈ LU.take (i + 1), okPair h r a c) ∧ Cells wn wp.heap.size 39 (linkCells a) ∧ MRep h.node.length (fun a b => farOf (aboveM h (r + 1) a b)) bm rb wn ∧ Cells wn w.heap.size 25 (hierCells A h) ∧ Below w.heap.size w wn := fun wn hbn hok =>
            ⟨fun c hc => by
              rw [HTKU.out, List.mem_append, List.mem_singleton] at hc
              rcases hc with hc | rfl
              · exact HALLI.out c hc
              · exact hok, HA5.out.below hbn HA5.out.lt, HM5.out.below hbn, HX5.out.below hbn HX5.out.lt, HB5.out.trans (hbn.mono HB5.out.size)⟩
          have FIN := Lib.hid fin
          clear fin
          by_cases heq : a.to = b.to
          · have t1 : ((a.to : Int) == (b.to : Int)) = true := by simp; omega
            have t2 : ((a.to : Int) != (b.to : Int)) = false := by simp; omega
            have hok := Lib.hid (show okPair h r a b from fun hne => absurd heq hne)
            clear heq
            go_quiet (fail)
            go_wp2_with fail
            rw [← EB.out]
            go_roundg (hiU - loU - (i + 1))
            case measure => rw [HGI.out]; omega
            case rel => exact ⟨i + 1, by go_num, by omega, rfl, FIN.out _ (below_drewN (Below.refl _ _) _) hok.out⟩
          · have t1 : ((a.to : Int) == (b.to : Int)) = false := by simp; omega
            have t2 : ((a.to : Int) != (b.to : Int)) = true := by simp; omega
            have hS := aboveM_isS HC.out (lo := r + 1) (u := a.to) (r := (r : Int)) (by omega) (by omega) ha2
            have hiff := hS.far (v := b.to) (s := (a.wt : Int) + (b.wt : Int)) (by omega)
            have HIFF := Lib.hid hiff
            have HNE := Lib.hid heq
            clear heq hS hiff
            obtain ⟨c, hcc⟩ : ∃ c, farOf (aboveM h (r + 1) a.to b.to) = c := ⟨_, rfl⟩
            rw [hcc] at m1 HIFF
            clear hcc
            by_cases hle : c ≤ (a.wt : Int) + (b.wt : Int)
            · have t3 : decide ((a.wt : Int) + (b.wt : Int) < c) = false := by simp only [decide_eq_false_iff_not]; omega
              have hok := Lib.hid (show okPair h r a b from fun _ => HIFF.out.1 hle)
              clear hle
              go_quiet (fail)
              go_wp2_with fail
              rw [← EB.out]
              go_roundg (hiU - loU - (i + 1))
              case measure => rw [HGI.out]; omega
              case rel => exact ⟨i + 1, by go_num, by omega, rfl, FIN.out _ (below_drewN (Below.refl _ _) _) hok.out⟩
            · have t3 : decide ((a.wt : Int) + (b.wt : Int) < c) = true := by simp only [decide_eq_true_eq]; omega
              have hno := Lib.hid (show ¬ HoldsD h r from fun hh => hle (HIFF.out.2 (hh a (by rw [HSEGD.out]; exact List.mem_of_getElem? HAJ.out) b (by rw [HSEGU.out]; exact HBM.out) HNE.out)))
              clear hle
              go_quiet (fail)
              go_wp2
              go_returns
              exact ⟨false, rfl, ⟨fun e => (by cases e), fun hh => absurd hh hno.out⟩, below_drewN HB5.out _⟩
        · obtain rfl : i = hiU - loU := by omega
          go_wp2_with fail
          rw [← EA.out]
          go_roundg (hiD - loD - (j + 1))
          case measure => rw [HGJ.out]; omega
          case rel =>
            refine ⟨j + 1, by go_num, by omega, rfl, fun c hc b hb => ?_, HM.out, HX.out, HB.out⟩
            rw [HTK.out, List.mem_append, List.mem_singleton] at hc
            rcases hc with hc | rfl
            · exact HALL.out c hc b hb
            · exact HALLI.out b (by rw [List.take_of_length_le (by rw [LLU.out]; exact Nat.le_refl _), ← HSEGU.out]; exact hb)
    · obtain rfl : j = hiD - loD := by omega
      have hfull := HALL.out
      rw [List.take_of_length_le (by rw [LLD.out]; exact Nat.le_refl _), ← HSEGD.out] at hfull
      have HF := Lib.hid hfull
      clear hfull
      go_wp2_with fail
      refine HKK.out _ _ ?_
      conv => arg 2; whnf
      go_wp2
      go_returns
      exact ⟨true, rfl, ⟨fun _ => HF.out, fun _ => rfl⟩, HB.out⟩

set_option linter.unusedSimpArgs false in
set_option maxRecDepth 100000 in
set_option maxHeartbeats 8000000 in
theorem rh_above {s0 s3 s4 s5 s6 s7 s8 s9 s10 s11 s12 s13 s14 s15 s16 s17 s18 s19 s20 s21 s22 s23 s24 s25 s26 s27 s28 s29 s30 s31 s32 s33 s34 s35 s36 s37 s38 s39 s40 s41 s42 s43 s44 s45 s46 s47 s48 s49 s50 s51 s52 s53 s54 s55 s56 s57 s58 s59 s60 s61 s62 s63 s64 s65 s66 s67 s68 s69 s70 s71 s72 s73 s74 s75 s76 s77 s78 s79 s80 s81 s82 s83 s84 s85 s86 s87 s88 s89 s90 s91 s92 s93 s94 s95 s96 s97 s98 s99 s100 : Value} {A : HA} {h : HierD} {r : Nat} {w wx : World} (see : HSee w A h) (hc : checkErr h = .nil) (hn : h.node.length ≤ 14) (hrn : r < h.node.length) (hx : Cells wx w.heap.size 25 (hierCells A h)) (hb : Below w.heap.size w wx) : Code.wp Tryd.prog (tailAt 2 rhBody) (bodyPost Tryd.prog Tryd.f55 (HoldsPost h r w)) ⟨#[s0, .int .i64 (r : Nat), .pointer (some ⟨w.heap.size, 0, none⟩), s3, s4, s5, s6, s7, s8, s9, s10, s11, s12, s13, s14, s15, s16, s17, s18, s19, s20, s21, s22, s23, s24, s25, s26, s27, s28, s29, s30, s31, s32, s33, s34, s35, s36, s37, s38, s39, s40, s41, s42, s43, s44, s45, s46, s47, s48, s49, s50, s51, s52, s53, s54, s55, s56, s57, s58, s59, s60, s61, s62, s63, s64, s65, s66, s67, s68, s69, s70, s71, s72, s73, s74, s75, s76, s77, s78, s79, s80, s81, s82, s83, s84, s85, s86, s87, s88, s89, s90, s91, s92, s93, s94, s95, s96, s97, s98, s99, s100], []⟩ wx := by
  have SEE := Lib.hid see
  have HC := Lib.hid hc
  have HX := Lib.hid hx
  have HB := Lib.hid hb
  obtain ⟨k0, k1, k2, k3, k4⟩ := hier_five hx
  clear see hc hx hb
  conv => arg 2; whnf
  apply wp_seq_k
  intro KK hK
  have HKK := Lib.hid hK
  clear hK
  go_wp2_with fail
  refine (above_lit A h (r + 1) (r : Int) _ (SEE.out.below HB.out) HC.out (by omega) (by omega) hn).mono ?_
  rintro e w1 ⟨bm, rb, rfl, hm, -, hb1⟩
  have HM := Lib.hid hm
  have HX1 := Lib.hid (HX.out.below hb1 HX.out.lt)
  have HB1 := Lib.hid (HB.out.trans (hb1.mono HB.out.size))
  clear hm hb1 HX HB k0 k1 k2 k3 k4
  go_wp2_with fail
  refine HKK.out _ _ ?_
  change Code.wp _ (tailAt 3 rhBody) _ _ _
  exact rh_loops SEE.out HC.out hn hrn HX1.out HB1.out HM.out
set_option linter.unusedSimpArgs false in
set_option maxRecDepth 100000 in
set_option maxHeartbeats 8000000 in
theorem rh_empty {s0 s3 s4 s5 s6 s7 s8 s9 s10 s11 s12 s13 s14 s15 s16 s17 s18 s19 s20 s21 s22 s23 s24 s25 s26 s27 s28 s29 s30 s31 s32 s33 s34 s35 s36 s37 s38 s39 s40 s41 s42 s43 s44 s45 s46 s47 s48 s49 s50 s51 s52 s53 s54 s55 s56 s57 s58 s59 s60 s61 s62 s63 s64 s65 s66 s67 s68 s69 s70 s71 s72 s73 s74 s75 s76 s77 s78 s79 s80 s81 s82 s83 s84 s85 s86 s87 s88 s89 s90 s91 s92 s93 s94 s95 s96 s97 s98 s99 s100 : Value} {A : HA} {h : HierD} {r : Nat} {w wx : World} (see : HSee w A h) (hc : checkErr h = .nil) (hn : h.node.length ≤ 14) (hrn : r < h.node.length) (hx : Cells wx w.heap.size 25 (hierCells A h)) (hb : Below w.heap.size w wx) : Code.wp Tryd.prog (tailAt 1 rhBody) (bodyPost Tryd.prog Tryd.f55 (HoldsPost h r w)) ⟨#[s0, .int .i64 (r : Nat), .pointer (some ⟨w.heap.size, 0, none⟩), s3, s4, s5, s6, s7, s8, s9, s10, s11, s12, s13, s14, s15, s16, s17, s18, s19, s20, s21, s22, s23, s24, s25, s26, s27, s28, s29, s30, s31, s32, s33, s34, s35, s36, s37, s38, s39, s40, s41, s42, s43, s44, s45, s46, s47, s48, s49, s50, s51, s52, s53, s54, s55, s56, s57, s58, s59, s60, s61, s62, s63, s64, s65, s66, s67, s68, s69, s70, s71, s72, s73, s74, s75, s76, s77, s78, s79, s80, s81, s82, s83, s84, s85, s86, s87, s88, s89, s90, s91, s92, s93, s94, s95, s96, s97, s98, s99, s100], []⟩ wx := by
  have hp := checkErr_parts hc
  have u := firsts_nil hp.1.u hp.2.1
  have d := firsts_nil hp.1.d hp.2.2.1
  have htot := hp.1.total see u d
  have UOK := Lib.hid u
  have DOK := Lib.hid d
  have OKU := Lib.hid (half_up hc)
  have OKD := Lib.hid (half_dn hc)
  have SEE := Lib.hid see
  have HC := Lib.hid hc
  have HX := Lib.hid hx
  have HB := Lib.hid hb
  clear hp u d see hc hx hb
  conv => arg 2; whnf
  apply wp_seq_k
  intro KK hK
  have HKK := Lib.hid hK
  clear hK
  have hflD := DOK.out.len
  obtain ⟨loD, hloD⟩ : ∃ lo, h.dnF[r]? = some lo := ⟨_, List.getElem?_eq_getElem (by omega)⟩
  obtain ⟨hiD, hhiD⟩ : ∃ hi, h.dnF[r + 1]? = some hi := ⟨_, List.getElem?_eq_getElem (by omega)⟩
  have gloD : h.dnF.getD r 0 = loD := by rw [List.getD_eq_getElem?_getD, hloD]; rfl
  have ghiD : h.dnF.getD (r + 1) 0 = hiD := by rw [List.getD_eq_getElem?_getD, hhiD]; rfl
  have hlhD : loD ≤ hiD := by rw [← gloD, ← ghiD]; exact DOK.out.mono r hrn
  have hhlD : hiD ≤ h.dn.length := by rw [← ghiD]; exact DOK.out.le (r + 1) (by omega)
  have hsegD : seg h.dnF h.dn r = (h.dn.take hiD).drop loD := by unfold seg; rw [gloD, ghiD]
  have suD := SEE.out.below HB.out
  have hhcD : hiD ≤ A.c4 := Nat.le_trans hhlD suD.dn.hcap
  have hh32D : hiD < 4294967296 := suD.bd hiD (List.mem_of_getElem? hhiD)
  obtain ⟨b1D, o1D, ea1D, lb1D, cc1D⟩ := see_one (f := fun (n : Nat) => Value.int .u32 n) suD.dnF (by omega)
  have clD := cc1D r loD hloD
  have chD := cc1D (r + 1) hiD hhiD
  obtain ⟨k0, k1, k2, k3, k4⟩ := hier_five HX.out
  rw [ea1D] at k3
  have hilD : r < h.dnF.length := by omega
  have hil1D : r + 1 < h.dnF.length := by omega
  have hslD := run_sub (P := Tryd.prog) 23 39 4 Tryd.underlying23 Tryd.sizeLink A.a4 h.dn.length A.c4 loD hiD .u32 .u32 hlhD hhcD
  have hLlenD : ((h.dn.take hiD).drop loD).length = hiD - loD := by simp; omega
  have hSUBD : ∀ X, Below w.heap.size w X → See X (slBase A.a4 loD A.c4 4) (A.c4 - loD) linkCells 4 ((h.dn.take hiD).drop loD) := fun X hX => (SEE.out.below hX).dn.sub loD hiD hhlD
  have hupD : ∀ y ∈ (h.dn.take hiD).drop loD, r < y.to ∧ y.to < h.node.length ∧ y.wt ≤ 140737488355328 := fun y hy => OKD.out.up r hrn y (by rw [hsegD]; exact hy)
  have LLD := Lib.hid hLlenD
  have HSUBD := Lib.hid hSUBD
  have HUPD := Lib.hid hupD
  have HSEGD := Lib.hid hsegD
  clear hflD hloD hhiD gloD ghiD hsegD suD cc1D ea1D hLlenD hSUBD hupD
  obtain ⟨LD, hLD⟩ : ∃ L, (h.dn.take hiD).drop loD = L := ⟨_, rfl⟩
  rw [hLD] at LLD HSUBD HUPD HSEGD
  clear hLD
  have hflU := UOK.out.len
  obtain ⟨loU, hloU⟩ : ∃ lo, h.upF[r]? = some lo := ⟨_, List.getElem?_eq_getElem (by omega)⟩
  obtain ⟨hiU, hhiU⟩ : ∃ hi, h.upF[r + 1]? = some hi := ⟨_, List.getElem?_eq_getElem (by omega)⟩
  have gloU : h.upF.getD r 0 = loU := by rw [List.getD_eq_getElem?_getD, hloU]; rfl
  have ghiU : h.upF.getD (r + 1) 0 = hiU := by rw [List.getD_eq_getElem?_getD, hhiU]; rfl
  have hlhU : loU ≤ hiU := by rw [← gloU, ← ghiU]; exact UOK.out.mono r hrn
  have hhlU : hiU ≤ h.up.length := by rw [← ghiU]; exact UOK.out.le (r + 1) (by omega)
  have hsegU : seg h.upF h.up r = (h.up.take hiU).drop loU := by unfold seg; rw [gloU, ghiU]
  have suU := SEE.out.below HB.out
  have hhcU : hiU ≤ A.c2 := Nat.le_trans hhlU suU.up.hcap
  have hh32U : hiU < 4294967296 := suU.bu hiU (List.mem_of_getElem? hhiU)
  obtain ⟨b1U, o1U, ea1U, lb1U, cc1U⟩ := see_one (f := fun (n : Nat) => Value.int .u32 n) suU.upF (by omega)
  have clU := cc1U r loU hloU
  have chU := cc1U (r + 1) hiU hhiU
  skip
  rw [ea1U] at k1
  have hilU : r < h.upF.length := by omega
  have hil1U : r + 1 < h.upF.length := by omega
  have hslU := run_sub (P := Tryd.prog) 23 39 4 Tryd.underlying23 Tryd.sizeLink A.a2 h.up.length A.c2 loU hiU .u32 .u32 hlhU hhcU
  have hLlenU : ((h.up.take hiU).drop loU).length = hiU - loU := by simp; omega
  have hSUBU : ∀ X, Below w.heap.size w X → See X (slBase A.a2 loU A.c2 4) (A.c2 - loU) linkCells 4 ((h.up.take hiU).drop loU) := fun X hX => (SEE.out.below hX).up.sub loU hiU hhlU
  have hupU : ∀ y ∈ (h.up.take hiU).drop loU, r < y.to ∧ y.to < h.node.length ∧ y.wt ≤ 140737488355328 := fun y hy => OKU.out.up r hrn y (by rw [hsegU]; exact hy)
  have LLU := Lib.hid hLlenU
  have HSUBU := Lib.hid hSUBU
  have HUPU := Lib.hid hupU
  have HSEGU := Lib.hid hsegU
  clear hflU hloU hhiU gloU ghiU hsegU suU cc1U ea1U hLlenU hSUBU hupU
  obtain ⟨LU, hLU⟩ : ∃ L, (h.up.take hiU).drop loU = L := ⟨_, rfl⟩
  rw [hLU] at LLU HSUBU HUPU HSEGU
  clear hLU
  clear hslD hslU
  by_cases hd0 : loD = hiD
  · have d1 : ((loD : Int) == (hiD : Int)) = true := by simp; omega
    have hnil : LD = [] := List.eq_nil_of_length_eq_zero (by rw [LLD.out]; omega)
    have hall := Lib.hid (show HoldsD h r from fun a ha => by rw [HSEGD.out, hnil] at ha; simp at ha)
    clear hd0 hnil
    go_wp2_with fail
    go_quiet (fail)
    go_wp2
    go_returns
    exact ⟨true, rfl, ⟨fun _ => hall.out, fun _ => rfl⟩, below_drewN HB.out _⟩
  · have d1 : ((loD : Int) == (hiD : Int)) = false := by simp; omega
    clear hd0
    by_cases hu0 : loU = hiU
    · have d2 : ((loU : Int) == (hiU : Int)) = true := by simp; omega
      have hnil : LU = [] := List.eq_nil_of_length_eq_zero (by rw [LLU.out]; omega)
      have hall := Lib.hid (show HoldsD h r from fun a _ b hb => by rw [HSEGU.out, hnil] at hb; simp at hb)
      clear hu0 hnil
      go_wp2_with fail
      go_quiet (fail)
      go_wp2
      go_returns
      exact ⟨true, rfl, ⟨fun _ => hall.out, fun _ => rfl⟩, below_drewN HB.out _⟩
    · have d2 : ((loU : Int) == (hiU : Int)) = false := by simp; omega
      clear hu0
      go_wp2_with fail
      go_quiet (fail)
      go_wp2_with fail
      refine HKK.out _ _ ?_
      change Code.wp _ (tailAt 2 rhBody) _ _ _
      exact rh_above SEE.out HC.out hn hrn (HX.out.drewN _) (below_drewN HB.out _)
set_option linter.unusedSimpArgs false in
set_option maxRecDepth 100000 in
set_option maxHeartbeats 8000000 in
/-- **The reference's holds.** -/
theorem rholds_any (A : HA) (h : HierD) (r : Nat) (w : World) (see : HSee w A h) (hc : checkErr h = .nil) (hn : h.node.length ≤ 14) (hrn : r < h.node.length) : Calls Tryd.prog 55 #[hierVal A h, .int .i64 (r : Nat)] w (HoldsPost h r w) := by
  have SEE := Lib.hid see
  have HC := Lib.hid hc
  clear see hc
  unfold hierVal
  go_enter Tryd.func55, Tryd.ntmps55
  apply wp_seq_k
  intro K0 hK
  have HK0 := Lib.hid hK
  clear hK
  go_wp2_with fail
  refine HK0.out _ _ ?_
  change Code.wp _ (tailAt 1 rhBody) _ _ _
  exact rh_empty SEE.out HC.out hn hrn (Cells.new w 25 (hierCells A h)) ((Below.refl w.heap.size w).alloc (Nat.le_refl _) _)
end Go.Proofs.YtjbphoophgbmiaaDoor
