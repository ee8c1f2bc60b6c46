/- TwinInts; layer 23's few and awake. -/
import Derived.Test.YtjbphoophgbmiaaRefF
import Derived.Test.YtjbphoophgbmiaaTabN
import Derived.Test.YtjbphoophgbmiaaMSee
namespace Go.Proofs.Ytjbphoophgbmiaa
open Go.ChangeShapes Go.WideShapes Go.ChangeAt Go.RowKit Go.Joins Go.Deep

def IntsTw (l : List Int) (w : World) (e : Ending) (w' : World) : Prop := ∃ ao cap, e = .returned (.slice ao l.length cap) ∧ See w' ao cap memInt 1 l ∧ (∀ b o, ao = some ⟨b, o, none⟩ → w.heap.size ≤ b) ∧ Below w.heap.size w w'
set_option maxRecDepth 100000 in
theorem twinints_any (l : List Int) (ao : Option Addr) (cap : Nat) (w : World) (see : See w ao cap memInt 1 l) (hl : l.length * 8 ≤ 140737488355328) :
    Calls Try.prog 20 #[.slice ao l.length cap] w (IntsTw l w) := by
  have SEE := Lib.hid see
  clear see
  go_enter Try.func20, Try.ntmps20
  go_wp2_with fail
  go_loopg [3, 8] l.length (fun g vm vi wr => ∃ (k : Nat) (ao2 : Option Addr) (cap2 : Nat), vi = .int .i64 k ∧ k ≤ l.length ∧ g = l.length - k ∧ vm = .slice ao2 k cap2 ∧
    wr.ownsRow 0 3 1 (.slice ao2 k cap2) k ((l.take k).flatMap memInt) ∧ (∀ b, (Value.slice ao2 k cap2).ownBlock = some b → w.heap.size ≤ b) ∧ Below w.heap.size w wr)
  case atStart => exact ⟨0, none, 0, rfl, Nat.zero_le _, rfl, rfl, World.ownsRow_nil _ _ _ _, by simp [Value.ownBlock], Below.refl _ _⟩
  case round =>
    obtain ⟨k, ao2, cap2, rfl, hk, hg, rfl, hown, hnew, hbl⟩ := hrel
    have HG := Lib.hid hg
    have HOWN := Lib.hid hown
    have HNEW := Lib.hid hnew
    have HBL := Lib.hid hbl
    have hz := hbl.size
    clear hg hown hnew hbl
    by_cases hkl : k < l.length
    · obtain ⟨x, hx⟩ : ∃ x, l[k]? = some x := ⟨_, List.getElem?_eq_getElem hkl⟩
      obtain ⟨b, o, ea, cc⟩ := (SEE.out.below HBL.out).cell k x hx
      have e0 := cc 0 _ rfl
      rw [Nat.mul_one, Nat.add_zero] at e0
      have lb := block_lt e0
      have EA := Lib.hid ea
      have HX := Lib.hid hx
      clear ea cc hx
      rw [EA.out]
      go_wp2_with (at_builtin; refine wpList_app _ rfl _ _ 40 rfl 3 (.int .i64 0) 1 8 Try.underlying40 Try.infoInt rfl (by decide) (.slice ao2 k cap2) k ((l.take k).flatMap memInt) rfl ?own ⟨wr.heap.size, 0, none⟩ 1 1 (memInt x) rfl rfl ?c1 ?c2 ?c3 ?c4 ?_)
      case own => exact own_kept (bs := []) HOWN.out ((Only.refl _ wr).alloc _) (fun q _ => by simp)
      case c1 => exact cells_new wr 3 (memInt x)
      case c2 => intro u hu; simp [memInt] at hu; subst hu; rfl
      case c3 => unfold maxLen; omega
      case c4 => omega
      intro ao5 cap5 w5 hown5 ho5 hk5
      have hbw := HBL.out.alloc hz (.cells #[.int .i64 x] 3)
      have hnew5 : ∀ x, (Value.slice ao5 (k + 1) cap5).ownBlock = some x → w.heap.size ≤ x := by
        intro x hx
        rcases hk5 x hx with h1 | h1
        · exact HNEW.out x h1
        · have := hbw.size; omega
      have hbl5 : Below w.heap.size w w5 := hbw.trans (ho5.below hbw.size (fun q hq => HNEW.out q (by simpa using hq)))
      have hf5 : (l.take k).flatMap memInt ++ memInt x = (l.take (k + 1)).flatMap memInt := by
        rw [List.take_add_one, HX.out, List.flatMap_append]
        simp
      rw [hf5] at hown5
      have O5 := Lib.hid hown5
      have N5 := Lib.hid hnew5
      have B5 := Lib.hid hbl5
      clear hown5 ho5 hk5 hnew5 hbl5 hf5 hbw
      go_wp2_with fail
      rw [← EA.out]
      go_roundg (l.length - (k + 1))
      case measure => rw [HG.out]; omega
      case rel => exact ⟨k + 1, ao5, cap5, by go_num, by omega, rfl, rfl, O5.out, N5.out, B5.out⟩
    · obtain rfl : k = l.length := by omega
      go_wp2
      go_returns
      have hO := HOWN.out
      rw [List.take_length] at hO
      refine ⟨ao2, cap2, rfl, (See.of_own memInt_len hO (by omega)).1, fun b o e => ?_, HBL.out⟩
      subst e
      rcases hO.2 with ⟨h1, -⟩ | ⟨g, c, cur, h1, -⟩
      · cases h1
      · simp only [Value.slice.injEq, Option.some.injEq, Addr.mk.injEq] at h1
        obtain ⟨⟨rfl, rfl, -⟩, -, -⟩ := h1
        exact HNEW.out _ rfl
def FewTab (h : HierD) (nr nc : Nat) (w : World) (e : Ending) (w' : World) : Prop := ∃ b : Bool, e = .returned (.bool b) ∧ (b = true → h.node.length ≤ 14 ∧ nr ≤ 300 ∧ nc ≤ 300) ∧ Below w.heap.size w w'
set_option linter.unusedSimpArgs false in
set_option maxRecDepth 100000 in
set_option maxHeartbeats 8000000 in
theorem few23_any (A : HA) (h : HierD) (ra ca : Option Addr) (nr nc rc cc : Nat) (w : World) : Calls Try.prog 13 #[hierVal A h, .slice ra nr rc, .slice ca nc cc] w (FewTab h nr nc w) := by
  have HX := Lib.hid (Cells.new w 25 (hierCells A h))
  have HB := Lib.hid ((Below.refl w.heap.size w).alloc (Nat.le_refl _) (.cells (hierCells A h).toArray 25))
  obtain ⟨k0, k1, k2, k3, k4⟩ := hier_five HX.out
  unfold hierVal
  by_cases hf : h.node.length ≤ 14
  · have d2 : decide ((h.node.length : Int) ≤ 14) = true := by simp; omega
    have HFL := Lib.hid hf
    clear hf
    by_cases hr : nr ≤ 300
    · have d3 : decide ((nr : Int) ≤ 300) = true := by simp; omega
      have HFR := Lib.hid hr
      clear hr
      by_cases hc : nc ≤ 300
      · have d4 : decide ((nc : Int) ≤ 300) = true := by simp; omega
        have HFC := Lib.hid hc
        clear hc
        go_enter Try.func13, Try.ntmps13
        go_wp2_with fail
        refine (count_any A h _).mono ?_
        rintro e w1 ⟨c, rfl, -, hb⟩
        have HB1 := Lib.hid (HB.out.trans (hb.mono HB.out.size))
        clear hb k0 k1 k2 k3 k4
        cases hcc : decide (c ≤ 400)
        all_goals (go_wp2; go_returns; exact ⟨_, rfl, fun _ => ⟨HFL.out, HFR.out, HFC.out⟩, HB1.out⟩)
      · have d4 : decide ((nc : Int) ≤ 300) = false := by simp; omega
        clear hc
        go_enter Try.func13, Try.ntmps13
        go_wp2_with fail
        refine (count_any A h _).mono ?_
        rintro e w1 ⟨c, rfl, -, hb⟩
        have HB1 := Lib.hid (HB.out.trans (hb.mono HB.out.size))
        clear hb k0 k1 k2 k3 k4
        cases hcc : decide (c ≤ 400)
        all_goals (go_wp2; go_returns; exact ⟨_, rfl, fun e => (by cases e), HB1.out⟩)
    · have d3 : decide ((nr : Int) ≤ 300) = false := by simp; omega
      clear hr
      go_enter Try.func13, Try.ntmps13
      go_wp2_with fail
      refine (count_any A h _).mono ?_
      rintro e w1 ⟨c, rfl, -, hb⟩
      have HB1 := Lib.hid (HB.out.trans (hb.mono HB.out.size))
      clear hb k0 k1 k2 k3 k4
      cases hcc : decide (c ≤ 400)
      all_goals (go_wp2; go_returns; exact ⟨_, rfl, fun e => (by cases e), HB1.out⟩)
  · have d2 : decide ((h.node.length : Int) ≤ 14) = false := by simp; omega
    clear hf
    go_enter Try.func13, Try.ntmps13
    go_wp2
    go_returns
    exact ⟨_, rfl, fun e => (by cases e), HB.out⟩

theorem three_good : ofErr threeD [0, 2] [2, 0, 1] = .nil := by decide +kernel
theorem three_near : nearR threeD 0 [2, 1] = (1, 4, .nil) := by decide +kernel
def awX (i j : Nat) : Int := if i = 0 then [5, 0, 4].getD j 0 else [0, 18446744073709551615, 18446744073709551615].getD j 0
theorem three_tab : ∀ i < 2, ∀ j < 3, tabD threeD ([0, 2].getD i 0) ([2, 0, 1].getD j 0) = awX i j := by decide +kernel
set_option linter.unusedSimpArgs false in
set_option maxRecDepth 100000 in
set_option maxHeartbeats 8000000 in
theorem awake23_any (w : World) : Calls Try.prog 12 #[] w (TrueNew w) := by
  go_enter Try.func12, Try.ntmps12
  apply wp_seq_k
  intro K0 hK
  have HK0 := Lib.hid hK
  clear hK
  go_wp2_with fail
  refine HK0.out _ _ ?_
  clear HK0
  apply wp_seq_k
  intro K1 hK
  have HK1 := Lib.hid hK
  clear hK
  go_wp2_with fail
  refine (three_any _).mono ?_
  rintro e w1 ⟨A1, rfl, s1, -, b1⟩
  have B1 := Lib.hid b1
  have S1 := Lib.hid s1
  clear b1 s1
  go_wp2_with fail
  have hwf : WfList [0, 2] ∧ WfList [2, 0, 1] := ⟨by intro x hx; simp at hx; omega, by intro x hx; simp at hx; omega⟩
  have ho1 := ((Below.refl w1.heap.size w1).alloc (Nat.le_refl _) (.cells #[.int .i64 0, .int .i64 2] 3)).alloc (by simp) (.cells #[.int .i64 2, .int .i64 0, .int .i64 1] 3)
  have cr := (Cells.new w1 3 ([0, 2].flatMap memInt)).alloc (.cells #[.int .i64 2, .int .i64 0, .int .i64 1] 3)
  have cc := Cells.new' (w := w1.alloc (.cells #[.int .i64 0, .int .i64 2] 3)) (b := w1.heap.size + 1) (by simp) 3 ([2, 0, 1].flatMap memInt)
  refine (of_any A1 threeD [0, 2] [2, 0, 1] _ _ 2 3 _ (S1.out.below ho1) (See.of_cells memInt_len cr (by simp [maxLen])) (See.of_cells memInt_len cc (by simp [maxLen])) (by simp) (by simp) hwf).mono ?_
  rintro e w2 ⟨m, v, rfl, hv, hb, -, hm⟩
  rw [three_good] at hv
  obtain rfl := hv.nilv rfl
  obtain ⟨rb, hm⟩ := hm three_good
  have M2 := Lib.hid (hm.see (by simp [maxLen]))
  have B2 := Lib.hid (B1.out.trans ((ho1.trans (hb.mono ho1.size)).mono B1.out.size))
  clear hv hb hm hwf ho1 cr cc B1 S1
  go_wp2_with fail
  refine HK1.out _ _ ?_
  clear HK1
  apply wp_seq_k
  intro K2 hK
  have HK2 := Lib.hid hK
  clear hK
  go_wp2_with fail
  refine (three_any _).mono ?_
  rintro e w3 ⟨A3, rfl, s3, -, b3⟩
  have B3 := Lib.hid (B2.out.trans (b3.mono B2.out.size))
  have M3 := Lib.hid (M2.out.below b3)
  have S3 := Lib.hid s3
  clear b3 s3 B2 M2
  go_wp2_with fail
  have hwf : WfList [2, 1] := by intro x hx; simp at hx; omega
  have ho3 := (Below.refl w3.heap.size w3).alloc (Nat.le_refl _) (.cells #[.int .i64 2, .int .i64 1] 3)
  have cc := Cells.new w3 3 ([2, 1].flatMap memInt)
  refine (nearest_any A3 threeD 0 [2, 1] _ 2 _ (S3.out.below ho3) (See.of_cells memInt_len cc (by simp [maxLen])) (by simp) ⟨by omega, hwf⟩).mono ?_
  rintro e w4 ⟨v, rfl, hv, hb⟩
  rw [three_near] at hv ⊢
  obtain rfl := hv.nilv rfl
  have B4 := Lib.hid (B3.out.trans ((ho3.trans (hb.mono ho3.size)).mono B3.out.size))
  have M4 := Lib.hid (M3.out.below (ho3.trans (hb.mono ho3.size)))
  clear hv hb hwf ho3 cc B3 S3 M3
  go_wp2_with fail
  refine HK2.out _ _ ?_
  clear HK2
  obtain ⟨mo, mc, mr, mx, rfl, -, -⟩ := M4.out.ex
  go_wp2_with fail
  have hr0 := ((Cells.new w4 33 ([5, 0, 4].flatMap u64C)).alloc (.cells #[.int .u64 0, .int .u64 18446744073709551615, .int .u64 18446744073709551615] 33)).alloc (.cells #[.slice (some ⟨w4.heap.size, 0, none⟩) 3 3, .slice (some ⟨w4.heap.size + 1, 0, none⟩) 3 3] 48)
  have hr1 := (Cells.new' (w := w4.alloc (.cells #[.int .u64 5, .int .u64 0, .int .u64 4] 33)) (b := w4.heap.size + 1) (by simp) 33 ([0, 18446744073709551615, 18446744073709551615].flatMap u64C)).alloc (.cells #[.slice (some ⟨w4.heap.size, 0, none⟩) 3 3, .slice (some ⟨w4.heap.size + 1, 0, none⟩) 3 3] 48)
  have hm := Cells.new' (w := (w4.alloc (.cells #[.int .u64 5, .int .u64 0, .int .u64 4] 33)).alloc (.cells #[.int .u64 0, .int .u64 18446744073709551615, .int .u64 18446744073709551615] 33)) (b := w4.heap.size + 1 + 1) (by simp) 48 ([Value.slice (some ⟨w4.heap.size, 0, none⟩) 3 3, Value.slice (some ⟨w4.heap.size + 1, 0, none⟩) 3 3].flatMap valC)
  have ho := (((Below.refl w4.heap.size w4).alloc (Nat.le_refl _) (.cells #[.int .u64 5, .int .u64 0, .int .u64 4] 33)).alloc (by simp) (.cells #[.int .u64 0, .int .u64 18446744073709551615, .int .u64 18446744073709551615] 33)).alloc (by simp; omega) (.cells #[.slice (some ⟨w4.heap.size, 0, none⟩) 3 3, .slice (some ⟨w4.heap.size + 1, 0, none⟩) 3 3] 48)
  refine (samematrix_see 2 3 _ awX _ _ _ (by omega) (by omega) (M4.out.below ho) ⟨_, 2, fun i => if i = 0 then some ⟨w4.heap.size, 0, none⟩ else some ⟨w4.heap.size + 1, 0, none⟩, fun _ => 3, rfl, See.of_cells valC_len hm (by simp [maxLen]), fun i hi => ?_⟩ (fun v x hv hx => three_tab v hv x hx)).mono ?_
  · match i, hi with
    | 0, _ => exact See.of_cells u64C_len hr0 (by simp [maxLen])
    | 1, _ => exact See.of_cells u64C_len hr1 (by simp [maxLen])
  rintro e w5 ⟨rfl, hb⟩
  have B5 := Lib.hid (B4.out.trans ((ho.trans (hb.mono ho.size)).mono B4.out.size))
  clear hb ho hr0 hr1 hm M4 B4
  go_wp2
  go_returns
  exact ⟨rfl, B5.out⟩
end Go.Proofs.Ytjbphoophgbmiaa
