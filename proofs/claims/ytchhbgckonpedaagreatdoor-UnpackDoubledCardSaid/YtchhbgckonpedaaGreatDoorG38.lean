/- The reference's Put at a list that is not empty. -/
import Derived.Test.YtchhbgckonpedaaGreatDoorG31
import Derived.Test.YtchhbgckonpedaaGreatDoorG19
import Derived.Test.YtchhbgckonpedaaGreatDoorG29
namespace Go.Proofs.YtchhbgckonpedaaGreatDoor
open Go.ChangeShapes Go.WideShapes Go.ChangeAt Go.RowKit Go.Joins Go.Deep
noncomputable def putBody : Code := Tryz.f76.body.getD .skip
theorem put_perm {l : List AF} {x : AF} (k : Nat) : ((l.take k ++ [x]) ++ l.drop k).Perm (x :: l) := by
  rw [List.append_assoc, List.singleton_append]
  exact List.perm_middle.trans (by rw [List.take_append_drop])
set_option linter.unusedSimpArgs false in
set_option maxRecDepth 100000 in
set_option maxHeartbeats 8000000 in
theorem put_end {s1 s2 s4 s7 s8 s9 s10 s11 s12 s13 s14 s15 s16 s17 s18 s19 s20 s21 s22 s23 s24 s25 s26 s27 s28 s29 s30 s31 s32 s33 s34 s35 s36 s37 s38 s39 s40 s41 s42 s43 s44 s45 s46 s47 s48 s49 s50 s51 s52 s53 s54 s55 s56 s57 s58 s59 s60 s61 s62 s63 s64 s65 s66 s67 s68 s69 s70 s71 s72 s73 s74 s75 s76 s77 : Value} {am : Option Addr} {cm : Nat} {g lc N k : Nat} {l : List AF} {x : AF} {w wx : World} (see : See w (some ⟨g, 0, none⟩) lc arcCells 3 l) (hN : l.length = N) (hk : k ≤ N) (hl : N ≤ 2097152) (hxc : Cells wx w.heap.size 100 [.int .i64 (x.1.val : Int), .int .i64 (x.2.1.val : Int), .int .i64 (x.2.2.val : Int)]) (hbl : Below w.heap.size w wx) (hm : ArcsO w.heap.size wx (.slice am k cm) (l.take k)) :
    Code.wp Tryz.prog (tailAt 6 putBody) (bodyPost Tryz.prog Tryz.f76 (PutPost l x w)) ⟨#[.slice (some ⟨g, 0, none⟩) N lc, s1, s2, .pointer (some ⟨w.heap.size, 0, none⟩), s4, .int .i64 (k : Int), .slice am k cm, s7, s8, s9, s10, s11, s12, s13, s14, s15, s16, s17, s18, s19, s20, s21, s22, s23, s24, s25, s26, s27, s28, s29, s30, s31, s32, s33, s34, s35, s36, s37, s38, s39, s40, s41, s42, s43, s44, s45, s46, s47, s48, s49, s50, s51, s52, s53, s54, s55, s56, s57, s58, s59, s60, s61, s62, s63, s64, s65, s66, s67, s68, s69, s70, s71, s72, s73, s74, s75, s76, s77], []⟩ wx := by
  have hNl : N ≤ lc := by rw [← hN]; exact see.hcap
  obtain ⟨o', ho'⟩ := slBase_some g 0 k lc 3
  have hsuf := fun W => run_sub_from4 (P := Tryz.prog) 50 100 3 Tryz.underlying50 Tryz.sizeArcC (some ⟨g, 0, none⟩) N lc k .i64 hk W
  rw [ho'] at hsuf
  have hss := see.sub k N (by omega)
  rw [ho', ← hN, List.take_length] at hss
  have SS := Lib.hid hss
  have HN := Lib.hid hN
  have HM := Lib.hid hm
  have HB := Lib.hid hbl
  have HX := Lib.hid hxc
  have y0 : wx.cell? ⟨w.heap.size, 0, none⟩ = some (.int .i64 (x.1.val : Int)) := hxc.cell rfl
  have y1 : wx.cell? ⟨w.heap.size, 1, none⟩ = some (.int .i64 (x.2.1.val : Int)) := hxc.cell rfl
  have y2 : wx.cell? ⟨w.heap.size, 2, none⟩ = some (.int .i64 (x.2.2.val : Int)) := hxc.cell rfl
  have lq := hxc.lt
  have hkl : (l.take k).length = k := by rw [List.length_take]; omega
  have HKL := Lib.hid hkl
  clear see hN hxc hbl hm hss ho' hkl
  conv => arg 2; whnf
  go_wp2_with (at_builtin; refine wpList_app _ rfl _ _ 50 rfl 100 (.agg #[.int .i64 0, .int .i64 0, .int .i64 0]) 3 24 Tryz.underlying50 Tryz.infoArc rfl (by decide) (.slice am k cm) k ((l.take k).flatMap arcCells) rfl ?own ⟨wx.heap.size, 0, none⟩ 1 1 (arcCells x) rfl rfl ?c1 ?c2 ?c3 ?c4 ?_)
  case own =>
    have := HM.out.own
    rw [HKL.out] at this
    exact own_kept (bs := []) this ((Only.refl _ wx).alloc _) (fun q _ => by simp)
  case c1 => exact cells_new wx 100 (arcCells x)
  case c2 => intro u hu; exact one_arc (l := [x]) (by simpa using hu)
  case c3 => unfold maxLen; omega
  case c4 => omega
  intro ao2 cap2 w2 hown2 ho2 hk2
  have hba := (Below.refl wx.heap.size wx).alloc (Nat.le_refl _) (.cells (arcCells x).toArray 100)
  have hA := (HM.out.below hba).app [x] (m := 1) rfl (ao := ao2) (cap := cap2) (w5 := w2) (by rw [HKL.out]; simpa using hown2) (by rw [HKL.out]; simpa using hk2) (by have := HB.out.size; simp; omega)
  rw [HKL.out] at hA
  have hb2 := (HB.out.trans (hba.mono HB.out.size)).trans (ho2.below (B := w.heap.size) (by have := HB.out.size; simp; omega) (fun q hq => HM.out.new q (own_mem hq)))
  have HA := Lib.hid hA
  have HB2 := Lib.hid hb2
  have hkl2 : (l.take k ++ [x]).length = k + 1 := by rw [List.length_append, HKL.out]; rfl
  have HKL2 := Lib.hid hkl2
  clear hown2 ho2 hk2 hba hA hb2 y0 y1 y2 lq hkl2
  obtain ⟨n2, hn2⟩ : ∃ n2, k + 1 = n2 := ⟨_, rfl⟩
  obtain ⟨n3, hn3⟩ : ∃ n3, N - k = n3 := ⟨_, rfl⟩
  have HN23 := Lib.hid (show n2 + n3 = N + 1 by omega)
  rw [hn2] at HA HKL2 ⊢
  rw [hn3] at hsuf
  have HNN := Lib.hid (And.intro hn2 hn3)
  clear hn2 hn3
  go_wp2_with (at_builtin; refine wpList_app _ rfl _ _ 50 rfl 100 (.agg #[.int .i64 0, .int .i64 0, .int .i64 0]) 3 24 Tryz.underlying50 Tryz.infoArc rfl (by decide) (.slice ao2 n2 cap2) n2 ((l.take k ++ [x]).flatMap arcCells) rfl ?own ⟨g, o', none⟩ n3 (lc - k) ((l.drop k).flatMap arcCells) rfl ?cl ?c1 ?c2 ?c3 ?c4 ?_)
  case own =>
    have := HA.out.own
    rw [HKL2.out] at this
    exact this
  case cl => rw [flat_length arcCells_len, List.length_drop, HN.out, HNN.out.2]
  case c1 => exact (SS.out.below HB2.out).news arcCells_len (by omega)
  case c2 => intro u hu; exact one_arc hu
  case c3 => rw [HN23.out]; unfold maxLen; omega
  case c4 => rw [HN23.out]; omega
  intro ao3 cap3 w3 hown3 ho3 hk3
  have hA3 := HA.out.app (l.drop k) (m := n3) (by rw [List.length_drop, HN.out]; exact HNN.out.2) (ao := ao3) (cap := cap3) (w5 := w3) (by rw [HKL2.out]; simpa using hown3) (by rw [HKL2.out]; simpa using hk3) HB2.out.size
  rw [HKL2.out, HN23.out] at hA3
  have hb3 := HB2.out.trans (ho3.below (B := w.heap.size) HB2.out.size (fun q hq => HA.out.new q (own_mem hq)))
  have HE := Lib.hid (And.intro hA3 hb3)
  rw [HN23.out]
  clear hown3 ho3 hk3 hA3 hb3
  go_wp2_with fail
  go_ret
  rw [← HN.out]
  exact ⟨ao3, cap3, _, rfl, put_perm k, by rw [HN.out]; exact HE.out.1, HE.out.2⟩
set_option linter.unusedSimpArgs false in
set_option maxRecDepth 100000 in
set_option maxHeartbeats 8000000 in
theorem put_mid {s1 s2 s4 s7 s8 s9 s10 s11 s12 s13 s14 s15 s16 s17 s18 s19 s20 s21 s22 s23 s24 s25 s26 s27 s28 s29 s30 s31 s32 s33 s34 s35 s36 s37 s38 s39 s40 s41 s42 s43 s44 s45 s46 s47 s48 s49 s50 s51 s52 s53 s54 s55 s56 s57 s58 s59 s60 s61 s62 s63 s64 s65 s66 s67 s68 s69 s70 s71 s72 s73 s74 s75 s76 s77 : Value} {am : Option Addr} {cm : Nat} {g lc N k : Nat} {l : List AF} {x : AF} {w wx : World} (see : See w (some ⟨g, 0, none⟩) lc arcCells 3 l) (hN : l.length = N) (hk : k ≤ N) (hl : N ≤ 2097152) (hx : ∀ y ∈ l, (y.1.val, y.2.1.val) ≠ (x.1.val, x.2.1.val)) (hxc : Cells wx w.heap.size 100 [.int .i64 (x.1.val : Int), .int .i64 (x.2.1.val : Int), .int .i64 (x.2.2.val : Int)]) (hbl : Below w.heap.size w wx) (hm : ArcsO w.heap.size wx (.slice am k cm) (l.take k)) :
    Code.wp Tryz.prog (tailAt 5 putBody) (bodyPost Tryz.prog Tryz.f76 (PutPost l x w)) ⟨#[.slice (some ⟨g, 0, none⟩) N lc, s1, s2, .pointer (some ⟨w.heap.size, 0, none⟩), s4, .int .i64 (k : Int), .slice am k cm, s7, s8, s9, s10, s11, s12, s13, s14, s15, s16, s17, s18, s19, s20, s21, s22, s23, s24, s25, s26, s27, s28, s29, s30, s31, s32, s33, s34, s35, s36, s37, s38, s39, s40, s41, s42, s43, s44, s45, s46, s47, s48, s49, s50, s51, s52, s53, s54, s55, s56, s57, s58, s59, s60, s61, s62, s63, s64, s65, s66, s67, s68, s69, s70, s71, s72, s73, s74, s75, s76, s77], []⟩ wx := by
  have SEE := Lib.hid see
  have HN := Lib.hid hN
  have HNE := Lib.hid hx
  have HM := Lib.hid hm
  have HB := Lib.hid hbl
  have HX := Lib.hid hxc
  have y0 : wx.cell? ⟨w.heap.size, 0, none⟩ = some (.int .i64 (x.1.val : Int)) := hxc.cell rfl
  have y1 : wx.cell? ⟨w.heap.size, 1, none⟩ = some (.int .i64 (x.2.1.val : Int)) := hxc.cell rfl
  have y2 : wx.cell? ⟨w.heap.size, 2, none⟩ = some (.int .i64 (x.2.2.val : Int)) := hxc.cell rfl
  have lq := hxc.lt
  have HDN : ∀ n, Below w.heap.size w (wx.drewN n) ∧ Cells (wx.drewN n) w.heap.size 100 [.int .i64 (x.1.val : Int), .int .i64 (x.2.1.val : Int), .int .i64 (x.2.2.val : Int)] ∧ ArcsO w.heap.size (wx.drewN n) (.slice am k cm) (l.take k) := fun n => ⟨below_drewN hbl n, hxc, hm.below (below_drewN (Below.refl _ _) n)⟩
  have HDD := Lib.hid HDN
  clear see hN hx hxc hbl hm HDN
  conv => arg 2; whnf
  apply wp_seq_k
  intro KK hK
  have HKK := Lib.hid hK
  clear hK
  by_cases hkN : k < N
  · obtain ⟨y, hy⟩ : ∃ y, l[k]? = some y := ⟨_, List.getElem?_eq_getElem (by rw [HN.out]; exact hkN)⟩
    obtain ⟨b, o, ea, cc⟩ := SEE.out.cell k y hy
    simp only [Option.some.injEq, Addr.mk.injEq, and_true] at ea
    obtain ⟨rfl, rfl⟩ := ea
    have e0 := ck HB.out (cc 0 _ rfl)
    have e1 := ck HB.out (cc 1 _ rfl)
    simp only [Nat.zero_add, Nat.add_zero] at e0 e1
    have lb := block_lt e0
    have hne := HNE.out y (List.mem_of_getElem? hy)
    obtain ⟨a, ha⟩ : ∃ a, y.1.val = a := ⟨_, rfl⟩
    obtain ⟨c, hc⟩ : ∃ c, y.2.1.val = c := ⟨_, rfl⟩
    rw [ha] at e0 hne
    rw [hc] at e1 hne
    have q1 : decide ((k : Int) < (N : Int)) = true := by simp; omega
    have q2 : decide (k < N) = true := by simp; omega
    clear cc hy ha hc
    by_cases hfe : a = x.1.val
    · have hte : c ≠ x.2.1.val := fun e => hne (by rw [hfe, e])
      have q3 : ((c : Int) == (x.2.1.val : Int)) = false := by simp; omega
      have q4 : (c == x.2.1.val) = false := by simp; omega
      have q5 : decide (c = x.2.1.val) = false := by simp; omega
      subst hfe
      clear hne hte
      go_wp2_with fail
      go_quiet (fail)
      go_wp2_with fail
      refine HKK.out _ _ ?_
      change Code.wp _ (tailAt 6 putBody) _ _ _
      exact put_end SEE.out HN.out hk hl (HDD.out _).2.1 (HDD.out _).1 (HDD.out _).2.2
    · have q3 : ((a : Int) == (x.1.val : Int)) = false := by simp; omega
      have q4 : (a == x.1.val) = false := by simp; omega
      have q5 : decide (a = x.1.val) = false := by simp; omega
      clear hne hfe
      go_wp2_with fail
      go_quiet (fail)
      go_wp2_with fail
      refine HKK.out _ _ ?_
      change Code.wp _ (tailAt 6 putBody) _ _ _
      exact put_end SEE.out HN.out hk hl (HDD.out _).2.1 (HDD.out _).1 (HDD.out _).2.2
  · obtain rfl : k = N := by omega
    go_wp2_with fail
    go_quiet (fail)
    go_wp2_with fail
    refine HKK.out _ _ ?_
    change Code.wp _ (tailAt 6 putBody) _ _ _
    exact put_end SEE.out HN.out hk hl (HDD.out _).2.1 (HDD.out _).1 (HDD.out _).2.2
set_option linter.unusedSimpArgs false in
set_option maxRecDepth 100000 in
set_option maxHeartbeats 8000000 in
theorem put_copy {s1 s2 s4 s6 s7 s8 s9 s10 s11 s12 s13 s14 s15 s16 s17 s18 s19 s20 s21 s22 s23 s24 s25 s26 s27 s28 s29 s30 s31 s32 s33 s34 s35 s36 s37 s38 s39 s40 s41 s42 s43 s44 s45 s46 s47 s48 s49 s50 s51 s52 s53 s54 s55 s56 s57 s58 s59 s60 s61 s62 s63 s64 s65 s66 s67 s68 s69 s70 s71 s72 s73 s74 s75 s76 s77 : Value} {g lc N k : Nat} {l : List AF} {x : AF} {w wx : World} (see : See w (some ⟨g, 0, none⟩) lc arcCells 3 l) (hN : l.length = N) (hk : k ≤ N) (hl : N ≤ 2097152) (hx : ∀ y ∈ l, (y.1.val, y.2.1.val) ≠ (x.1.val, x.2.1.val)) (hxc : Cells wx w.heap.size 100 [.int .i64 (x.1.val : Int), .int .i64 (x.2.1.val : Int), .int .i64 (x.2.2.val : Int)]) (hbl : Below w.heap.size w wx) :
    Code.wp Tryz.prog (tailAt 3 putBody) (bodyPost Tryz.prog Tryz.f76 (PutPost l x w)) ⟨#[.slice (some ⟨g, 0, none⟩) N lc, s1, s2, .pointer (some ⟨w.heap.size, 0, none⟩), s4, .int .i64 (k : Int), s6, s7, s8, s9, s10, s11, s12, s13, s14, s15, s16, s17, s18, s19, s20, s21, s22, s23, s24, s25, s26, s27, s28, s29, s30, s31, s32, s33, s34, s35, s36, s37, s38, s39, s40, s41, s42, s43, s44, s45, s46, s47, s48, s49, s50, s51, s52, s53, s54, s55, s56, s57, s58, s59, s60, s61, s62, s63, s64, s65, s66, s67, s68, s69, s70, s71, s72, s73, s74, s75, s76, s77], []⟩ wx := by
  have hNl : N ≤ lc := by rw [← hN]; exact see.hcap
  obtain ⟨o', ho'⟩ := slBase_some g 0 0 lc 3
  have hsub := fun W => run_sub_to4 (P := Tryz.prog) 50 100 3 Tryz.underlying50 Tryz.sizeArcC (some ⟨g, 0, none⟩) N lc k .i64 (by omega) W
  rw [ho'] at hsub
  have hss := see.sub 0 k (by omega)
  rw [ho', List.drop_zero, Nat.sub_zero] at hss
  have SS := Lib.hid hss
  have SEE := Lib.hid see
  have HN := Lib.hid hN
  have HNE := Lib.hid hx
  have HB := Lib.hid hbl
  have HX := Lib.hid hxc
  have hkl : (l.take k).length = k := by rw [List.length_take]; omega
  have HKL := Lib.hid hkl
  clear see hN hx hxc hbl hss ho' hkl
  conv => arg 2; whnf
  apply wp_seq_k
  intro K4 hK
  have HK4 := Lib.hid hK
  clear hK
  go_wp2_with fail
  refine HK4.out _ _ ?_
  clear HK4
  apply wp_seq_k
  intro KK hK
  have HKK := Lib.hid hK
  clear hK
  go_wp2_with (at_builtin; refine wpList_app _ rfl _ _ 50 rfl 100 (.agg #[.int .i64 0, .int .i64 0, .int .i64 0]) 3 24 Tryz.underlying50 Tryz.infoArc rfl (by decide) (.slice none 0 0) 0 [] rfl (World.ownsRow_nil _ _ _ _) ⟨g, o', none⟩ k lc ((l.take k).flatMap arcCells) rfl ?cl ?c1 ?c2 ?c3 ?c4 ?_)
  case cl => rw [flat_length arcCells_len, HKL.out]
  case c1 => exact (SS.out.below HB.out).news arcCells_len (by omega)
  case c2 => intro u hu; exact one_arc hu
  case c3 => unfold maxLen; omega
  case c4 => omega
  intro ao cap w5 hown ho hk5
  have hA := (ArcsO.nil w.heap.size wx).app (l.take k) (m := k) HKL.out (ao := ao) (cap := cap) (w5 := w5) (by simpa using hown) (by simpa using hk5) HB.out.size
  rw [List.length_nil, Nat.zero_add, List.nil_append] at hA
  have hb5 := HB.out.trans (ho.below (B := w.heap.size) HB.out.size (fun q hq => by simp [Value.ownBlock] at hq))
  have HA := Lib.hid (And.intro hA (And.intro hb5 (HX.out.kept ho (by simp [Value.ownBlock]))))
  clear hown ho hk5 hA hb5
  go_wp2_with fail
  refine HKK.out _ _ ?_
  change Code.wp _ (tailAt 5 putBody) _ _ _
  exact put_mid SEE.out HN.out hk hl HNE.out HA.out.2.2 HA.out.2.1 HA.out.1
set_option linter.unusedSimpArgs false in
set_option maxRecDepth 100000 in
set_option maxHeartbeats 8000000 in
theorem rput_cons (g lc N : Nat) (l : List AF) (x : AF) (w : World) (see : See w (some ⟨g, 0, none⟩) lc arcCells 3 l) (hN : l.length = N) (hl : N ≤ 2097152) (hx : ∀ y ∈ l, (y.1.val, y.2.1.val) ≠ (x.1.val, x.2.1.val)) :
    Calls Tryz.prog 76 #[.slice (some ⟨g, 0, none⟩) N lc, .agg (arcCells x).toArray] w (PutPost l x w) := by
  have HB := Lib.hid ((Below.refl w.heap.size w).alloc (Nat.le_refl _) (.cells (arcCells x).toArray 100))
  have HX := Lib.hid (Cells.new w 100 (arcCells x))
  have SEE := Lib.hid see
  have HNE := Lib.hid hx
  have HRL := Lib.hid (fun y W => rless_any y x W)
  have HN := Lib.hid hN
  clear see hx hN
  unfold arcCells at HB HX
  unfold arcCells
  go_enter Tryz.func76, Tryz.ntmps76
  apply wp_seq_k
  intro K0 hK
  have HK0 := Lib.hid hK
  clear hK
  go_wp2_with fail
  refine HK0.out _ _ ?_
  clear HK0
  apply wp_seq_k
  intro K1 hK
  have HK1 := Lib.hid hK
  clear hK
  go_wp2_with fail
  refine HK1.out _ _ ?_
  clear HK1
  apply wp_seq_k
  intro KK hK
  have HKK := Lib.hid hK
  clear hK
  go_wp2_with fail
  go_loopg [5] N (fun gg vi wr => ∃ k : Nat, vi = .int .i64 k ∧ k ≤ N ∧ gg = N - k ∧ Cells wr w.heap.size 100 [.int .i64 (x.1.val : Int), .int .i64 (x.2.1.val : Int), .int .i64 (x.2.2.val : Int)] ∧ Below w.heap.size w wr)
  case atStart => exact ⟨0, rfl, Nat.zero_le _, rfl, HX.out, HB.out⟩
  case round =>
    obtain ⟨k, rfl, hk, hg, hxc, hbl⟩ := hrel
    have x0 : wr.cell? ⟨w.heap.size, 0, none⟩ = some (.int .i64 (x.1.val : Int)) := hxc.cell rfl
    have x1 : wr.cell? ⟨w.heap.size, 1, none⟩ = some (.int .i64 (x.2.1.val : Int)) := hxc.cell rfl
    have x2 : wr.cell? ⟨w.heap.size, 2, none⟩ = some (.int .i64 (x.2.2.val : Int)) := hxc.cell rfl
    have l0 := hxc.lt
    have HG := Lib.hid hg
    have HXC := Lib.hid hxc
    have HBL := Lib.hid hbl
    clear hg hxc hbl
    by_cases hkN : k < N
    · obtain ⟨y, hy⟩ : ∃ y, l[k]? = some y := ⟨_, List.getElem?_eq_getElem (by rw [HN.out]; exact hkN)⟩
      obtain ⟨b, o, ea, cc⟩ := SEE.out.cell k y hy
      simp only [Option.some.injEq, Addr.mk.injEq, and_true] at ea
      obtain ⟨rfl, rfl⟩ := ea
      have e0 := ck HBL.out (cc 0 _ rfl)
      have e1 := ck HBL.out (cc 1 _ rfl)
      have e2 := ck HBL.out (cc 2 _ rfl)
      simp only [Nat.zero_add, Nat.add_zero] at e0 e1 e2
      have lb := block_lt e0
      clear cc hy
      have q1 : decide ((k : Int) < (N : Int)) = true := by simp; omega
      have q2 : decide (k < N) = true := by simp; omega
      have HRY := Lib.hid (fun W => HRL.out y W)
      unfold arcCells at HRY
      go_wp2_with fail
      go_region_held3 (fun W => W.cell? ⟨g, k * 3, none⟩ = some (.int .i64 (y.1.val : Int)) ∧ W.cell? ⟨g, k * 3 + 1, none⟩ = some (.int .i64 (y.2.1.val : Int)) ∧ W.cell? ⟨g, k * 3 + 2, none⟩ = some (.int .i64 (y.2.2.val : Int)) ∧ W.cell? ⟨w.heap.size, 0, none⟩ = some (.int .i64 (x.1.val : Int)) ∧ W.cell? ⟨w.heap.size, 1, none⟩ = some (.int .i64 (x.2.1.val : Int)) ∧ W.cell? ⟨w.heap.size, 2, none⟩ = some (.int .i64 (x.2.2.val : Int))) (go_keep)
        (first
        | (go_at_call 100; (with_reducible refine (HRY.out _).mono ?_); rintro e w2 ⟨bb, rfl, hb2⟩; (have j0 := ck hb2 e0); (have j1 := ck hb2 e1); (have j2 := ck hb2 e2); (have j3 := ck hb2 x0); (have j4 := ck hb2 x1); (have j5 := ck hb2 x2); (have HB2 := Lib.hid (HBL.out.drew.trans (hb2.mono HBL.out.size))); (have HX2 := Lib.hid (HXC.out.drew.below hb2 HXC.out.lt)); clear hb2))
      try dsimp only [Exit.then]
      cases bb with
      | true =>
        go_wp2_with fail
        go_roundg (N - (k + 1))
        case measure => rw [HG.out]; omega
        case rel => exact ⟨k + 1, by go_num, by omega, rfl, HX2.out, HB2.out⟩
      | false =>
        go_wp2_with fail
        refine HKK.out _ _ ?_
        change Code.wp _ (tailAt 3 putBody) _ _ _
        exact put_copy SEE.out HN.out hk hl HNE.out HX2.out HB2.out
    · obtain rfl : k = N := by omega
      go_wp2_with fail
      go_quiet (fail)
      go_wp2_with fail
      refine HKK.out _ _ ?_
      change Code.wp _ (tailAt 3 putBody) _ _ _
      exact put_copy SEE.out HN.out hk hl HNE.out HXC.out (below_drewN HBL.out _)
def ROfPost (n : Nat) (l : List AF) (w : World) (e : Ending) (w' : World) : Prop :=
  ∃ ao cap l', e = .returned (.agg #[.int .i64 (n : Int), .slice ao l'.length cap]) ∧ l'.Perm l ∧ ArcsO w.heap.size w' (.slice ao l'.length cap) l' ∧ Below w.heap.size w w'
structure OfI (n : Nat) (la : Option Addr) (N lc : Nat) (G L : List AF) (v : Value) (k : Nat) (w wr : World) : Prop where
  x : Cells wr w.heap.size 52 [.int .i64 (n : Int), .slice la N lc]
  r : Cells wr (w.heap.size + 1) 52 [.int .i64 0, .slice none 0 0]
  c : Cells wr (w.heap.size + 2) 52 [.int .i64 (n : Int), v]
  o : ArcsO (w.heap.size + 3) wr v L
  z : k = 0 → v = .slice none 0 0
  p : L.Perm (G.take k)
  b : Below w.heap.size w wr
theorem OfI.below {n : Nat} {la : Option Addr} {N lc : Nat} {G L : List AF} {v : Value} {k : Nat} {w wr wy : World} (h : OfI n la N lc G L v k w wr) (o : Below wr.heap.size wr wy) : OfI n la N lc G L v k w wy :=
  ⟨h.x.below o h.x.lt, h.r.below o h.r.lt, h.c.below o h.c.lt, h.o.below o, h.z, h.p, h.b.trans (o.mono h.b.size)⟩
theorem pairs_apart {G L : List AF} {k : Nat} {x : AF} (hn : (G.map fun x : AF => (x.1.val, x.2.1.val)).Nodup) (hp : L.Perm (G.take k)) (hx : G[k]? = some x) : ∀ y ∈ L, (y.1.val, y.2.1.val) ≠ (x.1.val, x.2.1.val) := by
  intro y hy e
  obtain ⟨j, hj⟩ := List.mem_iff_getElem?.1 (hp.mem_iff.1 hy)
  rw [List.getElem?_take] at hj
  split at hj
  · rename_i hjk
    rw [List.nodup_iff_pairwise_ne, List.pairwise_iff_getElem] at hn
    obtain ⟨h1, e1⟩ := List.getElem?_eq_some_iff.1 hj
    obtain ⟨h2, e2⟩ := List.getElem?_eq_some_iff.1 hx
    have := hn j k (by simpa using h1) (by simpa using h2) hjk
    simp only [List.getElem_map, e1, e2] at this
    exact this e
  · cases hj
set_option linter.unusedSimpArgs false in
set_option maxRecDepth 100000 in
set_option maxHeartbeats 8000000 in
theorem rof_any (n : Nat) (la : Option Addr) (N lc : Nat) (G : List AF) (w : World) (see : See w la lc arcCells 3 G) (hN : G.length = N) (hl : N ≤ 1048576) (hne : ∀ x ∈ G, x.1.val ≠ x.2.1.val) (hnd : (G.map fun x : AF => (x.1.val, x.2.1.val)).Nodup) :
    Calls Tryz.prog 50 #[.agg #[.int .i64 (n : Int), .slice la N lc]] w (ROfPost n G w) := by
  have SEE := Lib.hid see
  have HN := Lib.hid hN
  have HNE := Lib.hid hne
  have HND := Lib.hid hnd
  have r0 := Cells.new (w.alloc (.cells #[.int .i64 (n : Int), .slice la N lc] 52)) 52 [.int .i64 0, .slice none 0 0]
  rw [show (w.alloc (.cells #[.int .i64 (n : Int), .slice la N lc] 52)).heap.size = w.heap.size + 1 by simp] at r0
  have c0 := Cells.new ((w.alloc (.cells #[.int .i64 (n : Int), .slice la N lc] 52)).alloc (.cells #[.int .i64 0, .slice none 0 0] 52)) 52 [.int .i64 (n : Int), .slice none 0 0]
  rw [show ((w.alloc (.cells #[.int .i64 (n : Int), .slice la N lc] 52)).alloc (.cells #[.int .i64 0, .slice none 0 0] 52)).heap.size = w.heap.size + 2 by simp] at c0
  have HI := Lib.hid (OfI.mk (n := n) (la := la) (N := N) (lc := lc) (G := G) (L := []) (k := 0) (w := w) (((Cells.new w 52 [.int .i64 (n : Int), .slice la N lc]).alloc _).alloc _) (r0.alloc _) c0 (ArcsO.nil _ _) (fun _ => rfl) (by simp) ((((Below.refl w.heap.size w).alloc (Nat.le_refl _) _).alloc (by simp) _).alloc (by simp; omega) _))
  clear see hN hne hnd r0 c0
  go_enter Tryz.func50, Tryz.ntmps50
  go_wp2_with fail
  go_loopg [12] N (fun gg vi wr => ∃ (k : Nat) (L : List AF) (v : Value), vi = .int .i64 k ∧ k ≤ N ∧ gg = N - k ∧ OfI n la N lc G L v k w wr)
  case atStart => exact ⟨0, [], .slice none 0 0, rfl, Nat.zero_le _, rfl, HI.out⟩
  case round =>
    obtain ⟨k, L, v, rfl, hk, hg, hi⟩ := hrel
    have HG := Lib.hid hg
    have HI1 := Lib.hid hi
    have lc2 := hi.c.lt
    clear hg HI
    by_cases hkN : k < N
    · obtain ⟨x, hx⟩ : ∃ x, G[k]? = some x := ⟨_, List.getElem?_eq_getElem (by rw [HN.out]; exact hkN)⟩
      obtain ⟨b, o, ea, cc⟩ := SEE.out.cell k x hx
      have e0 := ck hi.b (cc 0 _ rfl)
      have e1 := ck hi.b (cc 1 _ rfl)
      have e2 := ck hi.b (cc 2 _ rfl)
      rw [Nat.add_zero] at e0
      have lb := block_lt e0
      have EA := Lib.hid ea
      have HX := Lib.hid hx
      have hne := HNE.out x (List.mem_of_getElem? hx)
      have q1 : ((x.1.val : Int) == (x.2.1.val : Int)) = false := by simp; omega
      have q2 : (x.1.val == x.2.1.val) = false := by simp; omega
      have q3 : decide ((x.1.val : Int) = (x.2.1.val : Int)) = false := by simp; omega
      have c1 : wr.cell? ⟨w.heap.size + 2, 1, none⟩ = some v := hi.c.cell rfl
      have f1 := hi.c.frozen 1
      have hba := (Below.refl wr.heap.size wr).alloc (Nat.le_refl _) (.cells (arcCells x).toArray 100)
      have HBA := Lib.hid hba
      have HC : Calls Tryz.prog 76 #[v, .agg (arcCells x).toArray] (wr.alloc (.cells (arcCells x).toArray 100)) (PutPost L x (wr.alloc (.cells (arcCells x).toArray 100))) := by
        have hap := pairs_apart HND.out hi.p hx
        have hll : L.length = k := by rw [hi.p.length_eq, List.length_take]; have := HN.out; omega
        by_cases h0 : k = 0
        · have hv := hi.z h0
          subst hv
          have hL : L = [] := List.length_eq_zero_iff.1 (by omega)
          subst hL
          exact rput_nil x _
        · obtain ⟨g2, c2, e2, -, -⟩ := own_form hi.o.own (by omega)
          subst e2
          exact rput_cons g2 c2 L.length L x _ ((hi.o.see.1).below hba) rfl (by omega) hap
      have HCC := Lib.hid HC
      unfold arcCells at HCC
      clear cc ea hx hne hi hba HC
      rw [EA.out]
      go_wp2_with fail
      refine HCC.out.mono ?_
      rintro e w2 ⟨ao2, cap2, L2, rfl, hp2, ho2, hb2⟩
      have hbb := HBA.out.trans (hb2.mono (by simp))
      have hi2 := HI1.out.below hbb
      have c1' : w2.cell? ⟨w.heap.size + 2, 1, none⟩ = some v := hi2.c.cell rfl
      have f1' := hi2.c.frozen 1
      have lc2' := hi2.c.lt
      have hll : L.length = k := by rw [hi2.p.length_eq, List.length_take]; have := HN.out; omega
      have hzz : w.heap.size + 3 ≤ wr.heap.size := by omega
      have hp3 : L2.Perm (G.take (k + 1)) := by
        refine hp2.trans ?_
        rw [List.take_add_one, HX.out]
        refine (List.Perm.cons x hi2.p).trans ?_
        simp only [Option.toList_some]
        exact (List.perm_append_comm (l₁ := [x]) (l₂ := G.take k))
      rw [hll] at ho2 ⊢
      have HO2 := Lib.hid (And.intro (ho2.mono (C := w.heap.size + 3) (by simp; omega)) (And.intro hp3 hi2))
      clear hbb hi2 hp2 ho2 hb2 hp3 hll c1 f1 e0 e1 e2 lb q1 q2 q3
      go_wp2_with fail
      rw [← EA.out]
      go_roundg (N - (k + 1))
      case measure => rw [HG.out]; omega
      case rel =>
        obtain ⟨h1, h2, h3⟩ := HO2.out
        have hO : Only [w.heap.size + 2] w2 (w2.setCell ⟨w.heap.size + 2, 1, none⟩ (.slice ao2 (k + 1) cap2)) := (Only.refl _ w2).setCell (p := ⟨w.heap.size + 2, 1, none⟩) (by simp) _
        exact ⟨k + 1, L2, .slice ao2 (k + 1) cap2, by go_num, by omega, rfl, h3.x.kept hO (by simp), h3.r.kept hO (by simp), h3.c.set 1 _, h1.kept hO (fun q hq hm => by
          have := h1.new q hq
          simp at hm
          omega), fun h => by omega, h2, h3.b.trans (hO.below (B := w.heap.size) h3.b.size (fun q hq => by simp at hq; omega))⟩
    · obtain rfl : k = N := by omega
      have c0 : wr.cell? ⟨w.heap.size + 2, 0, none⟩ = some (.int .i64 (n : Int)) := hi.c.cell rfl
      have c1 : wr.cell? ⟨w.heap.size + 2, 1, none⟩ = some v := hi.c.cell rfl
      have r0 : wr.cell? ⟨w.heap.size + 1, 0, none⟩ = some (.int .i64 0) := hi.r.cell rfl
      have r1 : wr.cell? ⟨w.heap.size + 1, 1, none⟩ = some (.slice none 0 0) := hi.r.cell rfl
      have f0 := hi.r.frozen 0
      have f1 := hi.r.frozen 1
      have lr := hi.r.lt
      have hLN : L.length = k := by rw [hi.p.length_eq, List.length_take]; have := HN.out; omega
      obtain ⟨ao, cap, rfl⟩ := hi.o.form
      have HLN := Lib.hid hLN
      clear hi hLN
      go_wp2_with fail
      refine bodyPost_ret (results_e rfl _ _ (w.heap.size + 1) 52 [.int .i64 (n : Int), .slice ao L.length cap] _ rfl ((HI1.out.r.set 0 _).set 1 _) Tryz.underlying52 rfl (by rw [Tryz.sizeGraph]; rfl)) rfl ?_
      have hO : Only [w.heap.size + 1] wr ((wr.setCell ⟨w.heap.size + 1, 0, none⟩ (.int .i64 (n : Int))).setCell ⟨w.heap.size + 1, 1, none⟩ (.slice ao L.length cap)) := ((Only.refl _ wr).setCell (p := ⟨w.heap.size + 1, 0, none⟩) (by simp) _).setCell (p := ⟨w.heap.size + 1, 1, none⟩) (by simp) _
      refine ⟨ao, cap, L, rfl, by have := HI1.out.p; rwa [← HN.out, List.take_length] at this, (HI1.out.o.kept hO (fun q hq hm => by
          have := HI1.out.o.new q hq
          simp at hm
          omega)).mono (by omega), HI1.out.b.trans (hO.below (B := w.heap.size) HI1.out.b.size (fun q hq => by simp at hq; omega))⟩
end Go.Proofs.YtchhbgckonpedaaGreatDoor
