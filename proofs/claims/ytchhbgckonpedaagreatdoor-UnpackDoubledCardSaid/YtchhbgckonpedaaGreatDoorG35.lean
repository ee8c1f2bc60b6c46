/- search.run: a search from a node, to its end. -/
import Derived.Test.YtchhbgckonpedaaGreatDoorG34
import Derived.Test.YtchhbgckonpedaaGreatDoorG19
import Derived.Test.YtchhbgckonpedaaGreatDoorG31
namespace Go.Proofs.YtchhbgckonpedaaGreatDoor
open Go.ChangeShapes Go.WideShapes Go.ChangeAt Go.RowKit Go.Joins Go.Deep
noncomputable def runBody : Code := Tryz.f93.body.getD .skip
def bndCells : List Value := [.int .i64 4611686018427387904, .int .i64 4611686018427387904, .int .u64 18446744073709551615]
def RunPost (C : CA) (n N : Nat) (l : List AF) (u : Nat) (w : World) (e : Ending) (w' : World) : Prop :=
  ∃ (Z : SB) (iv : Value) (hs : HS) (ds : List (Option Int)) (H : List Nat) (S : List Bool) (D : Nat → Option Int), e = .returned (.pointer (some ⟨Z.sb, 0, none⟩)) ∧ StRep w' (w.heap.size + 2) C n N Z iv hs ds H S ∧ IsS (webC l) (-1) u D ∧
    (∀ x, ds.getD x none = D x) ∧ (∀ (x : Nat) (b : Bool), S[x]? = some b → (b = true ↔ ∃ e, D x = some e)) ∧ (∀ x d, D x = some d → 0 ≤ d ∧ d ≤ 65535 * 140737488355328) ∧ Below w.heap.size w w'
def RunI (B : Nat) (C : CA) (n : Nat) (l : List AF) (u : Nat) (Z : SB) (c : Nat) (wx wr : World) : Prop :=
  ∃ S : List Bool, S.countP id = c ∧ StOk B C n l u Z (fun _ _ => True) c S (fun _ _ => True) wr ∧ Below B wx wr
set_option linter.unusedSimpArgs false in
set_option maxRecDepth 100000 in
set_option maxHeartbeats 8000000 in
theorem run_loop {s0 s2 s4 s6 s9 s10 s11 s12 s13 s14 s15 s16 s17 s18 s19 s20 s21 s22 s23 s24 s25 s26 s27 s28 s29 s30 s31 s32 s33 s34 s35 s36 s37 s38 s39 s40 s41 s42 s43 s44 s45 s46 s47 s48 s49 s50 s51 s52 s53 s54 s55 s56 s57 s58 s59 s60 s61 s62 s63 s64 s65 s66 s67 s68 s69 s70 s71 s72 s73 s74 s75 s76 : Value} {C : CA} {n N u : Nat} {l : List AF} {Z : SB} {w wx : World} (ok : CsrOk n l) (see : CSee w C n l) (hN : l.length = N) (hb0 : Below w.heap.size w wx) (hx1 : Cells wx (w.heap.size + 1) 193 bndCells) (hi : RunI (w.heap.size + 2) C n l u Z 0 wx wx) :
    Code.wp Tryz.prog (tailAt 6 runBody) (bodyPost Tryz.prog Tryz.f93 (RunPost C n N l u w)) ⟨#[s0, .int .i64 (u : Int), s2, .pointer (some ⟨w.heap.size, 0, none⟩), s4, .pointer (some ⟨(w.heap.size + 1), 0, none⟩), s6, .int .i64 (n : Int), .pointer (some ⟨Z.sb, 0, none⟩), s9, s10, s11, s12, s13, s14, s15, s16, s17, s18, s19, s20, s21, s22, s23, s24, s25, s26, s27, s28, s29, s30, s31, s32, s33, s34, s35, s36, s37, s38, s39, s40, s41, s42, s43, s44, s45, s46, s47, s48, s49, s50, s51, s52, s53, s54, s55, s56, s57, s58, s59, s60, s61, s62, s63, s64, s65, s66, s67, s68, s69, s70, s71, s72, s73, s74, s75, s76], []⟩ wx := by
  have hn := ok.hn
  have OK := Lib.hid ok
  have SEE := Lib.hid see
  have HN := Lib.hid hN
  have HB0 := Lib.hid hb0
  have HX := Lib.hid hx1
  have HI := Lib.hid hi
  have hsz : w.heap.size + 2 ≤ wx.heap.size := by have := hx1.lt; omega
  clear ok see hN hb0 hx1 hi
  conv => arg 2; whnf
  apply wp_seq_k
  intro KK hK
  have HKK := Lib.hid hK
  clear hK
  go_wp2_with fail
  go_loopg [9, 10, 11, 12] n (fun g vc v1 v2 v3 wr => ∃ c : Nat, vc = .int .i64 c ∧ g = n - c ∧ RunI (w.heap.size + 2) C n l u Z c wx wr)
  case atStart => exact ⟨0, rfl, rfl, HI.out⟩
  case round =>
    obtain ⟨c, rfl, hg, S, hcS, ⟨iv, hs, ds, H, m, D, hr, hd, -⟩, hbl⟩ := hrel
    rw [HN.out] at hr
    have hcn : c ≤ n := by rw [← hcS, ← hr.ls]; exact List.countP_le_length
    have hx := HX.out.below hbl (by omega)
    have x0 : wr.cell? ⟨w.heap.size + 1, 0, none⟩ = some (.int .i64 4611686018427387904) := hx.cell rfl
    have x1 : wr.cell? ⟨w.heap.size + 1, 1, none⟩ = some (.int .i64 4611686018427387904) := hx.cell rfl
    have x2 : wr.cell? ⟨w.heap.size + 1, 2, none⟩ = some (.int .u64 18446744073709551615) := hx.cell rfl
    have z3 : wr.cell? ⟨Z.sb, 3, none⟩ = some (.pointer (some ⟨Z.hb, 0, none⟩)) := hr.st.cell rfl
    have q1 : decide ((c : Int) < 4611686018427387904) = true := by simp; omega
    have q2 : decide (c < 4611686018427387904) = true := by simp; omega
    have cc := IntWalk.i64_in ((c : Int) + 1) (by omega)
    have lx := hx.lt
    have HG := Lib.hid hg
    have HR := Lib.hid hr
    have HD := Lib.hid hd
    have HCS := Lib.hid hcS
    have HBL := Lib.hid hbl
    clear hg hr hd hcS hbl hx
    go_wp2_with fail
    refine (top_any _ HR.out.hp).mono ?_
    rintro e w1 ⟨rfl, hb1⟩
    have HR1 := Lib.hid (HR.out.below hb1)
    have HB1 := Lib.hid (HBL.out.trans (hb1.mono (by have := HBL.out.size; omega)))
    have lw1 : w.heap.size + 2 ≤ w1.heap.size := by have := HB1.out.size; omega
    clear hb1 x0 x1 x2 z3 q1 q2 lx
    cases ht : hs.1[0]? with
    | none =>
      have hemp : hs.1 = [] := by
        cases hh : hs.1 with
        | nil => rfl
        | cons a b => rw [hh] at ht; simp at ht
      have HE := Lib.hid (HD.out.done hemp)
      clear ht hemp
      dsimp only
      go_wp2_with fail
      refine HKK.out _ _ ?_
      go_wp2_with fail
      go_ret
      exact ⟨Z, iv, hs, ds, H, S, D, rfl, HR1.out, HE.out.1, HD.out.d, HE.out.2, fun x d hx => HD.out.i.big hn hx, HB0.out.trans (HB1.out.mono (by omega))⟩
    | some x =>
      obtain ⟨k, v⟩ := x
      obtain ⟨hd1, hw1, hvn, hSv⟩ := HD.out.pop ht (by rw [← HR.out.ls])
      have hk := HD.out.i.big hn hw1.d
      have z3 : w1.cell? ⟨Z.sb, 3, none⟩ = some (.pointer (some ⟨Z.hb, 0, none⟩)) := HR1.out.st.cell rfl
      have x0 : w1.cell? ⟨w.heap.size + 1, 0, none⟩ = some (.int .i64 4611686018427387904) := (HX.out.below HB1.out (by omega)).cell rfl
      have x2 : w1.cell? ⟨w.heap.size + 1, 2, none⟩ = some (.int .u64 18446744073709551615) := (HX.out.below HB1.out (by omega)).cell rfl
      have lx : w.heap.size + 1 < w1.heap.size := by omega
      have q3 : decide ((18446744073709551615 : Int) < k) = false := by simp; omega
      have cv := IntWalk.i64_in (v : Int) (by omega)
      have HD1 := Lib.hid (And.intro hd1 (And.intro hw1 hSv))
      have HT := Lib.hid ht
      clear hd1 hw1 hSv ht
      dsimp only
      go_wp2_with fail
      refine (pop_any _ HR1.out.hp HD.out.o.good).mono ?_
      rintro e w2 ⟨rfl, hx2⟩
      obtain ⟨⟨iv2, hr2⟩, hb2⟩ := HR1.out.heap lw1 hx2 HD1.out.1.o.len
      have HR2 := Lib.hid hr2
      have HB2 := Lib.hid (HB1.out.trans hb2)
      have y0 : w2.cell? ⟨w.heap.size + 1, 0, none⟩ = some (.int .i64 4611686018427387904) := (HX.out.below HB2.out (by omega)).cell rfl
      have ly : w.heap.size + 1 < w2.heap.size := by have := hb2.size; omega
      clear hx2 hr2 hb2 z3 x0 x2 lx q3
      go_wp2_with fail
      refine (settle_any (w.heap.size + 2) C n l u Z c S v k w _ OK.out SEE.out (HB0.out.trans (HB2.out.mono (by omega))) (by omega) (by omega) hvn (by omega) HD1.out.2.2 ⟨iv2, popP hs, ds, H, _, D, by rw [HN.out]; exact HR2.out, HD1.out.1, HD1.out.2.1⟩).mono ?_
      rintro e w3 ⟨rfl, hst, hb3⟩
      have HST := Lib.hid (And.intro hst (HB2.out.trans hb3))
      clear hst hb3 y0 ly
      go_wp2_with fail
      have hcm := count_mark HD1.out.2.2
      have hlt : c < n := by
        have h1 : (S.set v true).countP id ≤ (S.set v true).length := List.countP_le_length
        rw [hcm, HCS.out, List.length_set, HR.out.ls] at h1
        omega
      go_roundg (n - (c + 1))
      case measure => rw [HG.out]; omega
      case rel => exact ⟨c + 1, by go_num, rfl, S.set v true, by rw [hcm, HCS.out], HST.out.1, HST.out.2⟩
set_option linter.unusedSimpArgs false in
set_option maxRecDepth 100000 in
set_option maxHeartbeats 8000000 in
theorem run_lab {s0 s2 s4 s6 s9 s10 s11 s12 s13 s14 s15 s16 s17 s18 s19 s20 s21 s22 s23 s24 s25 s26 s27 s28 s29 s30 s31 s32 s33 s34 s35 s36 s37 s38 s39 s40 s41 s42 s43 s44 s45 s46 s47 s48 s49 s50 s51 s52 s53 s54 s55 s56 s57 s58 s59 s60 s61 s62 s63 s64 s65 s66 s67 s68 s69 s70 s71 s72 s73 s74 s75 s76 : Value} {C : CA} {n N u : Nat} {l : List AF} {Z : SB} {w wx : World} (ok : CsrOk n l) (see : CSee w C n l) (hN : l.length = N) (hu : u < n) (hb0 : Below w.heap.size w wx) (hx1 : Cells wx (w.heap.size + 1) 193 bndCells)
    (hi : StRep wx (w.heap.size + 2) C n N Z (.slice none 0 0) ([], List.replicate n 0) (List.replicate n none) (List.replicate n 0) (List.replicate n false)) :
    Code.wp Tryz.prog (tailAt 5 runBody) (bodyPost Tryz.prog Tryz.f93 (RunPost C n N l u w)) ⟨#[s0, .int .i64 (u : Int), s2, .pointer (some ⟨w.heap.size, 0, none⟩), s4, .pointer (some ⟨(w.heap.size + 1), 0, none⟩), s6, .int .i64 (n : Int), .pointer (some ⟨Z.sb, 0, none⟩), s9, s10, s11, s12, s13, s14, s15, s16, s17, s18, s19, s20, s21, s22, s23, s24, s25, s26, s27, s28, s29, s30, s31, s32, s33, s34, s35, s36, s37, s38, s39, s40, s41, s42, s43, s44, s45, s46, s47, s48, s49, s50, s51, s52, s53, s54, s55, s56, s57, s58, s59, s60, s61, s62, s63, s64, s65, s66, s67, s68, s69, s70, s71, s72, s73, s74, s75, s76], []⟩ wx := by
  have OK := Lib.hid ok
  have SEE := Lib.hid see
  have HN := Lib.hid hN
  have HB0 := Lib.hid hb0
  have HX := Lib.hid hx1
  have HI := Lib.hid hi
  have hsz : w.heap.size + 2 ≤ wx.heap.size := by have := hx1.lt; omega
  clear ok see hN hb0 hx1 hi
  conv => arg 2; whnf
  apply wp_seq_k
  intro KK hK
  have HKK := Lib.hid hK
  clear hK
  go_wp2_with fail
  refine (label_any (w.heap.size + 2) C n N Z (.slice none 0 0) ([], List.replicate n 0) (List.replicate n none) (List.replicate n 0) (List.replicate n false) u 0 0 _ HI.out (Holds.new n).good hsz hu).mono ?_
  rintro e w1 ⟨rfl, ⟨iv, hr⟩, hb⟩
  have HRI : RunI (w.heap.size + 2) C n l u Z 0 w1 w1 := ⟨List.replicate n false, by simp [List.countP_replicate], ⟨iv, _, _, _, _, _, by rw [HN.out]; exact hr, SData.start hu, trivial⟩, Below.refl _ _⟩
  have HB := Lib.hid (And.intro (HB0.out.trans (hb.mono (by omega))) (HX.out.below hb (by omega)))
  clear hr hb
  go_wp2_with fail
  refine HKK.out _ _ ?_
  change Code.wp _ (tailAt 6 runBody) _ _ _
  exact run_loop OK.out SEE.out HN.out HB.out.1 HB.out.2 HRI
set_option linter.unusedSimpArgs false in
set_option maxRecDepth 100000 in
set_option maxHeartbeats 8000000 in
theorem run_dist {s0 s2 s4 s6 s9 s10 s11 s12 s13 s14 s15 s16 s17 s18 s19 s20 s21 s22 s23 s24 s25 s26 s27 s28 s29 s30 s31 s32 s33 s34 s35 s36 s37 s38 s39 s40 s41 s42 s43 s44 s45 s46 s47 s48 s49 s50 s51 s52 s53 s54 s55 s56 s57 s58 s59 s60 s61 s62 s63 s64 s65 s66 s67 s68 s69 s70 s71 s72 s73 s74 s75 s76 : Value} {C : CA} {n N u sb ob eb hb ab : Nat} {l : List AF} {w wx : World} (ok : CsrOk n l) (see : CSee w C n l) (hN : l.length = N) (hu : u < n) (hb0 : Below w.heap.size w wx) (hx1 : Cells wx (w.heap.size + 1) 193 bndCells)
    (hst : Cells wx sb 198 [.slice C.fa (n + 1) C.fc, .slice C.ta N C.tc, .slice C.wa N C.wc, .pointer (some ⟨hb, 0, none⟩), .pointer none, .slice (some ⟨ob, 0, none⟩) n n, .slice (some ⟨eb, 0, none⟩) n n]) (hob : Cells wx ob 3 (nums (List.replicate n 0))) (heb : Cells wx eb 4 (bools (List.replicate n false)))
    (hh : HRep wx hb (.slice none 0 0) ab ([], List.replicate n 0)) (b1 : w.heap.size + 2 ≤ sb) (b2 : w.heap.size + 2 ≤ ob) (b3 : w.heap.size + 2 ≤ eb) (n1 : sb ≠ ob) (n2 : sb ≠ eb) (n3 : ob ≠ eb) (hf : ∀ k ∈ hfoot hb (.slice none 0 0) ab, w.heap.size + 2 ≤ k ∧ k ∉ [sb, ob, eb]) :
    Code.wp Tryz.prog (tailAt 4 runBody) (bodyPost Tryz.prog Tryz.f93 (RunPost C n N l u w)) ⟨#[s0, .int .i64 (u : Int), s2, .pointer (some ⟨w.heap.size, 0, none⟩), s4, .pointer (some ⟨(w.heap.size + 1), 0, none⟩), s6, .int .i64 (n : Int), .pointer (some ⟨sb, 0, none⟩), s9, s10, s11, s12, s13, s14, s15, s16, s17, s18, s19, s20, s21, s22, s23, s24, s25, s26, s27, s28, s29, s30, s31, s32, s33, s34, s35, s36, s37, s38, s39, s40, s41, s42, s43, s44, s45, s46, s47, s48, s49, s50, s51, s52, s53, s54, s55, s56, s57, s58, s59, s60, s61, s62, s63, s64, s65, s66, s67, s68, s69, s70, s71, s72, s73, s74, s75, s76], []⟩ wx := by
  have hn := ok.hn
  have OK := Lib.hid ok
  have SEE := Lib.hid see
  have HN := Lib.hid hN
  have HB0 := Lib.hid hb0
  have HX := Lib.hid hx1
  have HST := Lib.hid hst
  have HOB := Lib.hid hob
  have HEB := Lib.hid heb
  have HH := Lib.hid hh
  have HF := Lib.hid hf
  have NE := Lib.hid (And.intro n1 (And.intro n2 n3))
  have ls := hst.lt
  have lo := hob.lt
  have le := heb.lt
  clear ok see hN hb0 hx1 hst hob heb hh hf n1 n2 n3
  conv => arg 2; whnf
  apply wp_seq_k
  intro KK hK
  have HKK := Lib.hid hK
  clear hK
  go_wp2_with fail
  refine (stampNew_any n hn _).mono ?_
  rintro e w1 ⟨rfl, hs1, hbb1⟩
  have hst1 := HST.out.below hbb1 ls
  have z3 : w1.cell? ⟨sb, 4, none⟩ = some (.pointer none) := hst1.cell rfl
  have f3 := hst1.frozen 4
  have l1 := hst1.lt
  have HST1 := Lib.hid hst1
  have HS1 := Lib.hid hs1
  have HB1 := Lib.hid hbb1
  clear hst1 hs1 hbb1
  go_wp2_with fail
  refine HKK.out _ _ ?_
  change Code.wp _ (tailAt 5 runBody) _ _ _
  have hO : Only [sb] w1 (w1.setCell ⟨sb, 4, none⟩ (.pointer (some ⟨wx.heap.size + 1, 0, none⟩))) := (Only.refl _ w1).setCell (p := ⟨sb, 4, none⟩) (by simp) _
  obtain ⟨m1, m2, m3⟩ := NE.out
  have hfl := HH.out.lt
  have hm1 := HF.out
  refine run_lab (Z := ⟨sb, hb, ab, wx.heap.size + 1, wx.heap.size, ob, eb⟩) OK.out SEE.out HN.out hu (HB0.out.trans ((HB1.out.mono HB0.out.size).trans (hO.below (B := w.heap.size) (by have := HB0.out.size; have := HB1.out.size; omega) (fun e he => by simp at he; omega)))) ?_ ?_
  · exact (HX.out.below HB1.out HX.out.lt).kept hO (by simp; omega)
  · refine ⟨HST1.out.set 4 _, (HH.out.below HB1.out).kept hO (fun k hk hm => (hm1 k hk).2 (by simp at hm; simp [hm])), HS1.out.kept hO (by simp; omega) (by simp; omega), (HOB.out.below HB1.out lo).kept hO (by simp; omega), (HEB.out.below HB1.out le).kept hO (by simp; omega), by simp, by simp, by simp, by simp, ?_, fun k hk => (hm1 k hk).1, fun k hk hm => ?_, ?_⟩
    · intro k hk
      have := HB0.out.size
      have := HX.out.lt
      simp only [List.mem_cons, List.not_mem_nil, or_false] at hk
      omega
    · have h1 := (hm1 k hk).2
      have h2 := hfl k hk
      simp only [List.mem_cons, List.not_mem_nil, or_false] at hm h1
      omega
    · simp only [List.nodup_cons, List.mem_cons, List.not_mem_nil, or_false, not_or, List.nodup_nil, not_false_eq_true, and_true]
      refine ⟨⟨?_, ?_, ?_, ?_⟩, ⟨?_, ?_, ?_⟩, ⟨?_, ?_⟩, ?_⟩ <;> omega
set_option linter.unusedSimpArgs false in
set_option maxRecDepth 100000 in
set_option maxHeartbeats 8000000 in
theorem run_queue {s0 s2 s4 s6 s9 s10 s11 s12 s13 s14 s15 s16 s17 s18 s19 s20 s21 s22 s23 s24 s25 s26 s27 s28 s29 s30 s31 s32 s33 s34 s35 s36 s37 s38 s39 s40 s41 s42 s43 s44 s45 s46 s47 s48 s49 s50 s51 s52 s53 s54 s55 s56 s57 s58 s59 s60 s61 s62 s63 s64 s65 s66 s67 s68 s69 s70 s71 s72 s73 s74 s75 s76 : Value} {C : CA} {n N u sb ob eb : Nat} {l : List AF} {w wx : World} (ok : CsrOk n l) (see : CSee w C n l) (hN : l.length = N) (hu : u < n) (hb0 : Below w.heap.size w wx) (hx1 : Cells wx (w.heap.size + 1) 193 bndCells)
    (hst : Cells wx sb 198 [.slice C.fa (n + 1) C.fc, .slice C.ta N C.tc, .slice C.wa N C.wc, .pointer none, .pointer none, .slice (some ⟨ob, 0, none⟩) n n, .slice (some ⟨eb, 0, none⟩) n n]) (hob : Cells wx ob 3 (nums (List.replicate n 0))) (heb : Cells wx eb 4 (bools (List.replicate n false)))
    (b1 : w.heap.size + 2 ≤ sb) (b2 : w.heap.size + 2 ≤ ob) (b3 : w.heap.size + 2 ≤ eb) (n1 : sb ≠ ob) (n2 : sb ≠ eb) (n3 : ob ≠ eb) :
    Code.wp Tryz.prog (tailAt 3 runBody) (bodyPost Tryz.prog Tryz.f93 (RunPost C n N l u w)) ⟨#[s0, .int .i64 (u : Int), s2, .pointer (some ⟨w.heap.size, 0, none⟩), s4, .pointer (some ⟨(w.heap.size + 1), 0, none⟩), s6, .int .i64 (n : Int), .pointer (some ⟨sb, 0, none⟩), s9, s10, s11, s12, s13, s14, s15, s16, s17, s18, s19, s20, s21, s22, s23, s24, s25, s26, s27, s28, s29, s30, s31, s32, s33, s34, s35, s36, s37, s38, s39, s40, s41, s42, s43, s44, s45, s46, s47, s48, s49, s50, s51, s52, s53, s54, s55, s56, s57, s58, s59, s60, s61, s62, s63, s64, s65, s66, s67, s68, s69, s70, s71, s72, s73, s74, s75, s76], []⟩ wx := by
  have hn := ok.hn
  have OK := Lib.hid ok
  have SEE := Lib.hid see
  have HN := Lib.hid hN
  have HB0 := Lib.hid hb0
  have HX := Lib.hid hx1
  have HST := Lib.hid hst
  have HOB := Lib.hid hob
  have HEB := Lib.hid heb
  have NE := Lib.hid (And.intro n1 (And.intro n2 n3))
  have ls := hst.lt
  have lo := hob.lt
  have le := heb.lt
  clear ok see hN hb0 hx1 hst hob heb n1 n2 n3
  conv => arg 2; whnf
  apply wp_seq_k
  intro KK hK
  have HKK := Lib.hid hK
  clear hK
  go_wp2_with fail
  refine (new_any n hn _).mono ?_
  rintro e w1 ⟨rfl, hh1, hbb1⟩
  have hs1 := HST.out.below hbb1 ls
  have z3 : w1.cell? ⟨sb, 3, none⟩ = some (.pointer none) := hs1.cell rfl
  have f3 := hs1.frozen 3
  have l1 := hs1.lt
  have HS1 := Lib.hid hs1
  have HH1 := Lib.hid hh1
  have HB1 := Lib.hid hbb1
  clear hs1 hh1 hbb1
  go_wp2_with fail
  refine HKK.out _ _ ?_
  change Code.wp _ (tailAt 4 runBody) _ _ _
  have hO : Only [sb] w1 (w1.setCell ⟨sb, 3, none⟩ (.pointer (some ⟨wx.heap.size + 1, 0, none⟩))) := (Only.refl _ w1).setCell (p := ⟨sb, 3, none⟩) (by simp) _
  obtain ⟨m1, m2, m3⟩ := NE.out
  have hsz := HB0.out.size
  have hxl := HX.out.lt
  have hfo : ∀ k ∈ hfoot (wx.heap.size + 1) (.slice none 0 0) wx.heap.size, wx.heap.size ≤ k := by
    intro k hk
    simp only [hfoot, List.mem_cons, Value.ownBlock, Option.toList, List.not_mem_nil, or_false] at hk
    omega
  refine run_dist (hb := wx.heap.size + 1) (ab := wx.heap.size) OK.out SEE.out HN.out hu (HB0.out.trans ((HB1.out.mono HB0.out.size).trans (hO.below (B := w.heap.size) (by have := HB1.out.size; omega) (fun e he => by simp at he; omega)))) ((HX.out.below HB1.out HX.out.lt).kept hO (by simp; omega)) (HS1.out.set 3 _) ((HOB.out.below HB1.out lo).kept hO (by simp; omega)) ((HEB.out.below HB1.out le).kept hO (by simp; omega)) (HH1.out.kept hO (fun k hk hm => ?_)) b1 b2 b3 m1 m2 m3 (fun k hk => ?_)
  · have := hfo k hk
    simp only [List.mem_cons, List.not_mem_nil, or_false] at hm
    omega
  · have := hfo k hk
    refine ⟨by omega, fun hm => ?_⟩
    simp only [List.mem_cons, List.not_mem_nil, or_false] at hm
    omega
theorem snodes_any (C : CA) (n m : Nat) (w : World) (hn : n ≤ 65536) : Calls Tryz.prog 113 #[csrVal C n m] w fun e w' => e = .returned (.int .i64 (n : Int)) ∧ Below w.heap.size w w' := by
  unfold csrVal
  obtain ⟨k, hk⟩ : ∃ k, n + 1 = k := ⟨_, rfl⟩
  have hki : (k : Int) - 1 = (n : Int) := by omega
  have cn := IntWalk.i64_in (n : Int) (by omega)
  rw [hk]
  have hb := (Below.refl w.heap.size w).alloc (Nat.le_refl _) (.cells #[.slice C.fa k C.fc, .slice C.ta m C.tc, .slice C.wa m C.wc] 145)
  have HB := Lib.hid hb
  clear hk hb
  go_enter Tryz.func113, Tryz.ntmps113
  go_wp2_with fail
  go_ret
  exact ⟨rfl, HB.out⟩
theorem Tryz.infoBoolR : (Tryz.prog.info? 4).map (fun i => (i.zero, i.size, i.bytes)) = some (some (.bool false), 1, 1) := by kernel_rfl
theorem bools_rep (n : Nat) : madeCells (Value.bool false).cells (n * 1) = (bools (List.replicate n false)).toArray := by
  have e : bools (List.replicate n false) = (List.replicate n ()).flatMap fun _ => [Value.bool false] := by
    induction n with
    | zero => rfl
    | succ n ih => unfold bools at ih ⊢; rw [List.replicate_succ, List.map_cons, ih, List.replicate_succ, List.flatMap_cons]; rfl
  rw [e]
  exact madeCells_eq [Value.bool false] n (by simp)
set_option linter.unusedSimpArgs false in
set_option maxRecDepth 100000 in
set_option maxHeartbeats 8000000 in
theorem run_any (C : CA) (n N u : Nat) (l : List AF) (w : World) (ok : CsrOk n l) (see : CSee w C n l) (hN : l.length = N) (hu : u < n) :
    Calls Tryz.prog 93 #[csrVal C n N, .int .i64 (u : Int), .agg #[.int .i64 4611686018427387904, .int .i64 4611686018427387904, .int .u64 18446744073709551615]] w (RunPost C n N l u w) := by
  have hn := ok.hn
  have hmk := run_make_n (P := Tryz.prog) 28 3 (.int .i64 0) 1 8 Tryz.underlying28 Tryz.infoInt .i64 .i64 n (by omega) (by omega)
  rw [nums_rep] at hmk
  have hmb := run_make_n (P := Tryz.prog) 105 4 (.bool false) 1 1 Tryz.underlying105 Tryz.infoBoolR .i64 .i64 n (by omega) (by omega)
  rw [bools_rep] at hmb
  have OK := Lib.hid ok
  have SEE := Lib.hid see
  have HN := Lib.hid hN
  have HSN := Lib.hid (fun W => snodes_any C n N W hn)
  unfold csrVal at HSN
  have HB := Lib.hid (((Below.refl w.heap.size w).alloc (Nat.le_refl _) (.cells #[.slice C.fa (n + 1) C.fc, .slice C.ta N C.tc, .slice C.wa N C.wc] 145)).alloc (by simp) (.cells #[.int .i64 4611686018427387904, .int .i64 4611686018427387904, .int .u64 18446744073709551615] 193))
  have HX := Lib.hid ((Cells.new w 145 [.slice C.fa (n + 1) C.fc, .slice C.ta N C.tc, .slice C.wa N C.wc]).alloc (.cells #[.int .i64 4611686018427387904, .int .i64 4611686018427387904, .int .u64 18446744073709551615] 193))
  have HX1 := Lib.hid (cells_at (w := w.alloc (.cells #[.slice C.fa (n + 1) C.fc, .slice C.ta N C.tc, .slice C.wa N C.wc] 145)) (b := w.heap.size + 1) (by simp) 193 [.int .i64 4611686018427387904, .int .i64 4611686018427387904, .int .u64 18446744073709551615])
  clear ok see hN
  unfold csrVal
  go_enter Tryz.func93, Tryz.ntmps93
  apply wp_seq_k
  intro K0 hK
  have HK0 := Lib.hid hK
  clear hK
  go_wp2_with fail
  refine HK0.out _ _ ?_
  clear HK0
  apply wp_seq_k
  intro K1 hK
  have HK1 := Lib.hid hK
  clear hK
  go_wp2_with fail
  refine (HSN.out _).mono ?_
  rintro e w1 ⟨rfl, hb1⟩
  have hx := HX.out.below hb1 HX.out.lt
  have hx1 := HX1.out.below hb1 HX1.out.lt
  have x0 : w1.cell? ⟨w.heap.size, 0, none⟩ = some (.slice C.fa (n + 1) C.fc) := hx.cell rfl
  have x1 : w1.cell? ⟨w.heap.size, 1, none⟩ = some (.slice C.ta N C.tc) := hx.cell rfl
  have x2 : w1.cell? ⟨w.heap.size, 2, none⟩ = some (.slice C.wa N C.wc) := hx.cell rfl
  have l1 := hx1.lt
  have l0 := hx.lt
  have HXB := Lib.hid (And.intro hx1 (HB.out.trans (hb1.mono (by simp; omega))))
  clear hx hx1 hb1
  go_wp2_with fail
  refine HK1.out _ _ ?_
  clear HK1
  apply wp_seq_k
  intro KK hK
  have HKK := Lib.hid hK
  clear hK
  go_wp2_with fail
  go_region
  all_goals
    try dsimp only [Exit.then]
    refine HKK.out _ _ ?_
    change Code.wp _ (tailAt 3 runBody) _ _ _
    first
      | exact run_queue (sb := w1.heap.size + 1 + 1) (ob := (w1.heap.size + 1)) (eb := w1.heap.size) OK.out SEE.out HN.out hu ((((HXB.out.2.alloc (by omega) (.cells (bools (List.replicate n false)).toArray 4)).alloc (by simp; omega) (.cells (nums (List.replicate n 0)).toArray 3)).alloc (by simp; omega) (.cells ([.slice C.fa (n + 1) C.fc, .slice C.ta N C.tc, .slice C.wa N C.wc, .pointer none, .pointer none, .slice (some ⟨(w1.heap.size + 1), 0, none⟩) n n, .slice (some ⟨w1.heap.size, 0, none⟩) n n] : List Value).toArray 198)).drew) ((((HXB.out.1.alloc (.cells (bools (List.replicate n false)).toArray 4)).alloc (.cells (nums (List.replicate n 0)).toArray 3)).alloc (.cells ([.slice C.fa (n + 1) C.fc, .slice C.ta N C.tc, .slice C.wa N C.wc, .pointer none, .pointer none, .slice (some ⟨(w1.heap.size + 1), 0, none⟩) n n, .slice (some ⟨w1.heap.size, 0, none⟩) n n] : List Value).toArray 198)).drew) ((cells_at (w := (w1.alloc (.cells (bools (List.replicate n false)).toArray 4)).alloc (.cells (nums (List.replicate n 0)).toArray 3)) (b := w1.heap.size + 1 + 1) (by simp) 198 [.slice C.fa (n + 1) C.fc, .slice C.ta N C.tc, .slice C.wa N C.wc, .pointer none, .pointer none, .slice (some ⟨(w1.heap.size + 1), 0, none⟩) n n, .slice (some ⟨w1.heap.size, 0, none⟩) n n]).drew) (((cells_at (w := w1.alloc (.cells (bools (List.replicate n false)).toArray 4)) (b := w1.heap.size + 1) (by simp) 3 (nums (List.replicate n 0))).alloc (.cells ([.slice C.fa (n + 1) C.fc, .slice C.ta N C.tc, .slice C.wa N C.wc, .pointer none, .pointer none, .slice (some ⟨(w1.heap.size + 1), 0, none⟩) n n, .slice (some ⟨w1.heap.size, 0, none⟩) n n] : List Value).toArray 198)).drew) ((((Cells.new w1 4 (bools (List.replicate n false))).alloc (.cells (nums (List.replicate n 0)).toArray 3)).alloc (.cells ([.slice C.fa (n + 1) C.fc, .slice C.ta N C.tc, .slice C.wa N C.wc, .pointer none, .pointer none, .slice (some ⟨(w1.heap.size + 1), 0, none⟩) n n, .slice (some ⟨w1.heap.size, 0, none⟩) n n] : List Value).toArray 198)).drew) (by omega) (by omega) (by omega) (by omega) (by omega) (by omega)
      | exact run_queue (sb := w1.heap.size + 1 + 1) (ob := w1.heap.size) (eb := (w1.heap.size + 1)) OK.out SEE.out HN.out hu ((((HXB.out.2.alloc (by omega) (.cells (nums (List.replicate n 0)).toArray 3)).alloc (by simp; omega) (.cells (bools (List.replicate n false)).toArray 4)).alloc (by simp; omega) (.cells ([.slice C.fa (n + 1) C.fc, .slice C.ta N C.tc, .slice C.wa N C.wc, .pointer none, .pointer none, .slice (some ⟨w1.heap.size, 0, none⟩) n n, .slice (some ⟨(w1.heap.size + 1), 0, none⟩) n n] : List Value).toArray 198)).drew) ((((HXB.out.1.alloc (.cells (nums (List.replicate n 0)).toArray 3)).alloc (.cells (bools (List.replicate n false)).toArray 4)).alloc (.cells ([.slice C.fa (n + 1) C.fc, .slice C.ta N C.tc, .slice C.wa N C.wc, .pointer none, .pointer none, .slice (some ⟨w1.heap.size, 0, none⟩) n n, .slice (some ⟨(w1.heap.size + 1), 0, none⟩) n n] : List Value).toArray 198)).drew) ((cells_at (w := (w1.alloc (.cells (nums (List.replicate n 0)).toArray 3)).alloc (.cells (bools (List.replicate n false)).toArray 4)) (b := w1.heap.size + 1 + 1) (by simp) 198 [.slice C.fa (n + 1) C.fc, .slice C.ta N C.tc, .slice C.wa N C.wc, .pointer none, .pointer none, .slice (some ⟨w1.heap.size, 0, none⟩) n n, .slice (some ⟨(w1.heap.size + 1), 0, none⟩) n n]).drew) ((((Cells.new w1 3 (nums (List.replicate n 0))).alloc (.cells (bools (List.replicate n false)).toArray 4)).alloc (.cells ([.slice C.fa (n + 1) C.fc, .slice C.ta N C.tc, .slice C.wa N C.wc, .pointer none, .pointer none, .slice (some ⟨w1.heap.size, 0, none⟩) n n, .slice (some ⟨(w1.heap.size + 1), 0, none⟩) n n] : List Value).toArray 198)).drew) (((cells_at (w := w1.alloc (.cells (nums (List.replicate n 0)).toArray 3)) (b := w1.heap.size + 1) (by simp) 4 (bools (List.replicate n false))).alloc (.cells ([.slice C.fa (n + 1) C.fc, .slice C.ta N C.tc, .slice C.wa N C.wc, .pointer none, .pointer none, .slice (some ⟨w1.heap.size, 0, none⟩) n n, .slice (some ⟨(w1.heap.size + 1), 0, none⟩) n n] : List Value).toArray 198)).drew) (by omega) (by omega) (by omega) (by omega) (by omega) (by omega)
theorem Nats.set {B : Nat} {w : World} {g cap N : Nat} {l : List Nat} (h : Nats B w (.slice (some ⟨g, 0, none⟩) N cap) l) (i x : Nat) : Nats B (w.setCell ⟨g, i, none⟩ (.int .i64 (x : Int))) (.slice (some ⟨g, 0, none⟩) N cap) (l.set i x) := by
  obtain rfl := h.see.2
  have o1 := (h.own.stored i (.int .i64 (x : Int))).1
  rw [← nums_flat, nums_set, nums_flat] at o1
  exact ⟨by rw [List.length_set]; exact o1, h.new⟩
theorem Nats.cellIn {B : Nat} {w : World} {g cap N : Nat} {l : List Nat} (h : Nats B w (.slice (some ⟨g, 0, none⟩) N cap) l) {i x : Nat} (hx : l[i]? = some x) : w.cell? ⟨g, i, none⟩ = some (.int .i64 (x : Int)) := by
  obtain rfl := h.see.2
  have hi := (List.getElem?_eq_some_iff.1 hx).1
  have hl : (l.flatMap i64Cells).length = l.length := by rw [← nums_flat]; simp [nums]
  have := h.own.cellAt i (by omega)
  rw [← nums_flat, nums_get hx] at this
  exact this
theorem Nats.frz {B : Nat} {w : World} {g cap N : Nat} {l : List Nat} (h : Nats B w (.slice (some ⟨g, 0, none⟩) N cap) l) (i : Nat) : w.frozen? ⟨g, i, none⟩ = false := by
  obtain rfl := h.see.2
  exact h.own.frozenAt i
structure RevTo (l m : List Nat) (k : Nat) : Prop where
  len : m.length = l.length
  get : ∀ t : Nat, t < l.length → m[t]? = if t < k ∨ l.length ≤ t + k then l[l.length - 1 - t]? else l[t]?
theorem RevTo.start (l : List Nat) : RevTo l l 0 := ⟨rfl, fun t ht => by rw [if_neg (by omega)]⟩
theorem RevTo.step {l m : List Nat} {k j x y : Nat} (h : RevTo l m k) (hj : k + j + 1 = l.length) (hk : k < j) (hx : m[k]? = some x) (hy : m[j]? = some y) : RevTo l ((m.set k y).set j x) (k + 1) := by
  have hx' := h.get k (by omega)
  have hy' := h.get j (by omega)
  rw [if_neg (by omega), hx] at hx'
  rw [if_neg (by omega), hy] at hy'
  refine ⟨by rw [List.length_set, List.length_set]; exact h.len, fun t ht => ?_⟩
  have hl := h.len
  rw [List.getElem?_set, List.getElem?_set, List.length_set]
  by_cases e1 : j = t
  · subst e1
    rw [if_pos rfl, if_pos (by omega), if_pos (by omega), show l.length - 1 - j = k by omega]
    exact hx'
  · rw [if_neg e1]
    by_cases e2 : k = t
    · subst e2
      rw [if_pos rfl, if_pos (by omega), if_pos (by omega), show l.length - 1 - k = j by omega]
      exact hy'
    · rw [if_neg e2, h.get t ht]
      by_cases e3 : t < k ∨ l.length ≤ t + k
      · rw [if_pos e3, if_pos (by omega)]
      · rw [if_neg e3, if_neg (by omega)]
theorem RevTo.done {l m : List Nat} {k j : Nat} (h : RevTo l m k) (hj : k + j + 1 = l.length) (hk : ¬ k < j) : m = l.reverse := by
  apply List.ext_getElem?
  intro t
  by_cases ht : t < l.length
  · rw [h.get t ht, List.getElem?_reverse ht]
    split
    · rfl
    · rw [show l.length - 1 - t = t by omega]
  · rw [List.getElem?_eq_none (by have := h.len; omega), List.getElem?_eq_none (by simpa using ht)]
set_option linter.unusedSimpArgs false in
set_option maxRecDepth 100000 in
set_option maxHeartbeats 8000000 in
theorem reverse_any (B : Nat) (w : World) (v : Value) (l : List Nat) (h : Nats B w v l) (hl : l.length ≤ 1048576) :
    Calls Tryz.prog 96 #[v] w fun e w' => e = .returned (.tuple #[]) ∧ Nats B w' v l.reverse ∧ Only v.ownBlock.toList w w' := by
  by_cases h0 : l.length = 0
  · obtain ⟨ao, cap, rfl⟩ := h.form
    have he : l = [] := List.length_eq_zero_iff.1 h0
    subst he
    have H := Lib.hid h
    clear h h0 hl
    go_enter Tryz.func96, Tryz.ntmps96
    go_wp2_with fail
    refine wp_loop_rounds 1 ?_
    rw [rounds_succ]
    go_wp2_with fail
    go_returns
    exact ⟨rfl, H.out, Only.refl _ _⟩
  · obtain ⟨g, cap, rfl, hg1, hg2, -⟩ := h.block (by omega)
    obtain ⟨N, hN⟩ : ∃ N, l.length = N := ⟨_, rfl⟩
    obtain ⟨j0, hj0⟩ : ∃ j, j + 1 = N := ⟨N - 1, by omega⟩
    have hji : (N : Int) - 1 = (j0 : Int) := by omega
    have cj := IntWalk.i64_in (j0 : Int) (by omega)
    rw [hN] at h hl ⊢
    have HN := Lib.hid hN
    have H := Lib.hid h
    have HJ := Lib.hid hj0
    have hNb : N ≤ 1048576 := hl
    clear h hN h0 hl hj0
    go_enter Tryz.func96, Tryz.ntmps96
    go_wp2_with fail
    clear hji cj
    go_loopg [2, 3] j0 (fun gg vi vj wr => ∃ (k j : Nat) (m : List Nat), vi = .int .i64 k ∧ vj = .int .i64 j ∧ gg = j0 - k ∧ k + j + 1 = N ∧ RevTo l m k ∧ Nats B wr (.slice (some ⟨g, 0, none⟩) N cap) m ∧ Only [g] w wr)
    case atStart => exact ⟨0, j0, l, rfl, rfl, rfl, by have := HJ.out; omega, RevTo.start l, H.out, Only.refl _ _⟩
    case round =>
      obtain ⟨k, j, m, rfl, rfl, hgm, hkj, hrv, hm, ho⟩ := hrel
      have HG := Lib.hid (And.intro hgm hkj)
      have HR := Lib.hid hrv
      have HM := Lib.hid hm
      have HO := Lib.hid ho
      have hml : m.length = N := by rw [hrv.len, HN.out]
      by_cases hlt : k < j
      · obtain ⟨x, hx⟩ : ∃ x, m[k]? = some x := ⟨_, List.getElem?_eq_getElem (by omega)⟩
        obtain ⟨y, hy⟩ : ∃ y, m[j]? = some y := ⟨_, List.getElem?_eq_getElem (by omega)⟩
        have cx := hm.cellIn hx
        have cy := hm.cellIn hy
        have fx := hm.frz k
        have fy := hm.frz j
        obtain ⟨j1, hj1⟩ : ∃ j1, j1 + 1 = j := ⟨j - 1, by omega⟩
        have hji : (j : Int) - 1 = (j1 : Int) := by omega
        have cj := IntWalk.i64_in (j1 : Int) (by omega)
        have ck1 := IntWalk.i64_in ((k : Int) + 1) (by omega)
        have lg := block_lt cx
        have hkN : k < N := by omega
        have hjN : j < N := by omega
        have hne : k ≠ j := by omega
        have hne2 : j ≠ k := by omega
        have HX := Lib.hid (And.intro hx (And.intro hy hj1))
        clear hgm hkj hrv hm ho hml hx hy hj1
        go_wp2_with fail
        go_region
        all_goals
          try dsimp only [Exit.then]
          go_wp2_with fail
          go_roundg (j0 - (k + 1))
          case measure => rw [HG.out.1]; have := HG.out.2; have := HJ.out; omega
          case rel =>
            refine ⟨k + 1, j1, (m.set k y).set j x, by go_num, rfl, rfl, by have := HG.out.2; have := HX.out.2.2; omega, HR.out.step (by rw [HN.out]; exact HG.out.2) hlt HX.out.1 HX.out.2.1, ?_, ?_⟩
            · exact ((HM.out.set k y).set j x).below (Below.refl _ _).drew
            · exact ((HO.out.setCell (p := ⟨g, k, none⟩) (by simp) _).setCell (p := ⟨g, j, none⟩) (by simp) _).drew
      · clear hgm hkj hrv hm ho hml
        go_wp2_with fail
        go_returns
        have he := HR.out.done (by rw [HN.out]; exact HG.out.2) hlt
        rw [← he]
        exact ⟨rfl, HM.out, HO.out⟩
end Go.Proofs.YtchhbgckonpedaaGreatDoor
