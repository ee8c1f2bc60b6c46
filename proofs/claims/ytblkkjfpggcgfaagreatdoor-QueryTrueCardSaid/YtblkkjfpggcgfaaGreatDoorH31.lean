/- search: state.settle: a node's arcs are looked at. -/
import Derived.Test.YtblkkjfpggcgfaaGreatDoorH30
import Derived.Test.YtblkkjfpggcgfaaGreatDoorH18
namespace Go.Proofs.YtblkkjfpggcgfaaGreatDoor
open Go.ChangeShapes Go.WideShapes Go.ChangeAt Go.RowKit Go.Joins Go.Deep
def StOk (B : Nat) (C : CA) (n : Nat) (l : List AF) (u : Nat) (Z : SB) (P : Nat → Nat × Nat → Prop) (c : Nat) (S : List Bool) (Q : (Nat → Option Int) → (Nat → Option Int) → Prop) (w : World) : Prop :=
  ∃ (iv : Value) (hs : HS) (ds : List (Option Int)) (H : List Nat) (m D : Nat → Option Int), StRep w B C n l.length Z iv hs ds H S ∧ SData n l u P c hs ds H S m D ∧ Q D m
def RowI (B : Nat) (C : CA) (n N : Nat) (l : List AF) (u : Nat) (Z : SB) (v : Nat) (d : Int) (hp c : Nat) (S : List Bool) (j : Nat) (w wr : World) : Prop :=
  ∃ (iv : Value) (hs : HS) (ds : List (Option Int)) (H : List Nat) (m D : Nat → Option Int), StRep wr B C n N Z iv hs ds H S ∧ SData n l u (Seen l v j) (c + 1) hs ds H S m D ∧ SNow v d D m ∧ H[v]? = some hp ∧ Below B w wr
set_option linter.unusedSimpArgs false in
set_option maxRecDepth 100000 in
set_option maxHeartbeats 8000000 in
theorem settle_any (B : Nat) (C : CA) (n : Nat) (l : List AF) (u : Nat) (Z : SB) (c : Nat) (S : List Bool) (v : Nat) (d : Int) (w0 w : World) (ok : CsrOk n l) (see : CSee w0 C n l) (hb : Below w0.heap.size w0 w) (h0 : w0.heap.size ≤ B) (hB : B ≤ w.heap.size) (hv : v < n) (hc : c ≤ 65536) (hS : S[v]? = some false)
    (h : ∃ (iv : Value) (hs : HS) (ds : List (Option Int)) (H : List Nat) (m D : Nat → Option Int), StRep w B C n l.length Z iv hs ds H S ∧ SData n l u (fun a _ => a ≠ v) c hs ds H (S.set v true) m D ∧ SNow v d D m) :
    Calls Tryz.prog 56 #[.pointer (some ⟨Z.sb, 0, none⟩), .int .i64 (v : Int), .int .u64 d, .int .i64 4611686018427387904] w fun e w' => e = .returned (.tuple #[]) ∧ StOk B C n l u Z (fun _ _ => True) (c + 1) (S.set v true) (fun _ _ => True) w' ∧ Below B w w' := by
  obtain ⟨iv, hs, ds, H, m, D, hr, hd, hw⟩ := h
  obtain ⟨N, hN⟩ : ∃ N, l.length = N := ⟨_, rfl⟩
  have hn := ok.hn
  have hNb : N ≤ 262144 := by rw [← hN]; exact ok.len
  rw [hN] at hr
  obtain ⟨hp, hhp⟩ : ∃ hp, H[v]? = some hp := ⟨_, List.getElem?_eq_getElem (by rw [hr.lo]; exact hv)⟩
  have hpc : hp ≤ c := hd.h _ (List.mem_of_getElem? hhp)
  obtain ⟨p, hp1⟩ : ∃ p, n + 1 = p := ⟨_, rfl⟩
  obtain ⟨f, hf⟩ : ∃ f, cntLt l v = f := ⟨_, rfl⟩
  obtain ⟨g, hg⟩ : ∃ g, cntLt l (v + 1) = g := ⟨_, rfl⟩
  obtain ⟨bf, of, ef, cf⟩ := see.f.int (firstL_get l n v (by omega))
  obtain ⟨bf', of', ef', cg⟩ := see.f.int (firstL_get l n (v + 1) (by omega))
  rw [ef] at ef'
  simp only [Option.some.injEq, Addr.mk.injEq, and_true] at ef'
  obtain ⟨rfl, rfl⟩ := ef'
  rw [hf] at cf
  rw [hg] at cg
  have hgN : g ≤ N := by rw [← hg, ← hN]; exact cntLt_le _ _
  have hfg : f ≤ g := by rw [← hf, ← hg]; exact cntLt_mono _ (by omega)
  have dlo : 0 ≤ d ∧ d ≤ 65535 * 140737488355328 := hd.i.big hn hw.d
  have HCF := Lib.hid (And.intro cf cg)
  have hse := hr.se.set v (.bool true)
  rw [bools_set] at hse
  have hr1 := hr.sett ((Only.refl [Z.eb] w).setCell (p := ⟨Z.eb, v, none⟩) (.inl (by simp)) (.bool true)) hse (by rw [List.length_set]; exact hr.ls)
  have hb1 : Below B w (w.setCell ⟨Z.eb, v, none⟩ (.bool true)) := (Below.refl B w).setCell (p := ⟨Z.eb, v, none⟩) (hr.new Z.eb (by simp)) (.bool true)
  have z6 : w.cell? ⟨Z.sb, 6, none⟩ = some (.slice (some ⟨Z.eb, 0, none⟩) n n) := hr.st.cell rfl
  have z6b : w.cell? ⟨Z.eb, v, none⟩ = some (.bool false) := hr.se.cell (bools_get hS)
  have f6 := hr.se.frozen v
  have y5 : (w.setCell ⟨Z.eb, v, none⟩ (.bool true)).cell? ⟨Z.sb, 5, none⟩ = some (.slice (some ⟨Z.ob, 0, none⟩) n n) := hr1.st.cell rfl
  have y0 : (w.setCell ⟨Z.eb, v, none⟩ (.bool true)).cell? ⟨Z.sb, 0, none⟩ = some (.slice C.fa (n + 1) C.fc) := hr1.st.cell rfl
  have y5b : (w.setCell ⟨Z.eb, v, none⟩ (.bool true)).cell? ⟨Z.ob, v, none⟩ = some (.int .i64 (hp : Int)) := hr1.ho.cell (nums_get hhp)
  have cf1 := ck (hb.trans (hb1.mono h0)) cf
  rw [ef, hp1] at y0
  have n1 : Z.sb ≠ Z.eb := hr.ne.1.2.2.2
  have n2 : Z.eb ≠ Z.sb := n1.symm
  have q1 : decide ((4611686018427387904 : Int) ≤ (hp : Int)) = false := by simp; omega
  have q2 : decide (4611686018427387904 ≤ hp) = false := by simp; omega
  have hvp : v < p := by omega
  have HHP := Lib.hid (And.intro hhp hpc)
  have HR1 := Lib.hid hr1
  have HD := Lib.hid (And.intro (hd.row_start.more (Nat.le_succ c)) hw)
  have HB1 := Lib.hid hb1
  have HB := Lib.hid hb
  have SEE := Lib.hid see
  have OK := Lib.hid ok
  have HG := Lib.hid (And.intro hN (And.intro hp1 (And.intro hf hg)))
  have HEF := Lib.hid ef
  obtain ⟨W1, hW1⟩ : ∃ W1, w.setCell ⟨Z.eb, v, none⟩ (.bool true) = W1 := ⟨_, rfl⟩
  rw [hW1] at y5 y0 y5b cf1
  clear see hb ok hr hd hw hhp hpc hp1 hf hg hN cf cg hse hr1 hb1 ef
  go_enter Tryz.func56, Tryz.ntmps56
  go_upto_region 1 with fail
  have HW1 := Lib.hid hW1
  clear hW1 z6 z6b f6 n1 n2
  go_wp2_with fail
  clear y5 y0 y5b cf1 q1 q2
  go_loopg [8, 9, 10, 11, 12] (g - f) (fun gg vi b1 b2 b3 b4 wr => ∃ j : Nat, vi = .int .i64 j ∧ f ≤ j ∧ j ≤ g ∧ gg = g - j ∧ RowI B C n N l u Z v d hp c (S.set v true) j w wr)
  case atStart => exact ⟨f, rfl, Nat.le_refl _, hfg, rfl, iv, hs, ds, H, m, D, by have := HR1.out; rwa [HW1.out] at this, by rw [← HG.out.2.2.1]; exact HD.out.1, HD.out.2, HHP.out.1, by have := HB1.out; rwa [HW1.out] at this⟩
  case round =>
    obtain ⟨j, rfl, hj1, hj2, hgm, iv2, hs2, ds2, H2, m2, D2, hr, hd, hw, hhp, hbl⟩ := hrel
    have z0 : wr.cell? ⟨Z.sb, 0, none⟩ = some (.slice C.fa (n + 1) C.fc) := hr.st.cell rfl
    have z1 : wr.cell? ⟨Z.sb, 1, none⟩ = some (.slice C.ta N C.tc) := hr.st.cell rfl
    have z2 : wr.cell? ⟨Z.sb, 2, none⟩ = some (.slice C.wa N C.wc) := hr.st.cell rfl
    have z4 : wr.cell? ⟨Z.sb, 4, none⟩ = some (.pointer (some ⟨Z.tb, 0, none⟩)) := hr.st.cell rfl
    rw [HEF.out, HG.out.2.1] at z0
    have HBW := Lib.hid (HB.out.trans (hbl.mono h0))
    have cg1 := ck HBW.out HCF.out.2
    have HGM := Lib.hid hgm
    have HR := Lib.hid hr
    have HD2 := Lib.hid (And.intro hd hw)
    have HHP2 := Lib.hid hhp
    have HBL := Lib.hid hbl
    have hvi : (v : Int) + 1 = ((v + 1 : Nat) : Int) := by omega
    obtain ⟨v1, hv1⟩ : ∃ v1, v + 1 = v1 := ⟨_, rfl⟩
    have hvp1 : v1 < p := by have := HG.out.2.1; omega
    rw [hv1] at hvi cg1
    have cv1 := IntWalk.i64_in (v1 : Int) (by omega)
    have lf := block_lt cg1
    clear hr hd hw hhp hbl hgm HR1 HD HB1 hv1
    by_cases hjg : j < g
    · obtain ⟨x, hx⟩ : ∃ x, l[j]? = some x := ⟨_, List.getElem?_eq_getElem (by rw [HG.out.1]; omega)⟩
      have hbf := OK.out.byFrom
      have hxv : x.1.val = v := (row_iff hbf hx v).2 (by rw [HG.out.2.2.1, HG.out.2.2.2]; exact ⟨hj1, hjg⟩)
      obtain ⟨q, hq⟩ : ∃ q, x.2.1.val = q := ⟨_, rfl⟩
      obtain ⟨cw, hcw⟩ : ∃ cw, x.2.2.val = cw := ⟨_, rfl⟩
      obtain ⟨bt, ot, et, ct⟩ := SEE.out.t.int (toL_get hx)
      obtain ⟨bw, ow, ew, cww⟩ := SEE.out.u.int (wtL_get hx)
      have ct1 := ck HBW.out ct
      have cw1 := ck HBW.out cww
      rw [hq] at ct1
      rw [hcw] at cw1
      rw [et] at z1
      rw [ew] at z2
      have hqn : q < n := by rw [← hq]; exact (OK.out.clean.inG x (List.mem_of_getElem? hx)).2
      have hqv : q ≠ v := by rw [← hq, ← hxv]; exact (OK.out.clean.ne x (List.mem_of_getElem? hx)).symm
      have hcb : cw ≤ 2147483647 := by rw [← hcw]; have := x.2.2.isLt; omega
      have hjN : j < N := by omega
      have u1 : IntKind.u64.wrap (cw : Int) = (cw : Int) := IntWalk.u64_in _ (by omega)
      have u2 : IntKind.u64.wrap (d + (cw : Int)) = d + (cw : Int) := IntWalk.u64_in _ (by omega)
      have lt1 := block_lt ct1
      have lw1 := block_lt cw1
      have HXQ := Lib.hid (And.intro hx (And.intro hxv (And.intro hq (And.intro hcw hbf))))
      have HQV := Lib.hid hqv
      obtain ⟨y, hy⟩ : ∃ y, ds2[q]? = some y := ⟨_, List.getElem?_eq_getElem (by rw [HR.out.ld]; exact hqn)⟩
      have HY := Lib.hid hy
      clear hx hxv hq hcw ct cww et ew hbf hqv hy
      go_wp2_with fail
      go_quiet (fail)
      go_wp2_with fail
      obtain ⟨wz, hwz⟩ : ∃ wz, wr.drewN nq = wz := ⟨_, rfl⟩
      have hbz : Below wr.heap.size wr wz := by rw [← hwz]; exact below_drewN (Below.refl _ _) nq
      rw [hwz]
      have HBZ := Lib.hid hbz
      clear hwz hbz z0 z1 z2 z4 cg1 ct1 cw1
      refine (stampGet_any q y _ (HR.out.below HBZ.out).sp HY.out).mono ?_
      rintro e w2 ⟨rfl, hb2⟩
      have hr2 := (HR.out.below HBZ.out).below hb2
      have z5 : w2.cell? ⟨Z.sb, 5, none⟩ = some (.slice (some ⟨Z.ob, 0, none⟩) n n) := hr2.st.cell rfl
      have z6 : w2.cell? ⟨Z.sb, 6, none⟩ = some (.slice (some ⟨Z.eb, 0, none⟩) n n) := hr2.st.cell rfl
      obtain ⟨sq, hsq⟩ : ∃ sq, (S.set v true)[q]? = some sq := ⟨_, List.getElem?_eq_getElem (by rw [hr2.ls]; exact hqn)⟩
      have z6b : w2.cell? ⟨Z.eb, q, none⟩ = some (.bool sq) := hr2.se.cell (bools_get hsq)
      have z5b : w2.cell? ⟨Z.ob, v, none⟩ = some (.int .i64 (hp : Int)) := hr2.ho.cell (nums_get HHP2.out)
      have hDq : D2 q = y := by
        rw [← HD2.out.1.d, List.getD_eq_getElem?_getD, HY.out]
        rfl
      have hbw := HBL.out.trans ((HBZ.out.trans (hb2.mono HBZ.out.size)).mono (Nat.le_trans hB HBL.out.size))
      have HR2 := Lib.hid hr2
      have HSQ := Lib.hid hsq
      have HDQ := Lib.hid hDq
      have HBW2 := Lib.hid hbw
      obtain ⟨h1, hh1⟩ : ∃ h1, hp + 1 = h1 := ⟨_, rfl⟩
      have hhi : (hp : Int) + 1 = (h1 : Int) := by omega
      have ch1 := IntWalk.i64_in (h1 : Int) (by have := HHP.out.2; omega)
      have HH1 := Lib.hid hh1
      have hsk : (¬ d + (cw : Int) < farOf y) → SData n l u (Seen l v (j + 1)) (c + 1) hs2 ds2 H2 (S.set v true) m2 D2 := fun hno =>
        HD2.out.1.skip hn HD2.out.2 HXQ.out.1 (by rw [HXQ.out.2.2.1, HXQ.out.2.2.2.1, hDq]; exact hno)
      have hrx : d + (cw : Int) < farOf y → (S.set v true)[q]? = some false → ∃ m' D', SData n l u (Seen l v (j + 1)) (c + 1) (setP hs2 q (d + (cw : Int))) (ds2.set q (some (d + (cw : Int)))) (H2.set q h1) (S.set v true) m' D' ∧ SNow v d D' m' := by
        intro hlt hs0
        obtain ⟨g1, g2, g3, g4⟩ := HG.out
        have := HD2.out.1.relax (hp := hp) hn HXQ.out.2.2.2.2 HD2.out.2 HXQ.out.1 (by rw [g3]; exact hj1) (by rw [g4]; exact hjg) (by rw [HXQ.out.2.2.1]; exact hqn) (by rw [HXQ.out.2.2.1, HXQ.out.2.2.2.1, hDq]; exact hlt) (by
          rw [HXQ.out.2.2.1]
          intro e he hm
          have := (HD2.out.1.s q false hs0).2 ⟨⟨e, he⟩, hm⟩
          cases this) HR.out.ld (by have := HHP.out.2; omega)
        rw [HXQ.out.2.2.1, HXQ.out.2.2.2.1, hh1] at this
        exact this
      have HSK := Lib.hid (And.intro hsk hrx)
      clear hb2 hr2 hsq hDq hbw hh1 hsk hrx
      cases sq with
      | true =>
        cases y with
        | none =>
          exfalso
          obtain ⟨⟨e, he⟩, -⟩ := (HD2.out.1.s q true HSQ.out).1 rfl
          rw [HDQ.out] at he
          cases he
        | some o =>
          have hle : o ≤ d := by
            obtain ⟨-, hm⟩ := (HD2.out.1.s q true HSQ.out).1 rfl
            exact HD2.out.2.top q o HDQ.out hm
          simp only [getVal]
          go_wp2_with fail
          go_roundg (g - (j + 1))
          case measure => rw [HGM.out]; omega
          case rel => exact ⟨j + 1, by go_num, by omega, by omega, rfl, iv2, hs2, ds2, H2, m2, D2, HR2.out, HSK.out.1 (by have hoo : farOf (some o) = o := rfl; rw [hoo]; omega), HD2.out.2, HHP2.out, HBW2.out⟩
      | false =>
        cases y with
        | none =>
          simp only [getVal]
          go_wp2_with fail
          refine (label_any B C n N Z iv2 hs2 ds2 H2 (S.set v true) q (d + (cw : Int)) h1 _ HR2.out HD2.out.1.o.good (Nat.le_trans hB HBW2.out.size) hqn).mono ?_
          rintro e w3 ⟨rfl, ⟨iv3, hr3⟩, hb3⟩
          obtain ⟨m3, D3, hd3, hw3⟩ := HSK.out.2 (by show d + (cw : Int) < 18446744073709551615; omega) HSQ.out
          have HH3 : H2.set q h1 = H2.set q h1 := rfl
          have HR3 := Lib.hid (And.intro hr3 (And.intro (HBW2.out.trans hb3) (And.intro hd3 hw3)))
          clear hr3 hb3 hd3 hw3 HH3 z5 z6 z6b z5b
          go_wp2_with fail
          go_roundg (g - (j + 1))
          case measure => rw [HGM.out]; omega
          case rel => exact ⟨j + 1, by go_num, by omega, by omega, rfl, iv3, _, _, _, m3, D3, HR3.out.1, HR3.out.2.2.1, HR3.out.2.2.2, by rw [List.getElem?_set_ne HQV.out]; exact HHP2.out, HR3.out.2.1⟩
        | some o =>
          by_cases hlt : d + (cw : Int) < o
          · simp only [getVal]
            have q1 : decide (d + (cw : Int) < o) = true := by simp; omega
            go_wp2_with fail
            refine (label_any B C n N Z iv2 hs2 ds2 H2 (S.set v true) q (d + (cw : Int)) h1 _ HR2.out HD2.out.1.o.good (Nat.le_trans hB HBW2.out.size) hqn).mono ?_
            rintro e w3 ⟨rfl, ⟨iv3, hr3⟩, hb3⟩
            obtain ⟨m3, D3, hd3, hw3⟩ := HSK.out.2 (hlt) HSQ.out
            have HH3 : H2.set q h1 = H2.set q h1 := rfl
            have HR3 := Lib.hid (And.intro hr3 (And.intro (HBW2.out.trans hb3) (And.intro hd3 hw3)))
            clear hr3 hb3 hd3 hw3 HH3 z5 z6 z6b z5b
            go_wp2_with fail
            go_roundg (g - (j + 1))
            case measure => rw [HGM.out]; omega
            case rel => exact ⟨j + 1, by go_num, by omega, by omega, rfl, iv3, _, _, _, m3, D3, HR3.out.1, HR3.out.2.2.1, HR3.out.2.2.2, by rw [List.getElem?_set_ne HQV.out]; exact HHP2.out, HR3.out.2.1⟩
          · simp only [getVal]
            have q1 : decide (d + (cw : Int) < o) = false := by simp; omega
            go_wp2_with fail
            go_roundg (g - (j + 1))
            case measure => rw [HGM.out]; omega
            case rel => exact ⟨j + 1, by go_num, by omega, by omega, rfl, iv2, hs2, ds2, H2, m2, D2, HR2.out, HSK.out.1 (hlt), HD2.out.2, HHP2.out, HBW2.out⟩
    · obtain rfl : j = g := by omega
      go_wp2_with fail
      go_returns
      obtain ⟨g1, g2, g3, g4⟩ := HG.out
      refine ⟨rfl, ⟨iv2, hs2, ds2, H2, m2, D2, by rw [g1]; exact HR.out, SData.row_end OK.out.byFrom (v := v) (by rw [g4]; exact HD2.out.1), trivial⟩, HBL.out⟩
noncomputable def runBody : Code := Tryz.f25.body.getD .skip
def bndCells : List Value := [.int .i64 4611686018427387904, .int .i64 4611686018427387904, .int .u64 18446744073709551615]
def RunPost (C : CA) (n N : Nat) (l : List AF) (u : Nat) (w : World) (e : Ending) (w' : World) : Prop :=
  ∃ (Z : SB) (iv : Value) (hs : HS) (ds : List (Option Int)) (H : List Nat) (S : List Bool) (D : Nat → Option Int), e = .returned (.pointer (some ⟨Z.sb, 0, none⟩)) ∧ StRep w' (w.heap.size + 2) C n N Z iv hs ds H S ∧ IsS (webC l) (-1) u D ∧
    (∀ x, ds.getD x none = D x) ∧ (∀ (x : Nat) (b : Bool), S[x]? = some b → (b = true ↔ ∃ e, D x = some e)) ∧ (∀ x d, D x = some d → 0 ≤ d ∧ d ≤ 65535 * 140737488355328) ∧ Below w.heap.size w w'
def RunI (B : Nat) (C : CA) (n : Nat) (l : List AF) (u : Nat) (Z : SB) (c : Nat) (wx wr : World) : Prop :=
  ∃ S : List Bool, S.countP id = c ∧ StOk B C n l u Z (fun _ _ => True) c S (fun _ _ => True) wr ∧ Below B wx wr
set_option linter.unusedSimpArgs false in
set_option maxRecDepth 100000 in
set_option maxHeartbeats 8000000 in
theorem run_loop {s0 s2 s4 s6 s9 s10 s11 s12 s13 s14 s15 s16 s17 s18 s19 s20 s21 s22 s23 s24 s25 s26 s27 s28 s29 s30 s31 s32 s33 s34 s35 s36 s37 s38 s39 s40 s41 s42 s43 s44 s45 s46 s47 s48 s49 s50 s51 s52 s53 s54 s55 s56 s57 s58 s59 s60 s61 s62 s63 s64 s65 s66 s67 s68 s69 s70 s71 s72 s73 s74 s75 s76 : Value} {C : CA} {n N u : Nat} {l : List AF} {Z : SB} {w wx : World} (ok : CsrOk n l) (see : CSee w C n l) (hN : l.length = N) (hb0 : Below w.heap.size w wx) (hx1 : Cells wx (w.heap.size + 1) 82 bndCells) (hi : RunI (w.heap.size + 2) C n l u Z 0 wx wx) :
    Code.wp Tryz.prog (tailAt 6 runBody) (bodyPost Tryz.prog Tryz.f25 (RunPost C n N l u w)) ⟨#[s0, .int .i64 (u : Int), s2, .pointer (some ⟨w.heap.size, 0, none⟩), s4, .pointer (some ⟨(w.heap.size + 1), 0, none⟩), s6, .int .i64 (n : Int), .pointer (some ⟨Z.sb, 0, none⟩), s9, s10, s11, s12, s13, s14, s15, s16, s17, s18, s19, s20, s21, s22, s23, s24, s25, s26, s27, s28, s29, s30, s31, s32, s33, s34, s35, s36, s37, s38, s39, s40, s41, s42, s43, s44, s45, s46, s47, s48, s49, s50, s51, s52, s53, s54, s55, s56, s57, s58, s59, s60, s61, s62, s63, s64, s65, s66, s67, s68, s69, s70, s71, s72, s73, s74, s75, s76], []⟩ wx := by
  have hn := ok.hn
  have OK := Lib.hid ok
  have SEE := Lib.hid see
  have HN := Lib.hid hN
  have HB0 := Lib.hid hb0
  have HX := Lib.hid hx1
  have HI := Lib.hid hi
  have hsz : w.heap.size + 2 ≤ wx.heap.size := by have := hx1.lt; omega
  clear ok see hN hb0 hx1 hi
  conv => arg 2; whnf
  apply wp_seq_k
  intro KK hK
  have HKK := Lib.hid hK
  clear hK
  go_wp2_with fail
  go_loopg [9, 10, 11, 12] n (fun g vc v1 v2 v3 wr => ∃ c : Nat, vc = .int .i64 c ∧ g = n - c ∧ RunI (w.heap.size + 2) C n l u Z c wx wr)
  case atStart => exact ⟨0, rfl, rfl, HI.out⟩
  case round =>
    obtain ⟨c, rfl, hg, S, hcS, ⟨iv, hs, ds, H, m, D, hr, hd, -⟩, hbl⟩ := hrel
    rw [HN.out] at hr
    have hcn : c ≤ n := by rw [← hcS, ← hr.ls]; exact List.countP_le_length
    have hx := HX.out.below hbl (by omega)
    have x0 : wr.cell? ⟨w.heap.size + 1, 0, none⟩ = some (.int .i64 4611686018427387904) := hx.cell rfl
    have x1 : wr.cell? ⟨w.heap.size + 1, 1, none⟩ = some (.int .i64 4611686018427387904) := hx.cell rfl
    have x2 : wr.cell? ⟨w.heap.size + 1, 2, none⟩ = some (.int .u64 18446744073709551615) := hx.cell rfl
    have z3 : wr.cell? ⟨Z.sb, 3, none⟩ = some (.pointer (some ⟨Z.hb, 0, none⟩)) := hr.st.cell rfl
    have q1 : decide ((c : Int) < 4611686018427387904) = true := by simp; omega
    have q2 : decide (c < 4611686018427387904) = true := by simp; omega
    have cc := IntWalk.i64_in ((c : Int) + 1) (by omega)
    have lx := hx.lt
    have HG := Lib.hid hg
    have HR := Lib.hid hr
    have HD := Lib.hid hd
    have HCS := Lib.hid hcS
    have HBL := Lib.hid hbl
    clear hg hr hd hcS hbl hx
    go_wp2_with fail
    refine (top_any _ HR.out.hp).mono ?_
    rintro e w1 ⟨rfl, hb1⟩
    have HR1 := Lib.hid (HR.out.below hb1)
    have HB1 := Lib.hid (HBL.out.trans (hb1.mono (by have := HBL.out.size; omega)))
    have lw1 : w.heap.size + 2 ≤ w1.heap.size := by have := HB1.out.size; omega
    clear hb1 x0 x1 x2 z3 q1 q2 lx
    cases ht : hs.1[0]? with
    | none =>
      have hemp : hs.1 = [] := by
        cases hh : hs.1 with
        | nil => rfl
        | cons a b => rw [hh] at ht; simp at ht
      have HE := Lib.hid (HD.out.done hemp)
      clear ht hemp
      dsimp only
      go_wp2_with fail
      refine HKK.out _ _ ?_
      go_wp2_with fail
      go_ret
      exact ⟨Z, iv, hs, ds, H, S, D, rfl, HR1.out, HE.out.1, HD.out.d, HE.out.2, fun x d hx => HD.out.i.big hn hx, HB0.out.trans (HB1.out.mono (by omega))⟩
    | some x =>
      obtain ⟨k, v⟩ := x
      obtain ⟨hd1, hw1, hvn, hSv⟩ := HD.out.pop ht (by rw [← HR.out.ls])
      have hk := HD.out.i.big hn hw1.d
      have z3 : w1.cell? ⟨Z.sb, 3, none⟩ = some (.pointer (some ⟨Z.hb, 0, none⟩)) := HR1.out.st.cell rfl
      have x0 : w1.cell? ⟨w.heap.size + 1, 0, none⟩ = some (.int .i64 4611686018427387904) := (HX.out.below HB1.out (by omega)).cell rfl
      have x2 : w1.cell? ⟨w.heap.size + 1, 2, none⟩ = some (.int .u64 18446744073709551615) := (HX.out.below HB1.out (by omega)).cell rfl
      have lx : w.heap.size + 1 < w1.heap.size := by omega
      have q3 : decide ((18446744073709551615 : Int) < k) = false := by simp; omega
      have cv := IntWalk.i64_in (v : Int) (by omega)
      have HD1 := Lib.hid (And.intro hd1 (And.intro hw1 hSv))
      have HT := Lib.hid ht
      clear hd1 hw1 hSv ht
      dsimp only
      go_wp2_with fail
      refine (pop_any _ HR1.out.hp HD.out.o.good).mono ?_
      rintro e w2 ⟨rfl, hx2⟩
      obtain ⟨⟨iv2, hr2⟩, hb2⟩ := HR1.out.heap lw1 hx2 HD1.out.1.o.len
      have HR2 := Lib.hid hr2
      have HB2 := Lib.hid (HB1.out.trans hb2)
      have y0 : w2.cell? ⟨w.heap.size + 1, 0, none⟩ = some (.int .i64 4611686018427387904) := (HX.out.below HB2.out (by omega)).cell rfl
      have ly : w.heap.size + 1 < w2.heap.size := by have := hb2.size; omega
      clear hx2 hr2 hb2 z3 x0 x2 lx q3
      go_wp2_with fail
      refine (settle_any (w.heap.size + 2) C n l u Z c S v k w _ OK.out SEE.out (HB0.out.trans (HB2.out.mono (by omega))) (by omega) (by omega) hvn (by omega) HD1.out.2.2 ⟨iv2, popP hs, ds, H, _, D, by rw [HN.out]; exact HR2.out, HD1.out.1, HD1.out.2.1⟩).mono ?_
      rintro e w3 ⟨rfl, hst, hb3⟩
      have HST := Lib.hid (And.intro hst (HB2.out.trans hb3))
      clear hst hb3 y0 ly
      go_wp2_with fail
      have hcm := count_mark HD1.out.2.2
      have hlt : c < n := by
        have h1 : (S.set v true).countP id ≤ (S.set v true).length := List.countP_le_length
        rw [hcm, HCS.out, List.length_set, HR.out.ls] at h1
        omega
      go_roundg (n - (c + 1))
      case measure => rw [HG.out]; omega
      case rel => exact ⟨c + 1, by go_num, rfl, S.set v true, by rw [hcm, HCS.out], HST.out.1, HST.out.2⟩
set_option linter.unusedSimpArgs false in
set_option maxRecDepth 100000 in
set_option maxHeartbeats 8000000 in
theorem run_lab {s0 s2 s4 s6 s9 s10 s11 s12 s13 s14 s15 s16 s17 s18 s19 s20 s21 s22 s23 s24 s25 s26 s27 s28 s29 s30 s31 s32 s33 s34 s35 s36 s37 s38 s39 s40 s41 s42 s43 s44 s45 s46 s47 s48 s49 s50 s51 s52 s53 s54 s55 s56 s57 s58 s59 s60 s61 s62 s63 s64 s65 s66 s67 s68 s69 s70 s71 s72 s73 s74 s75 s76 : Value} {C : CA} {n N u : Nat} {l : List AF} {Z : SB} {w wx : World} (ok : CsrOk n l) (see : CSee w C n l) (hN : l.length = N) (hu : u < n) (hb0 : Below w.heap.size w wx) (hx1 : Cells wx (w.heap.size + 1) 82 bndCells)
    (hi : StRep wx (w.heap.size + 2) C n N Z (.slice none 0 0) ([], List.replicate n 0) (List.replicate n none) (List.replicate n 0) (List.replicate n false)) :
    Code.wp Tryz.prog (tailAt 5 runBody) (bodyPost Tryz.prog Tryz.f25 (RunPost C n N l u w)) ⟨#[s0, .int .i64 (u : Int), s2, .pointer (some ⟨w.heap.size, 0, none⟩), s4, .pointer (some ⟨(w.heap.size + 1), 0, none⟩), s6, .int .i64 (n : Int), .pointer (some ⟨Z.sb, 0, none⟩), s9, s10, s11, s12, s13, s14, s15, s16, s17, s18, s19, s20, s21, s22, s23, s24, s25, s26, s27, s28, s29, s30, s31, s32, s33, s34, s35, s36, s37, s38, s39, s40, s41, s42, s43, s44, s45, s46, s47, s48, s49, s50, s51, s52, s53, s54, s55, s56, s57, s58, s59, s60, s61, s62, s63, s64, s65, s66, s67, s68, s69, s70, s71, s72, s73, s74, s75, s76], []⟩ wx := by
  have OK := Lib.hid ok
  have SEE := Lib.hid see
  have HN := Lib.hid hN
  have HB0 := Lib.hid hb0
  have HX := Lib.hid hx1
  have HI := Lib.hid hi
  have hsz : w.heap.size + 2 ≤ wx.heap.size := by have := hx1.lt; omega
  clear ok see hN hb0 hx1 hi
  conv => arg 2; whnf
  apply wp_seq_k
  intro KK hK
  have HKK := Lib.hid hK
  clear hK
  go_wp2_with fail
  refine (label_any (w.heap.size + 2) C n N Z (.slice none 0 0) ([], List.replicate n 0) (List.replicate n none) (List.replicate n 0) (List.replicate n false) u 0 0 _ HI.out (Holds.new n).good hsz hu).mono ?_
  rintro e w1 ⟨rfl, ⟨iv, hr⟩, hb⟩
  have HRI : RunI (w.heap.size + 2) C n l u Z 0 w1 w1 := ⟨List.replicate n false, by simp [List.countP_replicate], ⟨iv, _, _, _, _, _, by rw [HN.out]; exact hr, SData.start hu, trivial⟩, Below.refl _ _⟩
  have HB := Lib.hid (And.intro (HB0.out.trans (hb.mono (by omega))) (HX.out.below hb (by omega)))
  clear hr hb
  go_wp2_with fail
  refine HKK.out _ _ ?_
  change Code.wp _ (tailAt 6 runBody) _ _ _
  exact run_loop OK.out SEE.out HN.out HB.out.1 HB.out.2 HRI
set_option linter.unusedSimpArgs false in
set_option maxRecDepth 100000 in
set_option maxHeartbeats 8000000 in
theorem run_dist {s0 s2 s4 s6 s9 s10 s11 s12 s13 s14 s15 s16 s17 s18 s19 s20 s21 s22 s23 s24 s25 s26 s27 s28 s29 s30 s31 s32 s33 s34 s35 s36 s37 s38 s39 s40 s41 s42 s43 s44 s45 s46 s47 s48 s49 s50 s51 s52 s53 s54 s55 s56 s57 s58 s59 s60 s61 s62 s63 s64 s65 s66 s67 s68 s69 s70 s71 s72 s73 s74 s75 s76 : Value} {C : CA} {n N u sb ob eb hb ab : Nat} {l : List AF} {w wx : World} (ok : CsrOk n l) (see : CSee w C n l) (hN : l.length = N) (hu : u < n) (hb0 : Below w.heap.size w wx) (hx1 : Cells wx (w.heap.size + 1) 82 bndCells)
    (hst : Cells wx sb 127 [.slice C.fa (n + 1) C.fc, .slice C.ta N C.tc, .slice C.wa N C.wc, .pointer (some ⟨hb, 0, none⟩), .pointer none, .slice (some ⟨ob, 0, none⟩) n n, .slice (some ⟨eb, 0, none⟩) n n]) (hob : Cells wx ob 3 (nums (List.replicate n 0))) (heb : Cells wx eb 4 (bools (List.replicate n false)))
    (hh : HRep wx hb (.slice none 0 0) ab ([], List.replicate n 0)) (b1 : w.heap.size + 2 ≤ sb) (b2 : w.heap.size + 2 ≤ ob) (b3 : w.heap.size + 2 ≤ eb) (n1 : sb ≠ ob) (n2 : sb ≠ eb) (n3 : ob ≠ eb) (hf : ∀ k ∈ hfoot hb (.slice none 0 0) ab, w.heap.size + 2 ≤ k ∧ k ∉ [sb, ob, eb]) :
    Code.wp Tryz.prog (tailAt 4 runBody) (bodyPost Tryz.prog Tryz.f25 (RunPost C n N l u w)) ⟨#[s0, .int .i64 (u : Int), s2, .pointer (some ⟨w.heap.size, 0, none⟩), s4, .pointer (some ⟨(w.heap.size + 1), 0, none⟩), s6, .int .i64 (n : Int), .pointer (some ⟨sb, 0, none⟩), s9, s10, s11, s12, s13, s14, s15, s16, s17, s18, s19, s20, s21, s22, s23, s24, s25, s26, s27, s28, s29, s30, s31, s32, s33, s34, s35, s36, s37, s38, s39, s40, s41, s42, s43, s44, s45, s46, s47, s48, s49, s50, s51, s52, s53, s54, s55, s56, s57, s58, s59, s60, s61, s62, s63, s64, s65, s66, s67, s68, s69, s70, s71, s72, s73, s74, s75, s76], []⟩ wx := by
  have hn := ok.hn
  have OK := Lib.hid ok
  have SEE := Lib.hid see
  have HN := Lib.hid hN
  have HB0 := Lib.hid hb0
  have HX := Lib.hid hx1
  have HST := Lib.hid hst
  have HOB := Lib.hid hob
  have HEB := Lib.hid heb
  have HH := Lib.hid hh
  have HF := Lib.hid hf
  have NE := Lib.hid (And.intro n1 (And.intro n2 n3))
  have ls := hst.lt
  have lo := hob.lt
  have le := heb.lt
  clear ok see hN hb0 hx1 hst hob heb hh hf n1 n2 n3
  conv => arg 2; whnf
  apply wp_seq_k
  intro KK hK
  have HKK := Lib.hid hK
  clear hK
  go_wp2_with fail
  refine (stampNew_any n hn _).mono ?_
  rintro e w1 ⟨rfl, hs1, hbb1⟩
  have hst1 := HST.out.below hbb1 ls
  have z3 : w1.cell? ⟨sb, 4, none⟩ = some (.pointer none) := hst1.cell rfl
  have f3 := hst1.frozen 4
  have l1 := hst1.lt
  have HST1 := Lib.hid hst1
  have HS1 := Lib.hid hs1
  have HB1 := Lib.hid hbb1
  clear hst1 hs1 hbb1
  go_wp2_with fail
  refine HKK.out _ _ ?_
  change Code.wp _ (tailAt 5 runBody) _ _ _
  have hO : Only [sb] w1 (w1.setCell ⟨sb, 4, none⟩ (.pointer (some ⟨wx.heap.size + 1, 0, none⟩))) := (Only.refl _ w1).setCell (p := ⟨sb, 4, none⟩) (by simp) _
  obtain ⟨m1, m2, m3⟩ := NE.out
  have hfl := HH.out.lt
  have hm1 := HF.out
  refine run_lab (Z := ⟨sb, hb, ab, wx.heap.size + 1, wx.heap.size, ob, eb⟩) OK.out SEE.out HN.out hu (HB0.out.trans ((HB1.out.mono HB0.out.size).trans (hO.below (B := w.heap.size) (by have := HB0.out.size; have := HB1.out.size; omega) (fun e he => by simp at he; omega)))) ?_ ?_
  · exact (HX.out.below HB1.out HX.out.lt).kept hO (by simp; omega)
  · refine ⟨HST1.out.set 4 _, (HH.out.below HB1.out).kept hO (fun k hk hm => (hm1 k hk).2 (by simp at hm; simp [hm])), HS1.out.kept hO (by simp; omega) (by simp; omega), (HOB.out.below HB1.out lo).kept hO (by simp; omega), (HEB.out.below HB1.out le).kept hO (by simp; omega), by simp, by simp, by simp, by simp, ?_, fun k hk => (hm1 k hk).1, fun k hk hm => ?_, ?_⟩
    · intro k hk
      have := HB0.out.size
      have := HX.out.lt
      simp only [List.mem_cons, List.not_mem_nil, or_false] at hk
      omega
    · have h1 := (hm1 k hk).2
      have h2 := hfl k hk
      simp only [List.mem_cons, List.not_mem_nil, or_false] at hm h1
      omega
    · simp only [List.nodup_cons, List.mem_cons, List.not_mem_nil, or_false, not_or, List.nodup_nil, not_false_eq_true, and_true]
      refine ⟨⟨?_, ?_, ?_, ?_⟩, ⟨?_, ?_, ?_⟩, ⟨?_, ?_⟩, ?_⟩ <;> omega
set_option linter.unusedSimpArgs false in
set_option maxRecDepth 100000 in
set_option maxHeartbeats 8000000 in
theorem run_queue {s0 s2 s4 s6 s9 s10 s11 s12 s13 s14 s15 s16 s17 s18 s19 s20 s21 s22 s23 s24 s25 s26 s27 s28 s29 s30 s31 s32 s33 s34 s35 s36 s37 s38 s39 s40 s41 s42 s43 s44 s45 s46 s47 s48 s49 s50 s51 s52 s53 s54 s55 s56 s57 s58 s59 s60 s61 s62 s63 s64 s65 s66 s67 s68 s69 s70 s71 s72 s73 s74 s75 s76 : Value} {C : CA} {n N u sb ob eb : Nat} {l : List AF} {w wx : World} (ok : CsrOk n l) (see : CSee w C n l) (hN : l.length = N) (hu : u < n) (hb0 : Below w.heap.size w wx) (hx1 : Cells wx (w.heap.size + 1) 82 bndCells)
    (hst : Cells wx sb 127 [.slice C.fa (n + 1) C.fc, .slice C.ta N C.tc, .slice C.wa N C.wc, .pointer none, .pointer none, .slice (some ⟨ob, 0, none⟩) n n, .slice (some ⟨eb, 0, none⟩) n n]) (hob : Cells wx ob 3 (nums (List.replicate n 0))) (heb : Cells wx eb 4 (bools (List.replicate n false)))
    (b1 : w.heap.size + 2 ≤ sb) (b2 : w.heap.size + 2 ≤ ob) (b3 : w.heap.size + 2 ≤ eb) (n1 : sb ≠ ob) (n2 : sb ≠ eb) (n3 : ob ≠ eb) :
    Code.wp Tryz.prog (tailAt 3 runBody) (bodyPost Tryz.prog Tryz.f25 (RunPost C n N l u w)) ⟨#[s0, .int .i64 (u : Int), s2, .pointer (some ⟨w.heap.size, 0, none⟩), s4, .pointer (some ⟨(w.heap.size + 1), 0, none⟩), s6, .int .i64 (n : Int), .pointer (some ⟨sb, 0, none⟩), s9, s10, s11, s12, s13, s14, s15, s16, s17, s18, s19, s20, s21, s22, s23, s24, s25, s26, s27, s28, s29, s30, s31, s32, s33, s34, s35, s36, s37, s38, s39, s40, s41, s42, s43, s44, s45, s46, s47, s48, s49, s50, s51, s52, s53, s54, s55, s56, s57, s58, s59, s60, s61, s62, s63, s64, s65, s66, s67, s68, s69, s70, s71, s72, s73, s74, s75, s76], []⟩ wx := by
  have hn := ok.hn
  have OK := Lib.hid ok
  have SEE := Lib.hid see
  have HN := Lib.hid hN
  have HB0 := Lib.hid hb0
  have HX := Lib.hid hx1
  have HST := Lib.hid hst
  have HOB := Lib.hid hob
  have HEB := Lib.hid heb
  have NE := Lib.hid (And.intro n1 (And.intro n2 n3))
  have ls := hst.lt
  have lo := hob.lt
  have le := heb.lt
  clear ok see hN hb0 hx1 hst hob heb n1 n2 n3
  conv => arg 2; whnf
  apply wp_seq_k
  intro KK hK
  have HKK := Lib.hid hK
  clear hK
  go_wp2_with fail
  refine (new_any n hn _).mono ?_
  rintro e w1 ⟨rfl, hh1, hbb1⟩
  have hs1 := HST.out.below hbb1 ls
  have z3 : w1.cell? ⟨sb, 3, none⟩ = some (.pointer none) := hs1.cell rfl
  have f3 := hs1.frozen 3
  have l1 := hs1.lt
  have HS1 := Lib.hid hs1
  have HH1 := Lib.hid hh1
  have HB1 := Lib.hid hbb1
  clear hs1 hh1 hbb1
  go_wp2_with fail
  refine HKK.out _ _ ?_
  change Code.wp _ (tailAt 4 runBody) _ _ _
  have hO : Only [sb] w1 (w1.setCell ⟨sb, 3, none⟩ (.pointer (some ⟨wx.heap.size + 1, 0, none⟩))) := (Only.refl _ w1).setCell (p := ⟨sb, 3, none⟩) (by simp) _
  obtain ⟨m1, m2, m3⟩ := NE.out
  have hsz := HB0.out.size
  have hxl := HX.out.lt
  have hfo : ∀ k ∈ hfoot (wx.heap.size + 1) (.slice none 0 0) wx.heap.size, wx.heap.size ≤ k := by
    intro k hk
    simp only [hfoot, List.mem_cons, Value.ownBlock, Option.toList, List.not_mem_nil, or_false] at hk
    omega
  refine run_dist (hb := wx.heap.size + 1) (ab := wx.heap.size) OK.out SEE.out HN.out hu (HB0.out.trans ((HB1.out.mono HB0.out.size).trans (hO.below (B := w.heap.size) (by have := HB1.out.size; omega) (fun e he => by simp at he; omega)))) ((HX.out.below HB1.out HX.out.lt).kept hO (by simp; omega)) (HS1.out.set 3 _) ((HOB.out.below HB1.out lo).kept hO (by simp; omega)) ((HEB.out.below HB1.out le).kept hO (by simp; omega)) (HH1.out.kept hO (fun k hk hm => ?_)) b1 b2 b3 m1 m2 m3 (fun k hk => ?_)
  · have := hfo k hk
    simp only [List.mem_cons, List.not_mem_nil, or_false] at hm
    omega
  · have := hfo k hk
    refine ⟨by omega, fun hm => ?_⟩
    simp only [List.mem_cons, List.not_mem_nil, or_false] at hm
    omega
theorem snodes_any (C : CA) (n m : Nat) (w : World) (hn : n ≤ 65536) : Calls Tryz.prog 24 #[csrVal C n m] w fun e w' => e = .returned (.int .i64 (n : Int)) ∧ Below w.heap.size w w' := by
  unfold csrVal
  obtain ⟨k, hk⟩ : ∃ k, n + 1 = k := ⟨_, rfl⟩
  have hki : (k : Int) - 1 = (n : Int) := by omega
  have cn := IntWalk.i64_in (n : Int) (by omega)
  rw [hk]
  have hb := (Below.refl w.heap.size w).alloc (Nat.le_refl _) (.cells #[.slice C.fa k C.fc, .slice C.ta m C.tc, .slice C.wa m C.wc] 40)
  have HB := Lib.hid hb
  clear hk hb
  go_enter Tryz.func24, Tryz.ntmps24
  go_wp2_with fail
  go_ret
  exact ⟨rfl, HB.out⟩
theorem Tryz.infoBoolR : (Tryz.prog.info? 4).map (fun i => (i.zero, i.size, i.bytes)) = some (some (.bool false), 1, 1) := by kernel_rfl
theorem bools_rep (n : Nat) : madeCells (Value.bool false).cells (n * 1) = (bools (List.replicate n false)).toArray := by
  have e : bools (List.replicate n false) = (List.replicate n ()).flatMap fun _ => [Value.bool false] := by
    induction n with
    | zero => rfl
    | succ n ih => unfold bools at ih ⊢; rw [List.replicate_succ, List.map_cons, ih, List.replicate_succ, List.flatMap_cons]; rfl
  rw [e]
  exact madeCells_eq [Value.bool false] n (by simp)
set_option linter.unusedSimpArgs false in
set_option maxRecDepth 100000 in
set_option maxHeartbeats 8000000 in
theorem run_any (C : CA) (n N u : Nat) (l : List AF) (w : World) (ok : CsrOk n l) (see : CSee w C n l) (hN : l.length = N) (hu : u < n) :
    Calls Tryz.prog 25 #[csrVal C n N, .int .i64 (u : Int), .agg #[.int .i64 4611686018427387904, .int .i64 4611686018427387904, .int .u64 18446744073709551615]] w (RunPost C n N l u w) := by
  have hn := ok.hn
  have hmk := run_make_n (P := Tryz.prog) 38 3 (.int .i64 0) 1 8 Tryz.underlying38 Tryz.infoInt .i64 .i64 n (by omega) (by omega)
  rw [nums_rep] at hmk
  have hmb := run_make_n (P := Tryz.prog) 123 4 (.bool false) 1 1 Tryz.underlying123 Tryz.infoBoolR .i64 .i64 n (by omega) (by omega)
  rw [bools_rep] at hmb
  have OK := Lib.hid ok
  have SEE := Lib.hid see
  have HN := Lib.hid hN
  have HSN := Lib.hid (fun W => snodes_any C n N W hn)
  unfold csrVal at HSN
  have HB := Lib.hid (((Below.refl w.heap.size w).alloc (Nat.le_refl _) (.cells #[.slice C.fa (n + 1) C.fc, .slice C.ta N C.tc, .slice C.wa N C.wc] 40)).alloc (by simp) (.cells #[.int .i64 4611686018427387904, .int .i64 4611686018427387904, .int .u64 18446744073709551615] 82))
  have HX := Lib.hid ((Cells.new w 40 [.slice C.fa (n + 1) C.fc, .slice C.ta N C.tc, .slice C.wa N C.wc]).alloc (.cells #[.int .i64 4611686018427387904, .int .i64 4611686018427387904, .int .u64 18446744073709551615] 82))
  have HX1 := Lib.hid (cells_at (w := w.alloc (.cells #[.slice C.fa (n + 1) C.fc, .slice C.ta N C.tc, .slice C.wa N C.wc] 40)) (b := w.heap.size + 1) (by simp) 82 [.int .i64 4611686018427387904, .int .i64 4611686018427387904, .int .u64 18446744073709551615])
  clear ok see hN
  unfold csrVal
  go_enter Tryz.func25, Tryz.ntmps25
  apply wp_seq_k
  intro K0 hK
  have HK0 := Lib.hid hK
  clear hK
  go_wp2_with fail
  refine HK0.out _ _ ?_
  clear HK0
  apply wp_seq_k
  intro K1 hK
  have HK1 := Lib.hid hK
  clear hK
  go_wp2_with fail
  refine (HSN.out _).mono ?_
  rintro e w1 ⟨rfl, hb1⟩
  have hx := HX.out.below hb1 HX.out.lt
  have hx1 := HX1.out.below hb1 HX1.out.lt
  have x0 : w1.cell? ⟨w.heap.size, 0, none⟩ = some (.slice C.fa (n + 1) C.fc) := hx.cell rfl
  have x1 : w1.cell? ⟨w.heap.size, 1, none⟩ = some (.slice C.ta N C.tc) := hx.cell rfl
  have x2 : w1.cell? ⟨w.heap.size, 2, none⟩ = some (.slice C.wa N C.wc) := hx.cell rfl
  have l1 := hx1.lt
  have l0 := hx.lt
  have HXB := Lib.hid (And.intro hx1 (HB.out.trans (hb1.mono (by simp; omega))))
  clear hx hx1 hb1
  go_wp2_with fail
  refine HK1.out _ _ ?_
  clear HK1
  apply wp_seq_k
  intro KK hK
  have HKK := Lib.hid hK
  clear hK
  go_wp2_with fail
  go_region
  all_goals
    try dsimp only [Exit.then]
    refine HKK.out _ _ ?_
    change Code.wp _ (tailAt 3 runBody) _ _ _
    first
      | exact run_queue (sb := w1.heap.size + 1 + 1) (ob := (w1.heap.size + 1)) (eb := w1.heap.size) OK.out SEE.out HN.out hu ((((HXB.out.2.alloc (by omega) (.cells (bools (List.replicate n false)).toArray 4)).alloc (by simp; omega) (.cells (nums (List.replicate n 0)).toArray 3)).alloc (by simp; omega) (.cells ([.slice C.fa (n + 1) C.fc, .slice C.ta N C.tc, .slice C.wa N C.wc, .pointer none, .pointer none, .slice (some ⟨(w1.heap.size + 1), 0, none⟩) n n, .slice (some ⟨w1.heap.size, 0, none⟩) n n] : List Value).toArray 127)).drew) ((((HXB.out.1.alloc (.cells (bools (List.replicate n false)).toArray 4)).alloc (.cells (nums (List.replicate n 0)).toArray 3)).alloc (.cells ([.slice C.fa (n + 1) C.fc, .slice C.ta N C.tc, .slice C.wa N C.wc, .pointer none, .pointer none, .slice (some ⟨(w1.heap.size + 1), 0, none⟩) n n, .slice (some ⟨w1.heap.size, 0, none⟩) n n] : List Value).toArray 127)).drew) ((cells_at (w := (w1.alloc (.cells (bools (List.replicate n false)).toArray 4)).alloc (.cells (nums (List.replicate n 0)).toArray 3)) (b := w1.heap.size + 1 + 1) (by simp) 127 [.slice C.fa (n + 1) C.fc, .slice C.ta N C.tc, .slice C.wa N C.wc, .pointer none, .pointer none, .slice (some ⟨(w1.heap.size + 1), 0, none⟩) n n, .slice (some ⟨w1.heap.size, 0, none⟩) n n]).drew) (((cells_at (w := w1.alloc (.cells (bools (List.replicate n false)).toArray 4)) (b := w1.heap.size + 1) (by simp) 3 (nums (List.replicate n 0))).alloc (.cells ([.slice C.fa (n + 1) C.fc, .slice C.ta N C.tc, .slice C.wa N C.wc, .pointer none, .pointer none, .slice (some ⟨(w1.heap.size + 1), 0, none⟩) n n, .slice (some ⟨w1.heap.size, 0, none⟩) n n] : List Value).toArray 127)).drew) ((((Cells.new w1 4 (bools (List.replicate n false))).alloc (.cells (nums (List.replicate n 0)).toArray 3)).alloc (.cells ([.slice C.fa (n + 1) C.fc, .slice C.ta N C.tc, .slice C.wa N C.wc, .pointer none, .pointer none, .slice (some ⟨(w1.heap.size + 1), 0, none⟩) n n, .slice (some ⟨w1.heap.size, 0, none⟩) n n] : List Value).toArray 127)).drew) (by omega) (by omega) (by omega) (by omega) (by omega) (by omega)
      | exact run_queue (sb := w1.heap.size + 1 + 1) (ob := w1.heap.size) (eb := (w1.heap.size + 1)) OK.out SEE.out HN.out hu ((((HXB.out.2.alloc (by omega) (.cells (nums (List.replicate n 0)).toArray 3)).alloc (by simp; omega) (.cells (bools (List.replicate n false)).toArray 4)).alloc (by simp; omega) (.cells ([.slice C.fa (n + 1) C.fc, .slice C.ta N C.tc, .slice C.wa N C.wc, .pointer none, .pointer none, .slice (some ⟨w1.heap.size, 0, none⟩) n n, .slice (some ⟨(w1.heap.size + 1), 0, none⟩) n n] : List Value).toArray 127)).drew) ((((HXB.out.1.alloc (.cells (nums (List.replicate n 0)).toArray 3)).alloc (.cells (bools (List.replicate n false)).toArray 4)).alloc (.cells ([.slice C.fa (n + 1) C.fc, .slice C.ta N C.tc, .slice C.wa N C.wc, .pointer none, .pointer none, .slice (some ⟨w1.heap.size, 0, none⟩) n n, .slice (some ⟨(w1.heap.size + 1), 0, none⟩) n n] : List Value).toArray 127)).drew) ((cells_at (w := (w1.alloc (.cells (nums (List.replicate n 0)).toArray 3)).alloc (.cells (bools (List.replicate n false)).toArray 4)) (b := w1.heap.size + 1 + 1) (by simp) 127 [.slice C.fa (n + 1) C.fc, .slice C.ta N C.tc, .slice C.wa N C.wc, .pointer none, .pointer none, .slice (some ⟨w1.heap.size, 0, none⟩) n n, .slice (some ⟨(w1.heap.size + 1), 0, none⟩) n n]).drew) ((((Cells.new w1 3 (nums (List.replicate n 0))).alloc (.cells (bools (List.replicate n false)).toArray 4)).alloc (.cells ([.slice C.fa (n + 1) C.fc, .slice C.ta N C.tc, .slice C.wa N C.wc, .pointer none, .pointer none, .slice (some ⟨w1.heap.size, 0, none⟩) n n, .slice (some ⟨(w1.heap.size + 1), 0, none⟩) n n] : List Value).toArray 127)).drew) (((cells_at (w := w1.alloc (.cells (nums (List.replicate n 0)).toArray 3)) (b := w1.heap.size + 1) (by simp) 4 (bools (List.replicate n false))).alloc (.cells ([.slice C.fa (n + 1) C.fc, .slice C.ta N C.tc, .slice C.wa N C.wc, .pointer none, .pointer none, .slice (some ⟨w1.heap.size, 0, none⟩) n n, .slice (some ⟨(w1.heap.size + 1), 0, none⟩) n n] : List Value).toArray 127)).drew) (by omega) (by omega) (by omega) (by omega) (by omega) (by omega)
end Go.Proofs.YtblkkjfpggcgfaaGreatDoor
