/- csr.Check: no error at the arrays of a right graph. -/
import Derived.Test.YtblkkjfpggcgfaaGreatDoorH29
import Derived.Test.YtblkkjfpggcgfaaGreatDoorH27
namespace Go.Proofs.YtblkkjfpggcgfaaGreatDoor
open Go.ChangeShapes Go.WideShapes Go.ChangeAt Go.RowKit Go.Joins Go.Deep
theorem CSee.first {w : World} {C : CA} {n : Nat} {l : List AF} (see : CSee w C n l) : ∃ b o, C.fa = some ⟨b, o, none⟩ ∧ ∀ v, v ≤ n → w.cell? ⟨b, o + v, none⟩ = some (.int .i64 ((cntLt l v : Nat) : Int)) := by
  obtain ⟨b, o, e, -⟩ := see.f.int (firstL_get l n 0 (by omega))
  refine ⟨b, o, e, fun v hv => ?_⟩
  obtain ⟨b', o', e', h⟩ := see.f.int (firstL_get l n v hv)
  rw [e] at e'
  simp only [Option.some.injEq, Addr.mk.injEq, and_true] at e'
  obtain ⟨rfl, rfl⟩ := e'
  exact h
set_option linter.unusedSimpArgs false in
set_option maxRecDepth 100000 in
set_option maxHeartbeats 8000000 in
theorem ccheck_any (C : CA) (n : Nat) (l : List AF) (w : World) (ok : CsrOk n l) (see : CSee w C n l) :
    Calls Tryz.prog 23 #[csrVal C n l.length] w fun e w' => e = .returned .nilIface ∧ Below w.heap.size w w' := by
  unfold csrVal
  obtain ⟨bf, of, ef, hcf⟩ := see.first
  obtain ⟨N, hN⟩ : ∃ N, l.length = N := ⟨_, rfl⟩
  obtain ⟨p, hp⟩ : ∃ p, n + 1 = p := ⟨_, rfl⟩
  have hn := ok.hn
  have hNb : N ≤ 262144 := by rw [← hN]; exact ok.len
  have HCA := Lib.hid (fun (i : Nat) (x : AF) W (s : CSee W C n l) (hx : l[i]? = some x) => carc_any C n l i x W ok s hx)
  have HCN := Lib.hid (fun W => cnodes_any C n N W hn)
  unfold csrVal at HCN HCA
  rw [hN, hp, ef] at HCA
  rw [hp, ef] at HCN
  rw [hN, hp, ef]
  have e0 : w.cell? ⟨bf, of, none⟩ = some (.int .i64 0) := by have := hcf 0 (by omega); rwa [cntLt_zero, Nat.add_zero] at this
  have e1 : w.cell? ⟨bf, of + n, none⟩ = some (.int .i64 (N : Int)) := by have := hcf n (Nat.le_refl _); rwa [cntLt_all ok.clean.inG, hN] at this
  have lf := block_lt e0
  have HCF := Lib.hid hcf
  have HF := Lib.hid (show ∀ v, cntLt l v ≤ N from fun v => by rw [← hN]; exact cntLt_le _ _)
  have HMONO := Lib.hid (fun v => cntLt_mono l (u := v) (v := v + 1) (by omega))
  have HROW := Lib.hid (fun (i : Nat) (x : AF) (hx : l[i]? = some x) v => row_iff ok.byFrom hx v)
  have HAT := Lib.hid (show ∀ i : Nat, i < N → ∃ x, l[i]? = some x from fun i hi => ⟨_, List.getElem?_eq_getElem (by rw [hN]; exact hi)⟩)
  have SEE := Lib.hid see
  have HBC := Lib.hid ((Below.refl w.heap.size w).alloc (Nat.le_refl _) (.cells #[.slice (some ⟨bf, of, none⟩) p C.fc, .slice C.ta N C.tc, .slice C.wa N C.wc] 40))
  have HX := Lib.hid (Cells.new w 40 [.slice (some ⟨bf, of, none⟩) p C.fc, .slice C.ta N C.tc, .slice C.wa N C.wc])
  have hnp : n < p := by omega
  have q0 : decide ((n : Int) < 0) = false := by simp
  have q1 : decide (65536 < n) = false := by simp; omega
  have q2 : decide ((65536 : Int) < (n : Int)) = false := by simp; omega
  have q3 : decide (262144 < N) = false := by simp; omega
  have q4 : decide ((262144 : Int) < (N : Int)) = false := by simp; omega
  have HP := Lib.hid hp
  clear ok see hcf hN ef hp
  go_enter Tryz.func23, Tryz.ntmps23
  go_wp2_with fail
  refine (HCN.out _).mono ?_
  rintro e w1 ⟨rfl, hb1⟩
  have HB1 := Lib.hid (HBC.out.trans (hb1.mono (by simp)))
  have hx1 := HX.out.below (hb1.mono (by simp)) HX.out.lt
  have HX1 := Lib.hid hx1
  have x0 : w1.cell? ⟨w.heap.size, 0, none⟩ = some (.slice (some ⟨bf, of, none⟩) p C.fc) := hx1.cell rfl
  have x1 : w1.cell? ⟨w.heap.size, 1, none⟩ = some (.slice C.ta N C.tc) := hx1.cell rfl
  have x2 : w1.cell? ⟨w.heap.size, 2, none⟩ = some (.slice C.wa N C.wc) := hx1.cell rfl
  have e0' := ck HB1.out e0
  have e1' := ck HB1.out e1
  clear hx1 hb1
  go_wp2_with fail
  go_quiet (fail)
  go_wp2_with fail
  have HXX := Lib.hid (And.intro HX1.out HB1.out)
  clear x0 x1 x2 e0' e1' HX1 HB1
  go_loopg [52] n (fun g vi wr => ∃ j : Nat, vi = .int .i64 j ∧ j ≤ n ∧ g = n - j ∧ Cells wr w.heap.size 40 [.slice (some ⟨bf, of, none⟩) p C.fc, .slice C.ta N C.tc, .slice C.wa N C.wc] ∧ Below w.heap.size w wr)
  case atStart => exact ⟨0, rfl, Nat.zero_le _, rfl, HXX.out.1, below_drewN HXX.out.2 _⟩
  case round =>
    obtain ⟨j, rfl, hj, hg, hx, hbl⟩ := hrel
    have HGM := Lib.hid hg
    have HX2 := Lib.hid hx
    have HBL := Lib.hid hbl
    have x0 : wr.cell? ⟨w.heap.size, 0, none⟩ = some (.slice (some ⟨bf, of, none⟩) p C.fc) := hx.cell rfl
    have l0 := hx.lt
    clear hg hx hbl HXX
    by_cases hjn : j < n
    · obtain ⟨q, hq⟩ : ∃ q, j + 1 = q := ⟨_, rfl⟩
      have hqi : (j : Int) + 1 = (q : Int) := by omega
      have cq := IntWalk.i64_in (q : Int) (by omega)
      have c0 := ck HBL.out (HCF.out j (by omega))
      have c1 := ck HBL.out (HCF.out q (by omega))
      have hmo := HMONO.out j
      rw [hq] at hmo
      obtain ⟨y, hy⟩ : ∃ y, cntLt l j = y := ⟨_, rfl⟩
      obtain ⟨z, hz⟩ : ∃ z, cntLt l q = z := ⟨_, rfl⟩
      rw [hy, hz] at hmo
      rw [hy] at c0
      rw [hz] at c1
      have hjp : j < p := by have := HP.out; omega
      have hqp : q < p := by have := HP.out; omega
      have hlt : decide ((z : Int) < (y : Int)) = false := by simp; omega
      have hlt2 : decide (z < y) = false := by simp; omega
      clear hq hy hz hmo
      go_wp2_with fail
      go_quiet (fail)
      go_wp2_with fail
      go_roundg (n - (j + 1))
      case measure => rw [HGM.out]; omega
      case rel => exact ⟨j + 1, by go_num, by omega, rfl, HX2.out, below_drewN HBL.out _⟩
    · obtain rfl : j = n := by omega
      go_wp2_with fail
      have HXX := Lib.hid (And.intro HX2.out HBL.out)
      clear HX2 HBL x0 l0 HGM
      go_loopg [72, 6, 7] j (fun g vi v6 v7 wr => ∃ v : Nat, vi = .int .i64 v ∧ v ≤ j ∧ g = j - v ∧ Cells wr w.heap.size 40 [.slice (some ⟨bf, of, none⟩) p C.fc, .slice C.ta N C.tc, .slice C.wa N C.wc] ∧ Below w.heap.size w wr)
      case atStart => exact ⟨0, rfl, Nat.zero_le _, rfl, HXX.out.1, HXX.out.2⟩
      case round =>
        obtain ⟨v, rfl, hv, hg, hx, hbl⟩ := hrel
        have HGM := Lib.hid hg
        have HX2 := Lib.hid hx
        have HBL := Lib.hid hbl
        have x0 : wr.cell? ⟨w.heap.size, 0, none⟩ = some (.slice (some ⟨bf, of, none⟩) p C.fc) := hx.cell rfl
        have l0 := hx.lt
        clear hg hx hbl HXX
        by_cases hvn : v < j
        · obtain ⟨q, hq⟩ : ∃ q, v + 1 = q := ⟨_, rfl⟩
          have hqi : (v : Int) + 1 = (q : Int) := by omega
          have cq := IntWalk.i64_in (q : Int) (by omega)
          have c0 := ck HBL.out (HCF.out v (by omega))
          obtain ⟨y, hy⟩ : ∃ y, cntLt l v = y := ⟨_, rfl⟩
          obtain ⟨z, hz⟩ : ∃ z, cntLt l q = z := ⟨_, rfl⟩
          have hmo := HMONO.out v
          rw [hq, hy, hz] at hmo
          rw [hy] at c0
          have hzN := HF.out q
          rw [hz] at hzN
          have hvp : v < p := by have := HP.out; omega
          have hqp : q < p := by have := HP.out; omega
          have HY := Lib.hid (And.intro hy (And.intro hz hq))
          clear hy hz hq
          go_wp2_with fail
          have HXX := Lib.hid (And.intro HX2.out HBL.out)
          clear HX2 HBL x0 l0 c0
          go_loopg [6, 7] (z - y) (fun g vi v7 wr => ∃ i : Nat, vi = .int .i64 i ∧ y ≤ i ∧ i ≤ z ∧ g = z - i ∧ Cells wr w.heap.size 40 [.slice (some ⟨bf, of, none⟩) p C.fc, .slice C.ta N C.tc, .slice C.wa N C.wc] ∧ Below w.heap.size w wr)
          case atStart => exact ⟨y, rfl, Nat.le_refl _, hmo, rfl, HXX.out.1, HXX.out.2⟩
          case round =>
            obtain ⟨i, rfl, hi1, hi2, hg, hx, hbl⟩ := hrel
            have HGM2 := Lib.hid hg
            have HX2 := Lib.hid hx
            have HBL := Lib.hid hbl
            have x0 : wr.cell? ⟨w.heap.size, 0, none⟩ = some (.slice (some ⟨bf, of, none⟩) p C.fc) := hx.cell rfl
            have x1 : wr.cell? ⟨w.heap.size, 1, none⟩ = some (.slice C.ta N C.tc) := hx.cell rfl
            have x2 : wr.cell? ⟨w.heap.size, 2, none⟩ = some (.slice C.wa N C.wc) := hx.cell rfl
            have l0 := hx.lt
            have c1 := ck HBL.out (HCF.out q (by omega))
            rw [HY.out.2.1] at c1
            clear hg hx hbl HXX
            by_cases hiz : i < z
            · obtain ⟨x, hx⟩ := HAT.out i (by omega)
              have hxv : x.1.val = v := (HROW.out i x hx v).2 (by rw [HY.out.1, HY.out.2.2, HY.out.2.1]; exact ⟨hi1, hiz⟩)
              have hca := fun W s => HCA.out i x W s hx
              rw [hxv] at hca
              have HCX := Lib.hid hca
              clear hx hxv hca
              go_wp2_with fail
              refine (HCX.out _ (SEE.out.below HBL.out)).mono ?_
              rintro e w3 ⟨rfl, hb3⟩
              have HX3 := Lib.hid (HX2.out.below hb3 HX2.out.lt)
              have HB3 := Lib.hid (HBL.out.trans (hb3.mono HBL.out.size))
              clear hb3 x0 x1 x2 c1
              go_wp2_with fail
              go_roundg (z - (i + 1))
              case measure => rw [HGM2.out]; omega
              case rel => exact ⟨i + 1, by go_num, by omega, by omega, rfl, HX3.out, HB3.out⟩
            · obtain rfl : i = z := by omega
              go_wp2_with fail
              go_roundg (j - (v + 1))
              case measure => rw [HGM.out]; omega
              case rel => exact ⟨v + 1, by go_num, by omega, rfl, HX2.out, HBL.out⟩
        · obtain rfl : v = j := by omega
          go_wp2_with fail
          go_ret
          exact ⟨rfl, HBL.out⟩
def BuildPost (n : Nat) (l : List AF) (w : World) (e : Ending) (w' : World) : Prop :=
  ∃ (C : CA) (l' : List AF), e = .returned (.tuple #[csrVal C n l'.length, .nilIface]) ∧ l'.Perm l ∧ CsrOk n l' ∧ CSee w' C n l' ∧ Below w.heap.size w w'
set_option linter.unusedSimpArgs false in
set_option maxRecDepth 100000 in
set_option maxHeartbeats 8000000 in
theorem build_any (n : Nat) (ao : Option Addr) (cap : Nat) (l : List AF) (w : World) (see : See w ao cap arcCells 3 l) (hn : n ≤ 65536) (hl : l.length ≤ 262144) (hg : Clean n l) :
    Calls Tryz.prog 8 #[.agg #[.int .i64 (n : Int), .slice ao l.length cap]] w (BuildPost n l w) := by
  obtain ⟨N, hN⟩ : ∃ N, l.length = N := ⟨_, rfl⟩
  have hno := fun W s => norm_any n ao cap l W s hn hl hg
  rw [hN] at hl ⊢
  rw [hN] at hno
  have HNO := Lib.hid hno
  have SEE := Lib.hid see
  have HG := Lib.hid hg
  have HN := Lib.hid hN
  have hr0 := Cells.new (w.alloc (.cells #[.int .i64 (n : Int), .slice ao N cap] 30)) 40 [.slice none 0 0, .slice none 0 0, .slice none 0 0]
  rw [show (w.alloc (.cells #[.int .i64 (n : Int), .slice ao N cap] 30)).heap.size = w.heap.size + 1 by simp] at hr0
  have HR0 := Lib.hid hr0
  have HB0 := Lib.hid (((Below.refl w.heap.size w).alloc (Nat.le_refl _) (.cells #[.int .i64 (n : Int), .slice ao N cap] 30)).alloc (by simp) (.cells #[.slice none 0 0, .slice none 0 0, .slice none 0 0] 40))
  clear hr0 see hg hN hno
  go_enter Tryz.func8, Tryz.ntmps8
  go_wp2_with fail
  refine (HNO.out _ (SEE.out.below HB0.out)).mono ?_
  rintro e w1 ⟨a1, c1, l1, rfl, hp1, hs1, ho1, hb1⟩
  have hl1 : l1.length = N := by rw [hp1.length_eq, HN.out]
  have hg1 := HG.out.perm hp1
  have hfl := fun W s => flat_any n a1 c1 l1 W s hn (by rw [hl1]; exact hl) hg1.inG
  rw [hl1] at hfl ⊢
  have HFL := Lib.hid hfl
  have HOK := Lib.hid (CsrOk.mk hn (by rw [hl1]; exact hl) hg1 hs1)
  have SEE1 := Lib.hid ho1.see.1
  have HP1 := Lib.hid hp1
  have HL1 := Lib.hid hl1
  have HR1 := Lib.hid (HR0.out.below hb1 HR0.out.lt)
  have HB1 := Lib.hid (HB0.out.trans (hb1.mono HB0.out.size))
  have lr := (HR0.out.below hb1 HR0.out.lt).lt
  clear hl1 hg1 hfl hp1 hs1 ho1 hb1
  go_wp2_with fail
  refine (HFL.out _ (SEE1.out.alloc _)).mono ?_
  rintro e w2 ⟨fa, ta, wa, fc, tc, wc, rfl, hs1, hs2, hs3, hnew, hb2⟩
  have hb3 := ((Below.refl w1.heap.size w1).alloc (Nat.le_refl _) (.cells #[.int .i64 (n : Int), .slice a1 N c1] 30)).trans (hb2.mono (by simp))
  have hr2 := HR1.out.below hb3 HR1.out.lt
  have r0 : w2.cell? ⟨w.heap.size + 1, 0, none⟩ = some (.slice none 0 0) := hr2.cell rfl
  have r1 : w2.cell? ⟨w.heap.size + 1, 1, none⟩ = some (.slice none 0 0) := hr2.cell rfl
  have r2 : w2.cell? ⟨w.heap.size + 1, 2, none⟩ = some (.slice none 0 0) := hr2.cell rfl
  have f0 := hr2.frozen 0
  have f1 := hr2.frozen 1
  have f2 := hr2.frozen 2
  have lr2 := hr2.lt
  have HR2 := Lib.hid hr2
  have HB2 := Lib.hid (HB1.out.trans (hb3.mono HB1.out.size))
  have HNEW := Lib.hid hnew
  have hw1 : w.heap.size + 2 ≤ w1.heap.size := by have := HB1.out.size; have := HR1.out.lt; omega
  have HSS := Lib.hid (And.intro hs1 (And.intro hs2 hs3))
  clear hs1 hs2 hs3 hb2 hb3 hr2 hnew
  go_wp2_with fail
  refine bodyPost_ret (results_ct rfl _ _ (w.heap.size + 1) 40 [.slice fa (n + 1) fc, .slice ta l1.length tc, .slice wa l1.length wc] _ rfl (((HR2.out.set 0 _).set 1 _).set 2 _) Tryz.underlying40 rfl (by rw [Tryz.sizeCsr]; rfl)) rfl ?_
  have hO : Only [w.heap.size + 1] w2 (((w2.setCell ⟨w.heap.size + 1, 0, none⟩ (.slice fa (n + 1) fc)).setCell ⟨w.heap.size + 1, 1, none⟩ (.slice ta l1.length tc)).setCell ⟨w.heap.size + 1, 2, none⟩ (.slice wa l1.length wc)) :=
    (((Only.refl _ w2).setCell (p := ⟨w.heap.size + 1, 0, none⟩) (by simp) _).setCell (p := ⟨w.heap.size + 1, 1, none⟩) (by simp) _).setCell (p := ⟨w.heap.size + 1, 2, none⟩) (by simp) _
  have hfar : ∀ a ∈ [fa, ta, wa], ∀ b o, a = some ⟨b, o, none⟩ → b ∉ [w.heap.size + 1] := fun a ha b o e hm => by
    have := HNEW.out a ha b o e
    simp at hm this
    omega
  refine ⟨⟨fa, fc, ta, tc, wa, wc⟩, l1, rfl, HP1.out, HOK.out, ⟨HSS.out.1.kept hO (hfar _ (by simp)), HSS.out.2.1.kept hO (hfar _ (by simp)), HSS.out.2.2.kept hO (hfar _ (by simp))⟩, HB2.out.trans (hO.below (B := w.heap.size) HB2.out.size (fun e he => by simp at he; omega))⟩
def bools (l : List Bool) : List Value := l.map fun b => Value.bool b
theorem bools_get {l : List Bool} {i : Nat} {x : Bool} (h : l[i]? = some x) : (bools l)[i]? = some (.bool x) := by unfold bools; rw [List.getElem?_map, h]; rfl
theorem bools_set (l : List Bool) (i : Nat) (x : Bool) : (bools l).set i (.bool x) = bools (l.set i x) := by unfold bools; rw [List.map_set]
structure SB where
  sb : Nat
  hb : Nat
  ab : Nat
  tb : Nat
  cb : Nat
  ob : Nat
  eb : Nat
def stCells (C : CA) (n m : Nat) (Z : SB) : List Value := [.slice C.fa (n + 1) C.fc, .slice C.ta m C.tc, .slice C.wa m C.wc, .pointer (some ⟨Z.hb, 0, none⟩), .pointer (some ⟨Z.tb, 0, none⟩), .slice (some ⟨Z.ob, 0, none⟩) n n, .slice (some ⟨Z.eb, 0, none⟩) n n]
structure StRep (w : World) (B : Nat) (C : CA) (n m : Nat) (Z : SB) (iv : Value) (hs : HS) (ds : List (Option Int)) (H : List Nat) (S : List Bool) : Prop where
  st : Cells w Z.sb 127 (stCells C n m Z)
  hp : HRep w Z.hb iv Z.ab hs
  sp : SRep w Z.tb Z.cb ds
  ho : Cells w Z.ob 3 (nums H)
  se : Cells w Z.eb 4 (bools S)
  lh : hs.2.length = n
  ld : ds.length = n
  lo : H.length = n
  ls : S.length = n
  new : ∀ k ∈ [Z.sb, Z.tb, Z.cb, Z.ob, Z.eb], B ≤ k
  newH : ∀ k ∈ hfoot Z.hb iv Z.ab, B ≤ k
  ap : ∀ k ∈ hfoot Z.hb iv Z.ab, k ∉ [Z.sb, Z.tb, Z.cb, Z.ob, Z.eb]
  nd : [Z.sb, Z.tb, Z.cb, Z.ob, Z.eb].Nodup
namespace StRep
variable {w w' : World} {B n m : Nat} {C : CA} {Z : SB} {iv : Value} {hs : HS} {ds : List (Option Int)} {H : List Nat} {S : List Bool}
theorem below (h : StRep w B C n m Z iv hs ds H S) (o : Below w.heap.size w w') : StRep w' B C n m Z iv hs ds H S :=
  ⟨h.st.below o h.st.lt, h.hp.below o, h.sp.below o, h.ho.below o h.ho.lt, h.se.below o h.se.lt, h.lh, h.ld, h.lo, h.ls, h.new, h.newH, h.ap, h.nd⟩
theorem ne (h : StRep w B C n m Z iv hs ds H S) : (Z.sb ≠ Z.tb ∧ Z.sb ≠ Z.cb ∧ Z.sb ≠ Z.ob ∧ Z.sb ≠ Z.eb) ∧ (Z.tb ≠ Z.cb ∧ Z.tb ≠ Z.ob ∧ Z.tb ≠ Z.eb) ∧ (Z.cb ≠ Z.ob ∧ Z.cb ≠ Z.eb) ∧ Z.ob ≠ Z.eb := by
  have := h.nd
  simp only [List.nodup_cons, List.mem_cons, List.not_mem_nil, or_false, not_or] at this
  obtain ⟨⟨a1, a2, a3, a4⟩, ⟨b1, b2, b3⟩, ⟨c1, c2⟩, d, -⟩ := this
  exact ⟨⟨a1, a2, a3, a4⟩, ⟨b1, b2, b3⟩, ⟨c1, c2⟩, d⟩
theorem dist (h : StRep w B C n m Z iv hs ds H S) {ds' : List (Option Int)} (o : Only [Z.tb, Z.cb] w w') (hsp : SRep w' Z.tb Z.cb ds') (hl : ds'.length = n) : StRep w' B C n m Z iv hs ds' H S := by
  obtain ⟨⟨a1, a2, a3, a4⟩, ⟨b1, b2, b3⟩, ⟨c1, c2⟩, d⟩ := h.ne
  have e1 := h.ap
  refine ⟨h.st.kept o (by simp [a1, a2]), h.hp.kept o (fun k hk hm => e1 k hk ?_), hsp, h.ho.kept o (by simp [b2.symm, c1.symm]), h.se.kept o (by simp [b3.symm, c2.symm]), h.lh, hl, h.lo, h.ls, h.new, h.newH, h.ap, h.nd⟩
  simp only [List.mem_cons, List.not_mem_nil, or_false] at hm ⊢
  omega
theorem hop (h : StRep w B C n m Z iv hs ds H S) (o : Only [Z.ob] w w') {H' : List Nat} (hc : Cells w' Z.ob 3 (nums H')) (hl : H'.length = n) : StRep w' B C n m Z iv hs ds H' S := by
  obtain ⟨⟨a1, a2, a3, a4⟩, ⟨b1, b2, b3⟩, ⟨c1, c2⟩, d⟩ := h.ne
  have e1 := h.ap
  refine ⟨h.st.kept o (by simp [a3]), h.hp.kept o (fun k hk hm => e1 k hk ?_), h.sp.kept o (by simp [b2]) (by simp [c1]), hc, h.se.kept o (by simp [d.symm]), h.lh, h.ld, hl, h.ls, h.new, h.newH, h.ap, h.nd⟩
  simp only [List.mem_cons, List.not_mem_nil, or_false] at hm ⊢
  omega
theorem sett (h : StRep w B C n m Z iv hs ds H S) (o : Only [Z.eb] w w') {S' : List Bool} (hc : Cells w' Z.eb 4 (bools S')) (hl : S'.length = n) : StRep w' B C n m Z iv hs ds H S' := by
  obtain ⟨⟨a1, a2, a3, a4⟩, ⟨b1, b2, b3⟩, ⟨c1, c2⟩, d⟩ := h.ne
  have e1 := h.ap
  refine ⟨h.st.kept o (by simp [a4]), h.hp.kept o (fun k hk hm => e1 k hk ?_), h.sp.kept o (by simp [b3]) (by simp [c2]), h.ho.kept o (by simp [d]), hc, h.lh, h.ld, h.lo, hl, h.new, h.newH, h.ap, h.nd⟩
  simp only [List.mem_cons, List.not_mem_nil, or_false] at hm ⊢
  omega
theorem lts (h : StRep w B C n m Z iv hs ds H S) : ∀ k ∈ [Z.sb, Z.tb, Z.cb, Z.ob, Z.eb], k < w.heap.size := by
  intro k hk
  simp only [List.mem_cons, List.not_mem_nil, or_false] at hk
  rcases hk with rfl | rfl | rfl | rfl | rfl
  · exact h.st.lt
  · exact h.sp.lt1
  · exact h.sp.lt2
  · exact h.ho.lt
  · exact h.se.lt
theorem heap (h : StRep w B C n m Z iv hs ds H S) (hB : B ≤ w.heap.size) {hs' : HS} (x : HNext w w' Z.hb Z.ab iv hs') (hl : hs'.2.length = n) : (∃ iv', StRep w' B C n m Z iv' hs' ds H S) ∧ Below B w w' := by
  obtain ⟨iv', h1, o, h2⟩ := x
  have e1 := h.ap
  have hn : ∀ k ∈ [Z.sb, Z.tb, Z.cb, Z.ob, Z.eb], k ∉ hfoot Z.hb iv Z.ab := fun k hk hm => e1 k hm hk
  refine ⟨⟨iv', h.st.kept o (hn _ (by simp)), h1, h.sp.kept o (hn _ (by simp)) (hn _ (by simp)), h.ho.kept o (hn _ (by simp)), h.se.kept o (hn _ (by simp)), hl, h.ld, h.lo, h.ls, h.new, fun k hk => ?_, fun k hk => ?_, h.nd⟩, o.below hB h.newH⟩
  · rcases h2 k hk with h3 | h3
    · exact h.newH k h3
    · omega
  · rcases h2 k hk with h3 | h3
    · exact h.ap k h3
    · intro hm
      have := h.lts k hm
      omega
end StRep
set_option linter.unusedSimpArgs false in
set_option maxRecDepth 100000 in
set_option maxHeartbeats 8000000 in
theorem label_any (B : Nat) (C : CA) (n m : Nat) (Z : SB) (iv : Value) (hs : HS) (ds : List (Option Int)) (H : List Nat) (S : List Bool) (v : Nat) (d : Int) (k : Nat) (w : World) (h : StRep w B C n m Z iv hs ds H S) (g : Good hs) (hB : B ≤ w.heap.size) (hv : v < n) :
    Calls Tryz.prog 53 #[.pointer (some ⟨Z.sb, 0, none⟩), .int .i64 (v : Int), .int .u64 d, .int .i64 (k : Int)] w fun e w' => e = .returned (.tuple #[]) ∧ (∃ iv', StRep w' B C n m Z iv' (setP hs v d) (ds.set v (some d)) (H.set v k) S) ∧ Below B w w' := by
  have HH := Lib.hid h
  have HG := Lib.hid g
  have hn : n ≤ 65536 := by have := h.hp.n; have := h.lh; omega
  have z4 : w.cell? ⟨Z.sb, 4, none⟩ = some (.pointer (some ⟨Z.tb, 0, none⟩)) := h.st.cell rfl
  have ucv : IntKind.u32.wrap (v : Int) = (v : Int) := IntWalk.u32_in _ (by omega)
  clear h g
  go_enter Tryz.func53, Tryz.ntmps53
  go_wp2_with fail
  refine (stampSet_any v d _ HH.out.sp (by rw [HH.out.ld]; exact hv)).mono ?_
  rintro e w1 ⟨rfl, hs1, ho1⟩
  have h1 := HH.out.dist ho1 hs1 (by rw [List.length_set]; exact HH.out.ld)
  have b1 := ho1.below (B := B) hB (fun q hq => HH.out.new q (by simp only [List.mem_cons, List.not_mem_nil, or_false] at hq ⊢; omega))
  have y5 : w1.cell? ⟨Z.sb, 5, none⟩ = some (.slice (some ⟨Z.ob, 0, none⟩) n n) := h1.st.cell rfl
  have y3 : w1.cell? ⟨Z.sb, 3, none⟩ = some (.pointer (some ⟨Z.hb, 0, none⟩)) := h1.st.cell rfl
  have n1 : Z.sb ≠ Z.ob := h1.ne.1.2.2.1
  have n2 : Z.ob ≠ Z.sb := n1.symm
  obtain ⟨u, hu⟩ : ∃ u, H[v]? = some u := ⟨_, List.getElem?_eq_getElem (by rw [HH.out.lo]; exact hv)⟩
  have y0 : w1.cell? ⟨Z.ob, v, none⟩ = some (.int .i64 (u : Int)) := h1.ho.cell (nums_get hu)
  have f0 := h1.ho.frozen v
  have H1 := Lib.hid h1
  have B1 := Lib.hid b1
  clear hs1 ho1 h1 b1 hu z4
  have hO : Only [Z.ob] w1 (w1.setCell ⟨Z.ob, v, none⟩ (.int .i64 (k : Int))) := (Only.refl _ w1).setCell (p := ⟨Z.ob, v, none⟩) (by simp) _
  have hc2 := H1.out.ho.set v (.int .i64 (k : Int))
  rw [nums_set] at hc2
  have H2 := Lib.hid (H1.out.hop hO hc2 (by rw [List.length_set]; exact HH.out.lo))
  have B2 := Lib.hid (B1.out.trans (hO.below (B := B) (Nat.le_trans hB B1.out.size) (fun q hq => HH.out.new q (by simp only [List.mem_cons, List.not_mem_nil, or_false] at hq ⊢; omega))))
  clear hO hc2
  go_wp2_with fail
  refine (set_any v d _ H2.out.hp HG.out (by rw [HH.out.lh]; exact hv)).mono ?_
  rintro e w3 ⟨rfl, hx⟩
  obtain ⟨h3, b3⟩ := H2.out.heap (Nat.le_trans hB B2.out.size) hx (by rw [(setP_spec HG.out v d (by rw [HH.out.lh]; exact hv)).2.2.1]; exact HH.out.lh)
  have H3 := Lib.hid (And.intro h3 (B2.out.trans b3))
  clear hx h3 b3
  go_wp2_with fail
  go_returns
  exact ⟨rfl, H3.out⟩
theorem DInv.weaken {n : Nat} {W : Nat → List (Nat × Nat)} {r : Int} {u : Nat} {D m : Nat → Option Int} {P Q : Nat → Nat × Nat → Prop} (h : DInv n W r u D m P) (hq : ∀ a t, Q a t → P a t) : DInv n W r u D m Q :=
  ⟨h.src, h.walk, h.q, fun a x s h1 h2 h3 h4 h5 => h.fwd a x s h1 h2 h3 h4 (hq a s h5), h.bnd⟩
theorem Holds.setk {s : HS} {n : Nat} {m : Nat → Option Int} (h : Holds s n m) (id : Nat) (k : Int) (hid : id < n) {m' : Nat → Option Int} (he : ∀ x, m' x = if x = id then some k else m x) : Holds (setP s id k) n m' := by
  obtain ⟨g, hk, hl, -⟩ := setP_spec h.good id k (by rw [h.len]; exact hid)
  refine ⟨g, hl.trans h.len, fun x => ?_⟩
  rw [hk, he, h.key]
structure SData (n : Nat) (l : List AF) (u : Nat) (P : Nat → Nat × Nat → Prop) (c : Nat) (hs : HS) (ds : List (Option Int)) (H : List Nat) (S : List Bool) (m D : Nat → Option Int) : Prop where
  o : Holds hs n m
  i : DInv n (webC l) (-1) u D m P
  d : ∀ x, ds.getD x none = D x
  s : ∀ (x : Nat) (b : Bool), S[x]? = some b → (b = true ↔ (∃ e, D x = some e) ∧ m x = none)
  h : ∀ x ∈ H, x ≤ c
  mo : Mono D m
structure SNow (v : Nat) (k : Int) (D m : Nat → Option Int) : Prop where
  d : D v = some k
  q : m v = none
  top : ∀ x e, D x = some e → m x = none → e ≤ k
def Seen (l : List AF) (v j : Nat) (a : Nat) (t : Nat × Nat) : Prop := a = v → ∃ (i : Nat) (x : AF), cntLt l v ≤ i ∧ i < j ∧ l[i]? = some x ∧ t = (x.2.1.val, x.2.2.val)
theorem SData.weaken {n : Nat} {l : List AF} {u c : Nat} {P Q : Nat → Nat × Nat → Prop} {hs : HS} {ds : List (Option Int)} {H : List Nat} {S : List Bool} {m D : Nat → Option Int} (h : SData n l u P c hs ds H S m D) (hq : ∀ a t, Q a t → P a t) : SData n l u Q c hs ds H S m D :=
  ⟨h.o, h.i.weaken hq, h.d, h.s, h.h, h.mo⟩
theorem SData.row_start {n : Nat} {l : List AF} {u c v : Nat} {hs : HS} {ds : List (Option Int)} {H : List Nat} {S : List Bool} {m D : Nat → Option Int} (h : SData n l u (fun a _ => a ≠ v) c hs ds H S m D) : SData n l u (Seen l v (cntLt l v)) c hs ds H S m D :=
  h.weaken fun a t ht e => by
    obtain ⟨i, x, h1, h2, -⟩ := ht e
    omega
theorem SData.row_end {n : Nat} {l : List AF} (hl : ByFrom l) {u c v : Nat} {hs : HS} {ds : List (Option Int)} {H : List Nat} {S : List Bool} {m D : Nat → Option Int} (h : SData n l u (Seen l v (cntLt l (v + 1))) c hs ds H S m D) : SData n l u (fun _ _ => True) c hs ds H S m D :=
  ⟨h.o, h.i.all (Q := fun t => ∃ (i : Nat) (x : AF), cntLt l v ≤ i ∧ i < cntLt l (v + 1) ∧ l[i]? = some x ∧ t = (x.2.1.val, x.2.2.val)) (fun _ ht => (webC_at hl).1 ht), h.d, h.s, h.h, h.mo⟩
theorem seen_succ {l : List AF} {v j : Nat} {x : AF} (hx : l[j]? = some x) : ∀ a t, Seen l v (j + 1) a t → (a = v → (∃ (i : Nat) (x : AF), cntLt l v ≤ i ∧ i < j ∧ l[i]? = some x ∧ t = (x.2.1.val, x.2.2.val)) ∨ t = (x.2.1.val, x.2.2.val)) := by
  intro a t h e
  obtain ⟨i, y, h1, h2, h3, h4⟩ := h e
  by_cases hij : i < j
  · exact .inl ⟨i, y, h1, hij, h3, h4⟩
  · have : i = j := by omega
    subst this
    rw [hx] at h3
    simp only [Option.some.injEq] at h3
    subst h3
    exact .inr h4
theorem SData.skip {n : Nat} {l : List AF} {u c v j : Nat} {hs : HS} {ds : List (Option Int)} {H : List Nat} {S : List Bool} {m D : Nat → Option Int} {k : Int} {x : AF} (h : SData n l u (Seen l v j) c hs ds H S m D) (hn : n ≤ 65536) (w : SNow v k D m)
    (hx : l[j]? = some x) (hno : ¬ k + ((x.2.2.val : Nat) : Int) < farOf (D x.2.1.val)) : SData n l u (Seen l v (j + 1)) c hs ds H S m D := by
  have h1 := h.i.skip (s := (x.2.1.val, x.2.2.val)) hn w.d (by have := x.2.2.isLt; simp only; omega) (fun _ => hno)
  exact ⟨h.o, h1.weaken (seen_succ hx), h.d, h.s, h.h, h.mo⟩
theorem SData.relax {n : Nat} {l : List AF} {u c v j hp : Nat} {hs : HS} {ds : List (Option Int)} {H : List Nat} {S : List Bool} {m D : Nat → Option Int} {k : Int} {x : AF} (h : SData n l u (Seen l v j) c hs ds H S m D) (hn : n ≤ 65536) (hb : ByFrom l) (w : SNow v k D m)
    (hx : l[j]? = some x) (h1 : cntLt l v ≤ j) (h2 : j < cntLt l (v + 1)) (hxn : x.2.1.val < n) (hlt : k + ((x.2.2.val : Nat) : Int) < farOf (D x.2.1.val)) (hset : ∀ e, D x.2.1.val = some e → m x.2.1.val ≠ none) (hld : ds.length = n) (hhp : hp + 1 ≤ c) :
    ∃ m' D', SData n l u (Seen l v (j + 1)) c (setP hs x.2.1.val (k + ((x.2.2.val : Nat) : Int))) (ds.set x.2.1.val (some (k + ((x.2.2.val : Nat) : Int)))) (H.set x.2.1.val (hp + 1)) S m' D' ∧ SNow v k D' m' := by
  have hmem : (x.2.1.val, x.2.2.val) ∈ webC l v := (webC_at hb).2 ⟨j, x, h1, h2, hx, rfl⟩
  obtain ⟨d1, d2, d3, -⟩ := h.i.relax (s := (x.2.1.val, x.2.2.val)) hn w.d w.q hmem (by simp only; omega) hxn (by have := x.2.2.isLt; simp only; omega) hlt
  simp only at d1 d2 d3
  have hpm : ∀ y, pushM m x.2.1.val (k + ((x.2.2.val : Nat) : Int)) y = if y = x.2.1.val then some (k + ((x.2.2.val : Nat) : Int)) else m y := by
    intro y
    unfold pushM
    by_cases e : y = x.2.1.val
    · rw [if_pos e, if_pos e]
      cases ho : m x.2.1.val with
      | none => rfl
      | some o =>
        have := h.i.q _ _ ho
        rw [this] at hlt
        simp only [farOf] at hlt
        simp only
        rw [if_neg (by omega)]
    · rw [if_neg e, if_neg e]
  refine ⟨_, _, ⟨h.o.setk _ _ hxn hpm, d1.weaken (seen_succ hx), fun y => ?_, fun y b hy => ?_, fun y hy => ?_, h.mo.relax w.top hlt⟩, ⟨d3, d2, Mono.set_after w.top⟩⟩
  · rw [getD_set ds _ _ _ (by omega)]
    unfold updD
    by_cases e : x.2.1.val = y
    · rw [if_pos e, if_pos e.symm]
    · rw [if_neg e, if_neg (fun e' => e e'.symm)]
      exact h.d y
  · rw [h.s y b hy, hpm]
    unfold updD
    by_cases e : y = x.2.1.val
    · subst e
      rw [if_pos rfl, if_pos rfl]
      constructor
      · rintro ⟨⟨e1, h3⟩, h4⟩
        exact absurd h4 (hset e1 h3)
      · rintro ⟨-, h4⟩
        cases h4
    · rw [if_neg e, if_neg e]
  · rcases List.mem_or_eq_of_mem_set hy with h3 | h3
    · exact h.h y h3
    · omega
theorem SData.more {n : Nat} {l : List AF} {u c : Nat} {P : Nat → Nat × Nat → Prop} {hs : HS} {ds : List (Option Int)} {H : List Nat} {S : List Bool} {m D : Nat → Option Int} (h : SData n l u P c hs ds H S m D) {c' : Nat} (hc : c ≤ c') : SData n l u P c' hs ds H S m D :=
  ⟨h.o, h.i, h.d, h.s, fun x hx => Nat.le_trans (h.h x hx) hc, h.mo⟩
theorem SData.pop {n : Nat} {l : List AF} {u c id : Nat} {hs : HS} {ds : List (Option Int)} {H : List Nat} {S : List Bool} {m D : Nat → Option Int} {k : Int} (h : SData n l u (fun _ _ => True) c hs ds H S m D) (hx : hs.1[0]? = some (k, id)) (hl : S.length = n) :
    SData n l u (fun a _ => a ≠ id) c (popP hs) ds H (S.set id true) (eraseM m id) D ∧ SNow id k D (eraseM m id) ∧ id < n ∧ S[id]? = some false := by
  obtain ⟨h1, h2, h3⟩ := h.o.top hx
  have hD := h.i.q _ _ h1
  have hmin : ∀ d e, m d = some e → k ≤ e := fun d e hd => by have := (le2_iff _ _).1 (h3 d e hd); simp at this; omega
  have hS : S[id]? = some false := by
    obtain ⟨b, hb⟩ : ∃ b, S[id]? = some b := ⟨_, List.getElem?_eq_getElem (by omega)⟩
    have := h.s id b hb
    rw [h1] at this
    cases b with
    | false => exact hb
    | true => have := (this.1 rfl).2; cases this
  refine ⟨⟨h.o.pop hx, h.i.pop id, h.d, fun y b hy => ?_, h.h, h.mo.pop hD hmin⟩, ⟨hD, by simp [eraseM], fun y e he hm => ?_⟩, h2, hS⟩
  · rw [List.getElem?_set] at hy
    unfold eraseM
    by_cases e : id = y
    · subst e
      rw [if_pos rfl, if_pos (by omega)] at hy
      simp only [Option.some.injEq] at hy
      subst hy
      rw [if_pos rfl]
      exact ⟨fun _ => ⟨⟨k, hD⟩, rfl⟩, fun _ => rfl⟩
    · rw [if_neg e] at hy
      rw [if_neg (fun e' => e e'.symm)]
      exact h.s y b hy
  · unfold eraseM at hm
    split at hm
    · rename_i e1
      subst e1
      rw [hD] at he
      simp only [Option.some.injEq] at he
      omega
    · exact h.mo y e id k he hm h1
theorem SData.done {n : Nat} {l : List AF} {u c : Nat} {hs : HS} {ds : List (Option Int)} {H : List Nat} {S : List Bool} {m D : Nat → Option Int} (h : SData n l u (fun _ _ => True) c hs ds H S m D) (h0 : hs.1 = []) : IsS (webC l) (-1) u D ∧ ∀ (x : Nat) (b : Bool), S[x]? = some b → (b = true ↔ ∃ e, D x = some e) := by
  have hm := h.o.empty h0
  refine ⟨h.i.done hm, fun x b hb => ?_⟩
  rw [h.s x b hb, hm x]
  simp
theorem SData.start {n : Nat} {l : List AF} {u : Nat} (hu : u < n) : SData n l u (fun _ _ => True) 0 (setP ([], List.replicate n 0) u 0) ((List.replicate n none).set u (some 0)) ((List.replicate n 0).set u 0) (List.replicate n false) (pushM (fun _ => none) u 0) (startD u) := by
  refine ⟨(Holds.new n).setk u 0 hu (fun x => ?_), DInv.start hu, fun x => ?_, fun x b hb => ?_, fun x hx => ?_, Mono.start u⟩
  · unfold pushM
    rfl
  · rw [getD_set _ _ _ _ (by simpa using hu)]
    unfold startD
    by_cases e : u = x
    · rw [if_pos e, if_pos e.symm]
    · rw [if_neg e, if_neg (fun e' => e e'.symm), List.getD_eq_getElem?_getD, List.getElem?_replicate]
      split <;> rfl
  · rw [List.getElem?_replicate] at hb
    split at hb
    · simp only [Option.some.injEq] at hb
      subst hb
      simp only [Bool.false_eq_true, false_iff, not_and]
      rintro ⟨e, he⟩
      unfold startD at he
      split at he
      · rename_i e1; subst e1; simp [pushM]
      · cases he
    · cases hb
  · rcases List.mem_or_eq_of_mem_set hx with h3 | h3
    · have := (List.mem_replicate.1 h3).2
      omega
    · omega
theorem count_mark {S : List Bool} {v : Nat} (h : S[v]? = some false) : (S.set v true).countP id = S.countP id + 1 := by
  obtain ⟨h1, h2⟩ := List.getElem?_eq_some_iff.1 h
  have := List.countP_set (p := id) (a := true) h1
  rw [h2] at this
  simpa using this
end Go.Proofs.YtblkkjfpggcgfaaGreatDoor
