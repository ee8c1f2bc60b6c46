/- The reference's Walk along a path of the graph. -/
import Derived.Test.YtchhbgckonpedaaGreatDoorG31
import Derived.Test.YtchhbgckonpedaaGreatDoorG30
namespace Go.Proofs.YtchhbgckonpedaaGreatDoor
open Go.ChangeShapes Go.WideShapes Go.ChangeAt Go.RowKit Go.Joins Go.Deep
theorem steps_get : ∀ {p : List Nat} {j a b : Nat}, p[j]? = some a → p[j + 1]? = some b → (steps p)[j]? = some (a, b) := by
  intro p
  induction p with
  | nil => intro j a b h; simp at h
  | cons x p ih =>
    intro j a b h1 h2
    cases p with
    | nil => simp at h2
    | cons y p =>
      show ((x, y) :: steps (y :: p))[j]? = some (a, b)
      cases j with
      | zero =>
        simp only [List.getElem?_cons_zero, Option.some.injEq] at h1
        simp only [Nat.zero_add, List.getElem?_cons_succ, List.getElem?_cons_zero, Option.some.injEq] at h2
        subst h1 h2
        rfl
      | succ j =>
        simp only [List.getElem?_cons_succ] at h1 h2 ⊢
        exact ih h1 h2
def pairA (x : AF) : Nat × Nat := (x.1.val, x.2.1.val)
def sumW (es : List AF) (k : Nat) : Nat := ((es.take k).map fun x : AF => x.2.2.val).sum
theorem sumW_le (es : List AF) (k : Nat) : sumW es k ≤ k * 2147483647 := by
  unfold sumW
  induction k with
  | zero => simp
  | succ k ih =>
    rw [List.take_add_one]
    cases hx : es[k]? with
    | none =>
      rw [Option.toList_none, List.append_nil]
      exact Nat.le_trans ih (Nat.mul_le_mul_right _ (Nat.le_succ k))
    | some x =>
      have := x.2.2.isLt
      rw [Option.toList_some, List.map_append, List.map_cons, List.map_nil, List.sum_append, List.sum_cons, List.sum_nil, Nat.add_zero, Nat.add_mul, Nat.one_mul]
      exact Nat.add_le_add ih (Nat.le_of_lt_succ this)
theorem sumW_succ {es : List AF} {k : Nat} {x : AF} (h : es[k]? = some x) : sumW es (k + 1) = sumW es k + x.2.2.val := by
  unfold sumW
  rw [List.take_add_one, h, Option.toList_some, List.map_append, List.map_cons, List.map_nil, List.sum_append, List.sum_cons, List.sum_nil, Nat.add_zero]
theorem pair_only {l : List AF} (hn : (l.map pairA).Nodup) {i j : Nat} {x y : AF} (hi : l[i]? = some x) (hj : l[j]? = some y) (e : pairA x = pairA y) : i = j := by
  obtain ⟨h1, e1⟩ := List.getElem?_eq_some_iff.1 hi
  obtain ⟨h2, e2⟩ := List.getElem?_eq_some_iff.1 hj
  rw [List.nodup_iff_pairwise_ne, List.pairwise_iff_getElem] at hn
  rcases Nat.lt_trichotomy i j with c | c | c
  · have := hn i j (by simpa using h1) (by simpa using h2) c
    simp only [List.getElem_map, e1, e2] at this
    exact absurd e this
  · exact c
  · have := hn j i (by simpa using h2) (by simpa using h1) c
    simp only [List.getElem_map, e1, e2] at this
    exact absurd e.symm this
structure WalkOk (G es : List AF) (p : List Nat) (s t : Nat) : Prop where
  head : p.head? = some s
  last : p.getLast? = some t
  nd : p.Nodup
  mem : ∀ x ∈ es, x ∈ G
  st : steps p = es.map pairA
  gd : (G.map pairA).Nodup
theorem WalkOk.arc {G es : List AF} {p : List Nat} {s t : Nat} (h : WalkOk G es p s t) {j a b : Nat} (ha : p[j]? = some a) (hb : p[j + 1]? = some b) : ∃ (x : AF) (ix : Nat), es[j]? = some x ∧ G[ix]? = some x ∧ x.1.val = a ∧ x.2.1.val = b := by
  have := steps_get ha hb
  rw [h.st, List.getElem?_map] at this
  cases hx : es[j]? with
  | none => rw [hx] at this; cases this
  | some x =>
    rw [hx] at this
    simp only [Option.map_some, Option.some.injEq, pairA, Prod.mk.injEq] at this
    obtain ⟨ix, hix⟩ := List.mem_iff_getElem?.1 (h.mem x (List.mem_of_getElem? hx))
    exact ⟨x, ix, rfl, hix, this.1, this.2⟩
theorem steps_len : ∀ p : List Nat, (steps p).length = p.length - 1 := by
  intro p
  induction p with
  | nil => rfl
  | cons x p ih =>
    cases p with
    | nil => rfl
    | cons y p =>
      show ((x, y) :: steps (y :: p)).length = _
      rw [List.length_cons, ih]
      simp
theorem WalkOk.sum {G es : List AF} {p : List Nat} {s t : Nat} (h : WalkOk G es p s t) : sumW es (p.length - 1) = (es.map fun x : AF => x.2.2.val).sum := by
  have h1 := steps_len p
  rw [h.st, List.length_map] at h1
  unfold sumW
  rw [← h1, List.take_length]
set_option linter.unusedSimpArgs false in
set_option maxRecDepth 100000 in
set_option maxHeartbeats 8000000 in
theorem rwalk_any (n : Nat) (la : Option Addr) (N lc : Nat) (G es : List AF) (pa : Option Addr) (pc M : Nat) (p : List Nat) (s t : Nat) (w : World) (see : See w la lc arcCells 3 G) (hN : G.length = N) (hNb : N ≤ 1048576) (sp : See w pa pc i64Cells 1 p) (hM : p.length = M) (hMb : M ≤ 1048576) (ok : WalkOk G es p s t) :
    Calls Tryz.prog 22 #[.agg #[.int .i64 (n : Int), .slice la N lc], .slice pa M pc, .int .i64 (s : Int), .int .i64 (t : Int)] w fun e w' => e = .returned (.tuple #[.int .u64 (((es.map fun x : AF => x.2.2.val).sum : Nat) : Int), .bool true]) ∧ Below w.heap.size w w' := by
  have hp0 : p[0]? = some s := by rw [← List.head?_eq_getElem?]; exact ok.head
  have hM0 : 0 < M := by rw [← hM]; exact (List.getElem?_eq_some_iff.1 hp0).1
  obtain ⟨m, hm⟩ : ∃ m, m + 1 = M := ⟨M - 1, by omega⟩
  have hpl : p[m]? = some t := by
    have := ok.last
    rw [List.getLast?_eq_getElem?, hM] at this
    rw [← this]
    congr 1
    omega
  obtain ⟨b, o, ea, c0⟩ := sp.int hp0
  have hcell : ∀ (j x : Nat), p[j]? = some x → w.cell? ⟨b, o + j, none⟩ = some (.int .i64 (x : Int)) := by
    intro j x hx
    obtain ⟨b', o', e', h⟩ := sp.int hx
    rw [ea] at e'
    simp only [Option.some.injEq, Addr.mk.injEq, and_true] at e'
    obtain ⟨rfl, rfl⟩ := e'
    exact h
  have c1 := hcell m t hpl
  rw [Nat.add_zero] at c0
  have lb := block_lt c0
  have hmi : (M : Int) - 1 = (m : Int) := by omega
  have cmm := IntWalk.i64_in (m : Int) (by omega)
  have hmM : m < M := by omega
  have qM : ((M : Int) == 0) = false := by simp; omega
  have qM2 : (M == 0) = false := by simp; omega
  have qM3 : decide ((M : Int) = 0) = false := by simp; omega
  have SEE := Lib.hid see
  have SP := Lib.hid sp
  have HN := Lib.hid hN
  have HM := Lib.hid hM
  have OK := Lib.hid ok
  have HCELL := Lib.hid hcell
  have HMM := Lib.hid hm
  have EA := Lib.hid ea
  have HX := Lib.hid (Cells.new w 52 [.int .i64 (n : Int), .slice la N lc])
  have HB := Lib.hid ((Below.refl w.heap.size w).alloc (Nat.le_refl _) (.cells #[.int .i64 (n : Int), .slice la N lc] 52))
  rw [ea]
  clear see sp hN hM ok hcell hm ea hp0 hpl
  go_enter Tryz.func22, Tryz.ntmps22
  go_wp2_with fail
  clear qM qM2 qM3 c0 c1
  go_loopg [40, 10] M (fun gg vi vs wr => ∃ i : Nat, vi = .int .i64 i ∧ vs = .int .u64 ((sumW es (i - 1) : Nat) : Int) ∧ i ≤ M ∧ gg = M - i ∧ Cells wr w.heap.size 52 [.int .i64 (n : Int), .slice la N lc] ∧ Below w.heap.size w wr)
  case atStart => exact ⟨0, rfl, rfl, Nat.zero_le _, rfl, HX.out, HB.out⟩
  case round =>
    obtain ⟨i, rfl, rfl, hi, hg, hx, hbl⟩ := hrel
    have HG := Lib.hid hg
    have HX1 := Lib.hid hx
    have HBL := Lib.hid hbl
    have l0 := hx.lt
    clear hg hx hbl
    by_cases hiM : i < M
    · obtain ⟨v, hv⟩ : ∃ v, p[i]? = some v := ⟨_, List.getElem?_eq_getElem (by rw [HM.out]; exact hiM)⟩
      have cv := ck HBL.out (HCELL.out i v hv)
      obtain ⟨o', ho'⟩ := slBase_some b o 0 pc 1
      have hMc : M ≤ pc := by have := SP.out.hcap; have := HM.out; omega
      have hsub := fun W => run_sub_to4 (P := Tryz.prog) 28 3 1 Tryz.underlying28 (fun _ => by kernel_rfl) (some ⟨b, o, none⟩) M pc i .i64 (by omega) W
      rw [ho'] at hsub
      have hss := SP.out.sub 0 i (by rw [HM.out]; omega)
      rw [EA.out, ho', List.drop_zero, Nat.sub_zero] at hss
      have SS := Lib.hid hss
      have HV := Lib.hid hv
      clear hss ho' hv
      go_wp2_with fail
      have HXB := Lib.hid (And.intro HX1.out HBL.out)
      clear HX1 HBL cv l0 hsub
      go_loopg [49, 14] i (fun gg vj v14 wr => ∃ j : Nat, vj = .int .i64 j ∧ j ≤ i ∧ gg = i - j ∧ Cells wr w.heap.size 52 [.int .i64 (n : Int), .slice la N lc] ∧ Below w.heap.size w wr)
      case atStart => exact ⟨0, rfl, Nat.zero_le _, rfl, HXB.out.1, HXB.out.2⟩
      case round =>
        obtain ⟨j, rfl, hj, hg, hx, hbl⟩ := hrel
        have HG2 := Lib.hid hg
        have HX2 := Lib.hid hx
        have HBL2 := Lib.hid hbl
        have l0 := hx.lt
        clear hg hx hbl HXB
        by_cases hji : j < i
        · obtain ⟨y, hy⟩ : ∃ y, p[j]? = some y := ⟨_, List.getElem?_eq_getElem (by rw [HM.out]; omega)⟩
          have hyt : (p.take i)[j]? = some y := by rw [List.getElem?_take, if_pos hji]; exact hy
          obtain ⟨b', o2, e', cy⟩ := SS.out.int hyt
          simp only [Option.some.injEq, Addr.mk.injEq, and_true] at e'
          obtain ⟨rfl, rfl⟩ := e'
          have cy1 := ck HBL2.out cy
          have lb2 := block_lt cy1
          have hne : y ≠ v := fun e => by
            have := nodup_place OK.out.nd hy (by rw [e]; exact HV.out)
            omega
          have q1 : ((y : Int) == (v : Int)) = false := by simp; omega
          have q2 : (y == v) = false := by simp; omega
          have q3 : decide ((y : Int) = (v : Int)) = false := by simp; omega
          clear hy hyt cy hne
          go_wp2_with fail
          go_roundg (i - (j + 1))
          case measure => rw [HG2.out]; omega
          case rel => exact ⟨j + 1, by go_num, by omega, rfl, HX2.out, HBL2.out⟩
        · obtain rfl : j = i := by omega
          by_cases hj0 : j = 0
          · subst hj0
            go_wp2_with fail
            go_roundg (M - (0 + 1))
            case measure => rw [HG.out]; omega
            case rel => exact ⟨1, by go_num, rfl, by omega, rfl, HX2.out, HBL2.out⟩
          · have q1 : ((j : Int) == 0) = false := by simp; omega
            have q2 : (j == 0) = false := by simp; omega
            have q3 : decide ((j : Int) = 0) = false := by simp; omega
            obtain ⟨k0, hk0⟩ : ∃ k, k + 1 = j := ⟨j - 1, by omega⟩
            have hki : (j : Int) - 1 = (k0 : Int) := by omega
            have ck0 := IntWalk.i64_in (k0 : Int) (by omega)
            obtain ⟨u, hu⟩ : ∃ u, p[k0]? = some u := ⟨_, List.getElem?_eq_getElem (by rw [HM.out]; omega)⟩
            obtain ⟨x, ix, hx1, hx2, hx3, hx4⟩ := OK.out.arc hu (by rw [hk0]; exact HV.out)
            have c1 : HX2.out.lt = HX2.out.lt := rfl
            have x1 : wr.cell? ⟨w.heap.size, 1, none⟩ = some (.slice la N lc) := HX2.out.cell rfl
            have HK := Lib.hid (And.intro hk0 (And.intro hx1 (And.intro hx2 (And.intro hx3 (And.intro hx4 hu)))))
            obtain ⟨S0, hS0⟩ : ∃ S0, sumW es (j - 1) = S0 := ⟨_, rfl⟩
            have hS0b : S0 ≤ 1048576 * 2147483647 := by rw [← hS0]; exact Nat.le_trans (sumW_le es (j - 1)) (Nat.mul_le_mul_right _ (by omega))
            have HS0 := Lib.hid hS0
            rw [hS0]
            clear hk0 hx1 hx2 hx3 hx4 hu hS0 c1 l0
            go_wp2_with fail
            have HXB := Lib.hid (And.intro HX2.out HBL2.out)
            have cu := HCELL.out k0 u HK.out.2.2.2.2.2
            have hixN : ix < N := by rw [← HN.out]; exact (List.getElem?_eq_some_iff.1 HK.out.2.2.1).1
            obtain ⟨wt, hwt⟩ : ∃ wt, x.2.2.val = wt := ⟨_, rfl⟩
            have hwb : wt ≤ 2147483647 := by rw [← hwt]; exact Nat.le_of_lt_succ x.2.2.isLt
            have HWT := Lib.hid hwt
            have uw1 : IntKind.u64.wrap (wt : Int) = (wt : Int) := IntWalk.u64_in _ (by omega)
            have uw2 : IntKind.u64.wrap ((S0 : Int) + (wt : Int)) = (S0 : Int) + (wt : Int) := IntWalk.u64_in _ (by omega)
            clear HX2 HBL2 x1 hwt
            go_loopg [62, 15, 10] N (fun gg vk vf vs wr => ∃ k : Nat, vk = .int .i64 k ∧ vf = .bool (decide (ix < k)) ∧ vs = .int .u64 (((S0 + if ix < k then wt else 0) : Nat) : Int) ∧ k ≤ N ∧ gg = N - k ∧ Cells wr w.heap.size 52 [.int .i64 (n : Int), .slice la N lc] ∧ Below w.heap.size w wr)
            case atStart => exact ⟨0, rfl, by simp, by simp, Nat.zero_le _, rfl, HXB.out.1, HXB.out.2⟩
            case round =>
              obtain ⟨k, rfl, rfl, rfl, hk, hg, hx, hbl⟩ := hrel
              have HG3 := Lib.hid hg
              have HX3 := Lib.hid hx
              have HB3 := Lib.hid hbl
              have lg := hx.lt
              clear hg hx hbl HXB
              by_cases hkN : k < N
              · obtain ⟨y, hy⟩ : ∃ y, G[k]? = some y := ⟨_, List.getElem?_eq_getElem (by rw [HN.out]; exact hkN)⟩
                obtain ⟨b2, o2, ea2, cc⟩ := SEE.out.cell k y hy
                have e0 := ck HB3.out (cc 0 _ rfl)
                have e1 := ck HB3.out (cc 1 _ rfl)
                have e2 := ck HB3.out (cc 2 _ rfl)
                rw [Nat.add_zero] at e0
                have lb2 := block_lt e0
                have cu1 := ck HB3.out cu
                have lbu := block_lt cu1
                have EA2 := Lib.hid ea2
                have hk0M : k0 < M := by have := HK.out.1; omega
                have HX4 := Lib.hid (HX3.out.alloc (.cells #[.int .i64 (y.1.val : Int), .int .i64 (y.2.1.val : Int), .int .i64 (y.2.2.val : Int)] 100))
                have HB4 := Lib.hid (HB3.out.alloc HB3.out.size (.cells #[.int .i64 (y.1.val : Int), .int .i64 (y.2.1.val : Int), .int .i64 (y.2.2.val : Int)] 100))
                have HY := Lib.hid hy
                clear cc ea2 hy
                rw [EA2.out]
                by_cases hkx : k = ix
                · subst hkx
                  have hyx : y = x := by have := HY.out; rw [HK.out.2.2.1] at this; simpa using this.symm
                  subst hyx
                  have a1 : y.1.val = u := HK.out.2.2.2.1
                  have a2 : y.2.1.val = v := HK.out.2.2.2.2.1
                  have a3 : y.2.2.val = wt := HWT.out
                  have f1 : (if k < k then wt else 0) = 0 := if_neg (by omega)
                  have f2 : (if k < k + 1 then wt else 0) = wt := if_pos (by omega)
                  have f3 : decide (k < k + 1) = true := by simp
                  have HF := Lib.hid (And.intro f2 f3)
                  rw [f1, Nat.add_zero]
                  rw [a1] at e0 HX4 HB4
                  rw [a2] at e1 HX4 HB4
                  rw [a3] at e2 HX4 HB4
                  clear a1 a2 a3 f1 f2 f3
                  go_wp2_with fail
                  go_quiet (fail)
                  go_wp2_with fail
                  rw [← EA2.out]
                  go_roundg (N - (k + 1))
                  case measure => rw [HG3.out]; omega
                  case rel => exact ⟨k + 1, by go_num, by rw [HF.out.2], by rw [HF.out.1]; rfl, by omega, rfl, HX4.out, below_drewN HB4.out _⟩
                · have hpr : pairA y ≠ pairA x := fun e => hkx (pair_only OK.out.gd HY.out HK.out.2.2.1 e)
                  have f1 : (if ix < k + 1 then wt else 0) = (if ix < k then wt else 0) := by
                    by_cases h : ix < k
                    · rw [if_pos h, if_pos (by omega)]
                    · rw [if_neg h, if_neg (by omega)]
                  have f2 : decide (ix < k + 1) = decide (ix < k) := by
                    by_cases h : ix < k
                    · rw [decide_eq_true h, decide_eq_true (by omega)]
                    · rw [decide_eq_false h, decide_eq_false (by omega)]
                  have HF := Lib.hid (And.intro f1 f2)
                  obtain ⟨Sk, hSk⟩ : ∃ Sk, S0 + (if ix < k then wt else 0) = Sk := ⟨_, rfl⟩
                  obtain ⟨fd, hfd⟩ : ∃ fd, decide (ix < k) = fd := ⟨_, rfl⟩
                  rw [hSk, hfd]
                  have HSK := Lib.hid (And.intro hSk hfd)
                  obtain ⟨a, ha⟩ : ∃ a, y.1.val = a := ⟨_, rfl⟩
                  obtain ⟨c, hc⟩ : ∃ c, y.2.1.val = c := ⟨_, rfl⟩
                  have hpr2 : ¬ (a = u ∧ c = v) := fun e => hpr (by unfold pairA; rw [ha, hc, HK.out.2.2.2.1, HK.out.2.2.2.2.1, e.1, e.2])
                  rw [ha] at e0 HX4 HB4
                  rw [hc] at e1 HX4 HB4
                  clear f1 f2 hSk hfd ha hc hpr
                  by_cases hau : a = u
                  · subst hau
                    have q4 : ((c : Int) == (v : Int)) = false := by simp; omega
                    have q5 : (c == v) = false := by simp; omega
                    have q6 : decide ((c : Int) = (v : Int)) = false := by simp; omega
                    clear hpr2
                    go_wp2_with fail
                    go_quiet (fail)
                    go_wp2_with fail
                    rw [← EA2.out]
                    go_roundg (N - (k + 1))
                    case measure => rw [HG3.out]; omega
                    case rel => exact ⟨k + 1, by go_num, by rw [HF.out.2, HSK.out.2], by rw [HF.out.1, HSK.out.1], by omega, rfl, HX4.out, below_drewN HB4.out _⟩
                  · have q4 : ((a : Int) == (u : Int)) = false := by simp; omega
                    have q5 : (a == u) = false := by simp; omega
                    have q6 : decide ((a : Int) = (u : Int)) = false := by simp; omega
                    clear hpr2 hau
                    go_wp2_with fail
                    go_quiet (fail)
                    go_wp2_with fail
                    rw [← EA2.out]
                    go_roundg (N - (k + 1))
                    case measure => rw [HG3.out]; omega
                    case rel => exact ⟨k + 1, by go_num, by rw [HF.out.2, HSK.out.2], by rw [HF.out.1, HSK.out.1], by omega, rfl, HX4.out, below_drewN HB4.out _⟩
              · obtain rfl : k = N := by omega
                have f1 : (if ix < k then wt else 0) = wt := if_pos hixN
                have f2 : decide (ix < k) = true := by simp; omega
                have hsum : sumW es (j + 1 - 1) = S0 + wt := by
                  have h1 := sumW_succ HK.out.2.1
                  rw [HWT.out] at h1
                  have h2 := HK.out.1
                  rw [show j + 1 - 1 = k0 + 1 by omega, h1, show k0 = j - 1 by omega, HS0.out]
                have HSU := Lib.hid hsum
                rw [f1, f2]
                clear f1 f2 hsum
                go_wp2_with fail
                go_roundg (M - (j + 1))
                case measure => rw [HG.out]; omega
                case rel => exact ⟨j + 1, by go_num, by rw [HSU.out], by omega, rfl, HX3.out, HB3.out⟩
    · obtain rfl : i = M := by omega
      go_wp2_with fail
      go_returns
      have := OK.out.sum
      rw [HM.out] at this
      rw [this]
      exact ⟨rfl, HBL.out⟩
end Go.Proofs.YtchhbgckonpedaaGreatDoor
