/- Are two tables the same, by what is read of them. -/
import Derived.Test.YtjbphoophgbmiaaTabO
import Derived.Test.YtjbphoophgbmiaaSameM
namespace Go.Proofs.Ytjbphoophgbmiaa
open Go.ChangeShapes Go.WideShapes Go.ChangeAt Go.RowKit Go.Joins Go.Deep

def u64C (x : Int) : List Value := [.int .u64 x]
theorem u64C_len (x : Int) : (u64C x).length = 1 := rfl
def valC (v : Value) : List Value := [v]
theorem valC_len (v : Value) : (valC v).length = 1 := rfl
theorem rowCells_flat (k : Nat) (f : Nat → Int) : rowCells k f = ((List.range k).map f).flatMap u64C := by
  unfold rowCells
  rw [List.flatMap_map]
  induction List.range k with
  | nil => rfl
  | cons x l ih => rw [List.map_cons, List.flatMap_cons, ih]; rfl
theorem list_flat (l : List Value) : l = l.flatMap valC := by
  induction l with
  | nil => rfl
  | cons x l ih => rw [List.flatMap_cons, ← ih]; rfl
/-- A table of n rows of k numbers, by what is read of it. -/
structure MSee (n k : Nat) (X : Nat → Nat → Int) (m : Value) (w : World) : Prop where
  ex : ∃ (ao : Option Addr) (cap : Nat) (ro : Nat → Option Addr) (rc : Nat → Nat), m = .slice ao n cap ∧ See w ao cap valC 1 ((List.range n).map fun i => .slice (ro i) k (rc i)) ∧ ∀ i, i < n → See w (ro i) (rc i) u64C 1 ((List.range k).map (X i))
theorem MSee.below {n k : Nat} {X : Nat → Nat → Int} {m : Value} {w w' : World} (h : MSee n k X m w) (o : Below w.heap.size w w') : MSee n k X m w' := by
  obtain ⟨ao, cap, ro, rc, e, h1, h2⟩ := h.ex
  exact ⟨ao, cap, ro, rc, e, h1.below o, fun i hi => (h2 i hi).below o⟩
theorem MSee.nil (k : Nat) (X : Nat → Nat → Int) (w : World) : MSee 0 k X (.slice none 0 0) w := ⟨none, 0, fun _ => none, fun _ => 0, rfl, See.nil _ _ _, fun i hi => absurd hi (by omega)⟩
theorem TabRep.see {n k : Nat} {X : Nat → Nat → Int} {base : Nat} {m : Value} {rb : Nat → Nat} {w : World} (t : TabRep n k X base m rb w) (hk : k ≤ maxLen) : MSee n k X m w := by
  obtain ⟨ao, cap, rfl⟩ := own_form' t.own
  have ho := t.own
  rw [list_flat ((List.range n).map fun i => Value.slice (some ⟨rb i, 0, none⟩) k k)] at ho
  refine ⟨ao, cap, fun i => some ⟨rb i, 0, none⟩, fun _ => k, rfl, (See.of_own valC_len ho (by omega)).1, fun i hi => ?_⟩
  have hc := t.r i hi
  rw [rowCells_flat] at hc
  have := See.of_cells u64C_len hc (by simpa using hk)
  simpa using this
set_option linter.unusedSimpArgs false in
set_option maxRecDepth 100000 in
set_option maxHeartbeats 8000000 in
theorem samerow_see (k : Nat) (f g : Nat → Int) (ao bo : Option Addr) (ac bc : Nat) (w : World) (hk : k ≤ 140737488355328) (h1 : See w ao ac u64C 1 ((List.range k).map f)) (h2 : See w bo bc u64C 1 ((List.range k).map g)) (he : ∀ x, x < k → f x = g x) : Calls Try.prog 44 #[.slice ao k ac, .slice bo k bc] w (BoolIs true w) := by
  have H1 := Lib.hid h1
  have H2 := Lib.hid h2
  have HE := Lib.hid he
  clear h1 h2 he
  go_enter Try.func44, Try.ntmps44
  go_wp2_with fail
  go_loopg [13] k (fun g vi wr => ∃ i : Nat, vi = .int .i64 (i : Int) ∧ i ≤ k ∧ g = k - i ∧ Below w.heap.size w wr)
  case atStart => exact ⟨0, rfl, Nat.zero_le _, rfl, Below.refl _ _⟩
  case round =>
    obtain ⟨i, rfl, hi, hgi, hb⟩ := hrel
    obtain ⟨wo, rfl⟩ : ∃ wo : World, wo = wr := ⟨_, rfl⟩
    have HGI := Lib.hid hgi
    have HB := Lib.hid hb
    clear hgi hb
    by_cases hin : i < k
    · obtain ⟨b1, o1, ea1, cc1⟩ := (H1.out.below HB.out).cell i (f i) (by simp [hin])
      obtain ⟨b2, o2, ea2, cc2⟩ := (H2.out.below HB.out).cell i (g i) (by simp [hin])
      have c1 := cc1 0 _ rfl
      have c2 := cc2 0 _ rfl
      rw [← HE.out i hin] at c2
      rw [Nat.add_zero, Nat.mul_one] at c1 c2
      have EA := Lib.hid ea1
      have EB := Lib.hid ea2
      clear cc1 cc2 ea1 ea2
      rw [EA.out, EB.out]
      go_upto_region 6 with fail
      go_quiet (fail)
      go_wp2_with fail
      rw [← EA.out, ← EB.out]
      go_roundg (k - (i + 1))
      case measure => rw [HGI.out]; omega
      case rel => exact ⟨i + 1, by go_num, by omega, rfl, below_drewN HB.out nq⟩
    · obtain rfl : i = k := by omega
      go_wp2
      go_returns
      exact ⟨rfl, HB.out⟩
set_option linter.unusedSimpArgs false in
set_option maxRecDepth 100000 in
set_option maxHeartbeats 8000000 in
/-- **SameMatrix** of two tables that read alike. -/
theorem samematrix_see (n k : Nat) (X Y : Nat → Nat → Int) (m p : Value) (w : World) (hn : n ≤ 140737488355328) (hk : k ≤ 140737488355328) (h1 : MSee n k X m w) (h2 : MSee n k Y p w) (he : ∀ v x, v < n → x < k → X v x = Y v x) : Calls Try.prog 19 #[m, p] w (BoolIs true w) := by
  obtain ⟨ao, ac, ro, rc, rfl, h3, h4⟩ := h1.ex
  obtain ⟨bo, bc, so, sc, rfl, h5, h6⟩ := h2.ex
  have H1 := Lib.hid h3
  have H2 := Lib.hid h5
  have R1 := Lib.hid h4
  have R2 := Lib.hid h6
  have HE := Lib.hid he
  clear h1 h2 h3 h4 h5 h6 he
  go_enter Try.func19, Try.ntmps19
  go_wp2_with fail
  go_loopg [13] n (fun g vi wr => ∃ i : Nat, vi = .int .i64 (i : Int) ∧ i ≤ n ∧ g = n - i ∧ Below w.heap.size w wr)
  case atStart => exact ⟨0, rfl, Nat.zero_le _, rfl, Below.refl _ _⟩
  case round =>
    obtain ⟨i, rfl, hi, hgi, hb⟩ := hrel
    obtain ⟨wo, rfl⟩ : ∃ wo : World, wo = wr := ⟨_, rfl⟩
    have HGI := Lib.hid hgi
    have HB := Lib.hid hb
    clear hgi hb
    by_cases hin : i < n
    · obtain ⟨b1, o1, ea1, cc1⟩ := (H1.out.below HB.out).cell i (.slice (ro i) k (rc i)) (by simp [hin])
      obtain ⟨b2, o2, ea2, cc2⟩ := (H2.out.below HB.out).cell i (.slice (so i) k (sc i)) (by simp [hin])
      have c1 := cc1 0 _ rfl
      have c2 := cc2 0 _ rfl
      rw [Nat.add_zero, Nat.mul_one] at c1 c2
      have EA := Lib.hid ea1
      have EB := Lib.hid ea2
      clear cc1 cc2 ea1 ea2
      rw [EA.out, EB.out]
      go_upto_region 6 with fail
      go_region_held3 (fun W => W.cell? ⟨b1, o1 + i, none⟩ = some (.slice (ro i) k (rc i)) ∧ W.cell? ⟨b2, o2 + i, none⟩ = some (.slice (so i) k (sc i))) (go_keep)
        (first
        | (go_at_call 44; (with_reducible refine (samerow_see k (X i) (Y i) (ro i) (so i) (rc i) (sc i) _ hk ((R1.out i hin).below (HB.out.drew)) ((R2.out i hin).below (HB.out.drew)) (fun x hx => HE.out i x hin hx)).mono ?_); rintro e w1 ⟨rfl, hb⟩; (have hbd := (HB.out.drew).trans (hb.mono (HB.out.drew).size)); (have hbe := ((Below.refl wo.heap.size wo).drew).trans (hb.mono (Nat.le_refl _))); (have a1 := ck hbe c1); (have a2 := ck hbe c2); (have HB1 := Lib.hid hbd); (clear hbd hbe hb)))
      go_wp2_with fail
      rw [← EA.out, ← EB.out]
      go_roundg (n - (i + 1))
      case measure => rw [HGI.out]; omega
      case rel => exact ⟨i + 1, by go_num, by omega, rfl, HB1.out⟩
    · obtain rfl : i = n := by omega
      go_wp2
      go_returns
      exact ⟨rfl, HB.out⟩
end Go.Proofs.Ytjbphoophgbmiaa
