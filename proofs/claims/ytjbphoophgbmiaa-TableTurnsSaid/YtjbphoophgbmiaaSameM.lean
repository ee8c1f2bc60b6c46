/- Are two squares of numbers the same? -/
import Derived.Test.YtjbphoophgbmiaaMatG
import Derived.Test.YtjbphoophgbmiaaErrV
import Derived.Deep.RegionHeld3
import Derived.Deep.Cut

namespace Go.Proofs.Ytjbphoophgbmiaa
open Go.ChangeShapes Go.WideShapes Go.ChangeAt Go.RowKit Go.Joins Go.Deep

set_option linter.unusedSimpArgs false in
set_option maxRecDepth 100000 in
set_option maxHeartbeats 8000000 in
theorem samerow_any (n b1 b2 : Nat) (f g : Nat → Int) (w : World) (hn : n ≤ 65536) (h1 : Cells w b1 33 (rowCells n f)) (h2 : Cells w b2 33 (rowCells n g)) (he : ∀ x, x < n → f x = g x) : Calls Try.prog 44 #[.slice (some ⟨b1, 0, none⟩) n n, .slice (some ⟨b2, 0, none⟩) n n] w (BoolIs true w) := by
  have H1 := Lib.hid h1
  have H2 := Lib.hid h2
  have HE := Lib.hid he
  clear h1 h2 he
  go_enter Try.func44, Try.ntmps44
  go_wp2_with fail
  go_loopg [13] n (fun g vi wr => ∃ i : Nat, vi = .int .i64 i ∧ i ≤ n ∧ g = n - i ∧ Below w.heap.size w wr)
  case atStart => exact ⟨0, rfl, Nat.zero_le _, rfl, Below.refl _ _⟩
  case round =>
    obtain ⟨i, rfl, hi, hgi, hb⟩ := hrel
    obtain ⟨wo, rfl⟩ : ∃ wo : World, wo = wr := ⟨_, rfl⟩
    have HGI := Lib.hid hgi
    have HB := Lib.hid hb
    clear hgi hb
    by_cases hin : i < n
    · have c1 := (H1.out.below HB.out H1.out.lt).cell (rowCells_get (f := f) hin)
      have c2 := (H2.out.below HB.out H2.out.lt).cell (rowCells_get (f := g) hin)
      rw [← HE.out i hin] at c2
      go_upto_region 6 with fail
      go_quiet (fail)
      go_wp2_with fail
      go_roundg (n - (i + 1))
      case measure => rw [HGI.out]; omega
      case rel => exact ⟨i + 1, by go_num, by omega, rfl, below_drewN HB.out nq⟩
    · obtain rfl : i = n := by omega
      go_wp2
      go_returns
      exact ⟨rfl, HB.out⟩

theorem samerow_lit (n b1 b2 : Nat) (f g : Nat → Int) (w : World) (hn : n ≤ 65536) (h1 : Cells w b1 33 (rowCells n f)) (h2 : Cells w b2 33 (rowCells n g)) (he : ∀ x, x < n → f x = g x) : Calls Try.prog 44 #[.slice (some ⟨b1, 0, none⟩) n n, .slice (some ⟨b2, 0, none⟩) n n] w (BoolIs true w) := samerow_any n b1 b2 f g w hn h1 h2 he
set_option linter.unusedSimpArgs false in
set_option maxRecDepth 100000 in
set_option maxHeartbeats 8000000 in
theorem samematrix_any (n b1 b2 : Nat) (r1 r2 : Nat → Nat) (X Y : Nat → Nat → Int) (w : World) (hn : n ≤ 65536) (h1 : MRep n X b1 r1 w) (h2 : MRep n Y b2 r2 w) (he : ∀ v x, v < n → x < n → X v x = Y v x) : Calls Try.prog 19 #[.slice (some ⟨b1, 0, none⟩) n n, .slice (some ⟨b2, 0, none⟩) n n] w (BoolIs true w) := by
  have H1 := Lib.hid h1
  have H2 := Lib.hid h2
  have HE := Lib.hid he
  clear h1 h2 he
  go_enter Try.func19, Try.ntmps19
  go_wp2_with fail
  go_loopg [13] n (fun g vi wr => ∃ i : Nat, vi = .int .i64 i ∧ i ≤ n ∧ g = n - i ∧ Below w.heap.size w wr)
  case atStart => exact ⟨0, rfl, Nat.zero_le _, rfl, Below.refl _ _⟩
  case round =>
    obtain ⟨i, rfl, hi, hgi, hb⟩ := hrel
    obtain ⟨wo, rfl⟩ : ∃ wo : World, wo = wr := ⟨_, rfl⟩
    have HGI := Lib.hid hgi
    have HB := Lib.hid hb
    clear hgi hb
    by_cases hin : i < n
    · have c1 : wo.cell? ⟨b1, i, none⟩ = some (.slice (some ⟨r1 i, 0, none⟩) n n) := (H1.out.below HB.out).m.cell (ptrRow_get hin)
      have c2 : wo.cell? ⟨b2, i, none⟩ = some (.slice (some ⟨r2 i, 0, none⟩) n n) := (H2.out.below HB.out).m.cell (ptrRow_get hin)
      go_upto_region 6 with fail
      go_region_held3 (fun W => W.cell? ⟨b1, i, none⟩ = some (.slice (some ⟨r1 i, 0, none⟩) n n) ∧ W.cell? ⟨b2, i, none⟩ = some (.slice (some ⟨r2 i, 0, none⟩) n n)) (go_keep)
        (first
        | (go_at_call 44; (with_reducible refine (samerow_lit n (r1 i) (r2 i) (X i) (Y i) _ hn ((H1.out.below (HB.out.drew)).r i hin) ((H2.out.below (HB.out.drew)).r i hin) (fun x hx => HE.out i x hin hx)).mono ?_); rintro e w1 ⟨rfl, hb⟩; (have hbd := (HB.out.drew).trans (hb.mono (HB.out.drew).size)); (have d1 := ck hb c1); (have d2 := ck hb c2); (have HB1 := Lib.hid hbd); clear hbd hb))
      go_wp2_with fail
      go_roundg (n - (i + 1))
      case measure => rw [HGI.out]; omega
      case rel => exact ⟨i + 1, by go_num, by omega, rfl, HB1.out⟩
    · obtain rfl : i = n := by omega
      go_wp2
      go_returns
      exact ⟨rfl, HB.out⟩
end Go.Proofs.Ytjbphoophgbmiaa
