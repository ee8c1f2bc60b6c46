/- The contract of hier's weight. -/
import Derived.Test.YtjbphoophgbmiaaHier3
namespace Go.Proofs.Ytjbphoophgbmiaa
open Go.ChangeShapes Go.WideShapes Go.ChangeAt Go.RowKit Go.Joins Go.Deep

def endCells (x : EndD) : List Value := [.int .u32 x.link.to, .int .u64 x.link.wt, .int .u32 x.link.left, .int .u32 x.link.right, .int .i64 x.tail, .int .i64 x.head, .int .i64 x.rank]
theorem endCells_len (x : EndD) : (endCells x).length = 7 := rfl
def EndD.ok (x : EndD) : Prop := x.link.ok ∧ x.tail < 4294967296 ∧ x.head < 4294967296 ∧ x.rank < 4294967296
/-- A slice that is not empty has a place. -/
theorem see_base {α : Type} {w : World} {ao : Option Addr} {cap sz : Nat} {f : α → List Value} {l : List α} (see : See w ao cap f sz l) (h0 : 0 < l.length) (hf : ∀ x, (f x).length = sz) (hs : 0 < sz) :
    ∃ b o, ao = some ⟨b, o, none⟩ ∧ b < w.heap.size ∧ ∀ (i : Nat) (x : α), l[i]? = some x → ∀ (j : Nat) (u : Value), (f x)[j]? = some u → w.cell? ⟨b, o + i * sz + j, none⟩ = some u := by
  obtain ⟨b, o, e, cc⟩ := see.cell 0 l[0] (List.getElem?_eq_getElem h0)
  have hj : 0 < (f l[0]).length := by rw [hf]; exact hs
  refine ⟨b, o, e, block_lt (cc 0 _ (List.getElem?_eq_getElem hj)), fun i x hx => ?_⟩
  obtain ⟨b', o', e', cc'⟩ := see.cell i x hx
  rw [e] at e'
  simp only [Option.some.injEq, Addr.mk.injEq, and_true] at e'
  obtain ⟨rfl, rfl⟩ := e'
  exact cc'
def BoolPost (b : Bool) (w : World) (e : Ending) (w' : World) : Prop := e = .returned (.bool b) ∧ Below w.heap.size w w'

set_option maxRecDepth 100000 in
theorem weight_any (all : List EndD) (ao : Option Addr) (cap i : Nat) (w : World) (see : See w ao cap endCells 7 all) (ok : ∀ x ∈ all, x.ok) (h1 : all.length ≤ 1048576) (hi : i < all.length)
    (hsh : (all.getD i default).link.plain = false → (all.getD i default).link.left < all.length ∧ (all.getD i default).link.right < all.length) :
    Calls Try.prog 50 #[.slice ao all.length cap, .int .i64 i] w (BoolPost (weightB all i) w) := by
  obtain ⟨b, o, rfl, lb, hcell⟩ := see_base see (by omega) endCells_len (by omega)
  obtain ⟨x, hx⟩ : ∃ x, all[i]? = some x := ⟨_, List.getElem?_eq_getElem hi⟩
  have hgx : all.getD i default = x := by rw [List.getD_eq_getElem?_getD, hx]; rfl
  have c0 := hcell i x hx 0 _ rfl
  have c1 := hcell i x hx 1 _ rfl
  have c2 := hcell i x hx 2 _ rfl
  have c3 := hcell i x hx 3 _ rfl
  rw [Nat.add_zero] at c0
  rw [hgx] at hsh
  have hW : weightB all i = if x.link.plain then decide (x.link.wt ≤ 2147483647) else decide (x.link.wt ≤ 140737488355328 ∧ (all.getD x.link.left default).link.wt ≤ 140737488355328 ∧ (all.getD x.link.right default).link.wt ≤ 140737488355328 ∧ (all.getD x.link.left default).link.wt + (all.getD x.link.right default).link.wt = x.link.wt) := by
    unfold weightB; simp only [hgx]
  have HC := Lib.hid hcell
  have OK := Lib.hid ok
  have HSH := Lib.hid hsh
  have hxo := ok x (List.mem_of_getElem? hx)
  have bl := hxo.1.2.2.1
  have br := hxo.1.2.2.2
  have HX := Lib.hid hxo
  clear see ok hcell hx hgx hsh hxo
  cases hp : x.link.plain with
  | true =>
    rw [hp, if_pos rfl] at hW
    have HW := Lib.hid hW
    have HP := Lib.hid hp
    clear hW hp
    go_enter Try.func50, Try.ntmps50
    go_wp2_with fail
    have m0 := (Cells.new w 60 (linkCells x.link))
    refine (plain_any x.link _).mono ?_
    rintro e w1 ⟨rfl, hb1⟩
    have m1 : w1.cell? ⟨w.heap.size, 1, none⟩ = some (.int .u64 x.link.wt) := (m0.below hb1 (by simp)).cell rfl
    have hB : Below w.heap.size w w1 := ((Below.refl w.heap.size w).alloc (Nat.le_refl _) _).trans (hb1.mono (by simp))
    have HB := Lib.hid hB
    rw [HP.out]
    clear m0 hb1 hB
    go_wp2
    go_returns
    refine ⟨?_, HB.out⟩
    rw [HW.out]
    show Ending.returned (.bool (decide ((x.link.wt : Int) ≤ 2147483647))) = _
    rw [show decide ((x.link.wt : Int) ≤ 2147483647) = decide (x.link.wt ≤ 2147483647) from by rw [decide_eq_decide]; omega]
  | false =>
    rw [hp, if_neg (by simp)] at hW
    obtain ⟨hl, hr⟩ := HSH.out hp
    obtain ⟨y, hy⟩ : ∃ y, all[x.link.left]? = some y := ⟨_, List.getElem?_eq_getElem hl⟩
    obtain ⟨z, hz⟩ : ∃ z, all[x.link.right]? = some z := ⟨_, List.getElem?_eq_getElem hr⟩
    have hgy : all.getD x.link.left default = y := by rw [List.getD_eq_getElem?_getD, hy]; rfl
    have hgz : all.getD x.link.right default = z := by rw [List.getD_eq_getElem?_getD, hz]; rfl
    rw [hgy, hgz] at hW
    have cy := HC.out _ y hy 1 _ rfl
    have cz := HC.out _ z hz 1 _ rfl
    have HW := Lib.hid hW
    have HP := Lib.hid hp
    clear hW hp hgy hgz hy hz
    go_enter Try.func50, Try.ntmps50
    go_wp2_with fail
    have m0 := (Cells.new w 60 (linkCells x.link))
    refine (plain_any x.link _).mono ?_
    rintro e w1 ⟨rfl, hb1⟩
    have m1 : w1.cell? ⟨w.heap.size, 1, none⟩ = some (.int .u64 x.link.wt) := (m0.below hb1 (by simp)).cell rfl
    have m2 : w1.cell? ⟨w.heap.size, 2, none⟩ = some (.int .u32 x.link.left) := (m0.below hb1 (by simp)).cell rfl
    have m3 : w1.cell? ⟨w.heap.size, 3, none⟩ = some (.int .u32 x.link.right) := (m0.below hb1 (by simp)).cell rfl
    have hB : Below w.heap.size w w1 := ((Below.refl w.heap.size w).alloc (Nat.le_refl _) _).trans (hb1.mono (by simp))
    have ky : w1.cell? ⟨b, o + x.link.left * 7 + 1, none⟩ = some (.int .u64 y.link.wt) := ck hB cy
    have kz : w1.cell? ⟨b, o + x.link.right * 7 + 1, none⟩ = some (.int .u64 z.link.wt) := ck hB cz
    have HB := Lib.hid hB
    rw [HP.out]
    clear m0 hb1 hB cy cz c0 c1 c2 c3
    by_cases d1 : x.link.wt ≤ 140737488355328
    · have e1 : decide (x.link.wt ≤ 140737488355328) = true := by simpa using d1
      by_cases d2 : y.link.wt ≤ 140737488355328
      · have e2 : decide (y.link.wt ≤ 140737488355328) = true := by simpa using d2
        by_cases d3 : z.link.wt ≤ 140737488355328
        · have e3 : decide (z.link.wt ≤ 140737488355328) = true := by simpa using d3
          go_wp2_with fail
          go_quiet (fail)
          go_wp2
          go_returns
          refine ⟨?_, below_drewN HB.out _⟩
          rw [HW.out]
          show Ending.returned (.bool ((y.link.wt : Int) + (z.link.wt : Int) == (x.link.wt : Int))) = _
          rw [show ((y.link.wt : Int) + (z.link.wt : Int) == (x.link.wt : Int)) = decide (x.link.wt ≤ 140737488355328 ∧ y.link.wt ≤ 140737488355328 ∧ z.link.wt ≤ 140737488355328 ∧ y.link.wt + z.link.wt = x.link.wt) from by
            rw [Bool.eq_iff_iff]; simp; omega]
        · have e3 : decide (z.link.wt ≤ 140737488355328) = false := by simpa using d3
          go_wp2_with fail
          go_quiet (fail)
          go_wp2
          go_returns
          refine ⟨?_, below_drewN HB.out _⟩
          rw [HW.out, decide_eq_false (fun h => d3 h.2.2.1)]
          rfl
      · have e2 : decide (y.link.wt ≤ 140737488355328) = false := by simpa using d2
        go_wp2_with fail
        go_quiet (fail)
        go_wp2
        go_returns
        refine ⟨?_, below_drewN HB.out _⟩
        rw [HW.out, decide_eq_false (fun h => d2 h.2.1)]
        rfl
    · have e1 : decide (x.link.wt ≤ 140737488355328) = false := by simpa using d1
      go_wp2_with fail
      go_quiet (fail)
      go_wp2
      go_returns
      refine ⟨?_, below_drewN HB.out _⟩
      rw [HW.out, decide_eq_false (fun h => d1 h.1)]
      rfl
end Go.Proofs.Ytjbphoophgbmiaa
