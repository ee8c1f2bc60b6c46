/- A list of ints that comes in. -/
import Derived.Test.YtjbphoophgbmiaaOpen
namespace Go.Proofs.Ytjbphoophgbmiaa
open Go.ChangeShapes Go.WideShapes Go.ChangeAt Go.RowKit Go.Joins Go.Deep

def memInt (x : Int) : List Value := [.int .i64 x]
theorem memInt_len (x : Int) : (memInt x).length = 1 := rfl
section
variable {H : Type} {enc : TypeId × Value → H} {P : Program} {w : World}
/-- A list of ints that comes in. -/
theorem open_intlist {t e : TypeId} {v : Value} {b0 base : Nat} {held : Bool} {d : DataW H} {p : List MemPlace} (ht : P.underlying t = some (.slice e)) (he : P.underlying e = some (.int .i64)) (hce : P.cellsOf e = 1) (hv : Value.okWide P w .any b0 t v) (hd : DataW.Trod enc P w base (fun _ => true) held t v d p) :
    ∃ la lc lst, v = .slice la lst.length lc ∧ See w la lc memInt 1 lst ∧ ∀ x ∈ lst, (Lit.int .i64 x).wf = true := by
  have hok := hv
  simp only [Value.okWide, ht] at hok
  obtain ⟨fuel, h⟩ := hd
  rcases ok_slice ht hok with rfl | ⟨b, o, len, cap, rfl⟩
  · exact ⟨none, 0, [], rfl, See.nil _ _ _, by simp⟩
  · simp only [Value.cells] at h
    rcases open_ints ht he hce h with ⟨h1, -⟩ | ⟨a, len2, cap2, zs, h1, -, hl, hm, hz, -, hc, hw⟩
    · simp at h1
    · simp only [List.cons.injEq, and_true, Value.slice.injEq, Option.some.injEq] at h1
      obtain ⟨rfl, rfl, rfl⟩ := h1
      simp only [if_true] at hz
      have hlen : (zs.take len).length = len := by simp; omega
      have hget : ∀ (i : Nat) (x : Int), (zs.take len)[i]? = some x → i < zs.length ∧ zs.getD i 0 = x ∧ (Lit.int .i64 x).wf = true := by
        intro i x hx
        rw [List.getElem?_take] at hx
        split at hx
        · rename_i hi
          have hil : i < zs.length := by omega
          rw [List.getElem?_eq_getElem hil] at hx
          simp only [Option.some.injEq] at hx
          subst hx
          rw [List.getD_eq_getElem?_getD, List.getElem?_eq_getElem hil]
          exact ⟨hil, rfl, hw _ (List.getElem_mem hil)⟩
        · cases hx
      refine ⟨some ⟨b, o, none⟩, cap, zs.take len, by rw [hlen], ⟨by omega, hm, fun i x hx => ⟨b, o, rfl, fun j u hu => ?_⟩⟩, fun x hx => ?_⟩
      · obtain ⟨h3, h4, -⟩ := hget i x hx
        have := hc i h3
        rw [h4] at this
        have e : (⟨b, o, none⟩ : Addr).add i = ⟨b, o + i, none⟩ := by unfold Addr.add; split <;> simp_all
        rw [e] at this
        cases j with
        | zero =>
          simp only [memInt, List.getElem?_cons_zero, Option.some.injEq] at hu
          rw [Nat.mul_one, Nat.add_zero, this, hu]
        | succ j => simp [memInt] at hu
      · obtain ⟨i, hi⟩ := List.getElem?_of_mem hx
        exact (hget i x hi).2.2
end
end Go.Proofs.Ytjbphoophgbmiaa
