/- The contract of slices.Clone at lists of words. -/
import Derived.Test.YtjbphoophgbmiaaTurn2
import Derived.Laws.Cover3
namespace Go.Proofs.Ytjbphoophgbmiaa
open Go.ChangeShapes Go.WideShapes Go.ChangeAt Go.RowKit Go.Joins Go.Deep

theorem Try.infoU32 : (Try.prog.info? 38).map (fun i => (i.zero, i.size, i.bytes)) = some (some (.int .u32 0), 1, 4) := by kernel_rfl
/-- A slice is nil, or has a place. -/
def SForm (ao : Option Addr) (cap : Nat) : Prop := (ao = none ∧ cap = 0) ∨ ∃ b o, ao = some ⟨b, o, none⟩
def WordsNew (l : List Nat) (w : World) (e : Ending) (w' : World) : Prop :=
  ∃ ao cap, e = .returned (.slice ao l.length cap) ∧ See w' ao cap u32Cells 1 l ∧ (SForm ao cap ∧ ∀ b o, ao = some ⟨b, o, none⟩ → w.heap.size ≤ b) ∧ Below w.heap.size w w'
theorem own_form2 {w : World} {base size n cap : Nat} {e : TypeId} {ao : Option Addr} {xs : List Value} (h : w.ownsRow base e size (.slice ao n cap) n xs) : SForm ao cap := by
  rcases h.2 with ⟨h1, -⟩ | ⟨g, c, cur, h1, -⟩
  · simp only [Value.slice.injEq] at h1
    exact .inl ⟨h1.1, h1.2.2⟩
  · simp only [Value.slice.injEq] at h1
    exact .inr ⟨g, 0, h1.1⟩

theorem run_eql_slice_nil {P : Program} (w : World) (t e : TypeId) (a : Option Addr) (l c : Nat) (h : P.underlying t = some (.slice e)) : (binOp .eql t (.slice a l c) (.slice none 0 0)).run P w = .ok (.bool a.isNone) w := by
  simp only [binOp]
  simp [run_equal_slice_nil w t e a l c h]

set_option maxRecDepth 100000 in
theorem clone_any (l : List Nat) (ao : Option Addr) (cap : Nat) (w : World) (see : See w ao cap u32Cells 1 l) (hf : SForm ao cap) (hl : l.length ≤ 1048577) :
    Calls Try.prog 25 #[.slice ao l.length cap] w (WordsNew l w) := by
  rcases hf with ⟨rfl, rfl⟩ | ⟨b, o, rfl⟩
  · have h0 : l = [] := List.eq_nil_of_length_eq_zero (by have := see.hcap; omega)
    subst h0
    clear see
    have hnl := fun W : World => run_eql_slice_nil (P := Try.prog) W 22 38 none 0 0 Try.underlying22
    simp only [Option.isNone_none] at hnl
    go_enter Try.func25, Try.ntmps25
    go_wp2
    go_returns
    exact ⟨none, 0, rfl, See.nil _ _ _, ⟨.inl ⟨rfl, rfl⟩, fun b o e => by cases e⟩, by go_grown⟩
  · have SEE := Lib.hid see
    clear see
    have hnl := fun W : World => run_eql_slice_nil (P := Try.prog) W 22 38 (some ⟨b, o, none⟩) l.length cap Try.underlying22
    simp only [Option.isNone_some] at hnl
    go_enter Try.func25, Try.ntmps25
    go_wp2_with (at_builtin; refine wpList_app _ rfl _ _ 22 rfl 38 (.int .u32 0) 1 4 Try.underlying22 Try.infoU32 rfl (by decide) (.slice (some ⟨w.heap.size, 0, none⟩) 0 0) 0 [] rfl ?own ⟨b, o, none⟩ l.length cap (l.flatMap u32Cells) rfl ?c0 ?c1 ?c2 ?c3 ?c4 ?_)
    case own => exact ⟨rfl, .inr ⟨w.heap.size, 0, #[], rfl, Nat.zero_le _, heap_alloc_new w _, Nat.le_refl _, Nat.zero_le _, rfl, rfl⟩⟩
    case c0 => exact flat_length u32Cells_len l
    case c1 =>
      intro j u hu
      have hg := flat_get u32Cells_len l j 0 (by omega)
      rw [Nat.mul_one, Nat.add_zero, hu] at hg
      cases hx : l[j]? with
      | none => rw [hx] at hg; cases hg
      | some x =>
        rw [hx] at hg
        obtain ⟨b', o', e, hc⟩ := (SEE.out.alloc (.cells #[] 38)).cell j x hx
        simp only [Option.some.injEq, Addr.mk.injEq, and_true] at e
        obtain ⟨rfl, rfl⟩ := e
        have := hc 0 u hg.symm
        rw [Nat.mul_one, Nat.add_zero] at this
        have e : (⟨b, o, none⟩ : Addr).add j = ⟨b, o + j, none⟩ := by unfold Addr.add; split <;> simp_all
        rw [e]
        exact this
    case c2 =>
      intro u hu
      rw [List.mem_flatMap] at hu
      obtain ⟨x, -, hu⟩ := hu
      simp [u32Cells] at hu
      subst hu
      rfl
    case c3 => unfold maxLen; omega
    case c4 => omega
    intro ao5 cap5 w5 hown5 ho5 hk5
    have hB := ((Below.refl w.heap.size w).alloc (Nat.le_refl _) (.cells #[] 38)).trans (ho5.below (by simp) (fun q hq => by simp [Value.ownBlock] at hq; omega))
    have hnew : ∀ b o, ao5 = some ⟨b, o, none⟩ → w.heap.size ≤ b := by
      intro b o e
      subst e
      rcases hk5 b rfl with h1 | h1
      · simp [Value.ownBlock] at h1; omega
      · omega
    have O5 := Lib.hid hown5
    have NW := Lib.hid hnew
    have B5 := Lib.hid hB
    clear hown5 ho5 hk5 hB hnl hnew
    go_wp2
    go_returns
    exact ⟨ao5, cap5, rfl, (See.of_own u32Cells_len (by simpa using O5.out) (by omega)).1, ⟨own_form2 (by simpa using O5.out), NW.out⟩, B5.out⟩
end Go.Proofs.Ytjbphoophgbmiaa
