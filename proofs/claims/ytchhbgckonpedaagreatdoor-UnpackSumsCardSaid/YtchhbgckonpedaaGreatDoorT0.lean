/- Maps from whole numbers, key by key. -/
import Derived.Test.YtchhbgckonpedaaGreatDoorM1
import Derived.Maps.OwnOps
namespace Go.Proofs.YtchhbgckonpedaaGreatDoor
open Go.ChangeShapes Go.WideShapes Go.ChangeAt Go.RowKit Go.Joins Go.Deep
open Go.ChangeMaps Go.MapKept

theorem only_setBlock {w : World} {b clock : Nat} {es : Array MapEntry} (hb : w.heap[b]? = some (.map es clock)) (o : Obj) : Only [b] w (setBlock w b o) :=
  ⟨rfl, rfl, rfl, by simp [setBlock], fun k _ hn => heap_setBlock_other hb _ (fun e => hn (by simp [e]))⟩
def natKey (r : Nat) : Value := .int .i64 (r : Int)
theorem natKey_inj {a b : Nat} (h : natKey a = natKey b) : a = b := by
  unfold natKey at h
  simp only [Value.int.injEq, true_and] at h
  omega
/-- Block b is a map from whole numbers; f tells what it holds. -/
structure MapI (w : World) (b : Nat) (f : Nat → Option Value) : Prop where
  ex : ∃ es clock, w.heap[b]? = some (.map es clock) ∧ (∀ e ∈ es.toList, ∃ r : Nat, r ≤ 9223372036854775807 ∧ e.key = natKey r) ∧ (∀ (i j : Nat) (a c : MapEntry), es.toList[i]? = some a → es.toList[j]? = some c → a.key = c.key → i = j) ∧
    (∀ (r : Nat) (v : Value), f r = some v ↔ ∃ e ∈ es.toList, e.key = natKey r ∧ e.val = v)
theorem MapI.lt {w : World} {b : Nat} {f : Nat → Option Value} (m : MapI w b f) : b < w.heap.size := by
  obtain ⟨es, clock, hb, -⟩ := m.ex
  exact (Array.getElem?_eq_some_iff.1 hb).1
theorem MapI.below {w w' : World} {b : Nat} {f : Nat → Option Value} (m : MapI w b f) (o : Below w.heap.size w w') : MapI w' b f := by
  have hl := m.lt
  obtain ⟨es, clock, hb, h⟩ := m.ex
  exact ⟨es, clock, (o.block b hl).trans hb, h⟩
theorem MapI.only {w w' : World} {b : Nat} {f : Nat → Option Value} {bs : List Nat} (m : MapI w b f) (o : Only bs w w') (hn : b ∉ bs) : MapI w' b f := by
  have hl := m.lt
  obtain ⟨es, clock, hb, h⟩ := m.ex
  exact ⟨es, clock, (o.block b hl hn).trans hb, h⟩
theorem MapI.made (w : World) : MapI (w.alloc (.map #[] 0)) w.heap.size (fun _ => none) :=
  ⟨#[], 0, (MapKept.heap_alloc w _).1, by simp, by simp, by simp⟩
theorem key_nat {P : Program} {k : TypeId} (hk : P.underlying k = some (.int .i64)) {r : Nat} (hr : r ≤ 9223372036854775807) : Go.keyOf P k (natKey r) = some (.int .i64 (r : Int)) :=
  Maps.keyOf_int_mk hk (WalkArith.wf_i64 (by omega))
/-- What stands at a key. -/
theorem MapI.look {w : World} {b : Nat} {f : Nat → Option Value} {P : Program} {t k E : TypeId} {z : Value} (m : MapI w b f) (ht : P.underlying t = some (.map k E)) (hk : P.underlying k = some (.int .i64)) (hz : (zeroValue E).run P w = .ok z w) {r : Nat} (hr : r ≤ 9223372036854775807) :
    (Instr.lookup t (.map (some b)) (.int .i64 (r : Int)) false).run P w = .ok ((f r).getD z) w := by
  obtain ⟨es, clock, hb, hkeys, huni, hf⟩ := m.ex
  have K := Maps.int_keyed hk
  have hkey := key_nat hk hr
  unfold natKey at hkey
  have hall : ∀ e ∈ es.toList, ∃ l, Go.keyOf P k e.key = some l := fun e he => by
    obtain ⟨q, hq, e1⟩ := hkeys e he
    exact ⟨_, by rw [e1]; exact key_nat hk hq⟩
  rcases K.find w hkey es.toList hall with ⟨h1, h2⟩ | ⟨j, e0, h1, h2, h3⟩
  · have hn : f r = none := by
      cases hfr : f r with
      | none => rfl
      | some v =>
        obtain ⟨e, he, e1, -⟩ := (hf r v).1 hfr
        exact absurd e1 (h2 e he)
    rw [hn]
    simp [Instr.lookup, run_underlying ht, MapKept.run_getObj_map hb, K.check w _ hkey, h1, hz, Result.andThen]
  · have hs : f r = some e0.val := (hf r e0.val).2 ⟨e0, List.mem_of_getElem? h2, h3, rfl⟩
    rw [hs]
    simp [Instr.lookup, run_underlying ht, MapKept.run_getObj_map hb, K.check w _ hkey, h1, Result.andThen]
/-- A value is put at a key. -/
theorem MapI.put {w : World} {b : Nat} {f : Nat → Option Value} {P : Program} {t k E : TypeId} (m : MapI w b f) (ht : P.underlying t = some (.map k E)) (hk : P.underlying k = some (.int .i64)) {r : Nat} (hr : r ≤ 9223372036854775807) (v : Value) :
    ∃ w', (Instr.mapUpdate t (.map (some b)) (.int .i64 (r : Int)) v).run P w = .ok () w' ∧ MapI w' b (fun q => if q = r then some v else f q) ∧ Only [b] w w' := by
  obtain ⟨es, clock, hb, hkeys, huni, hf⟩ := m.ex
  have K := Maps.int_keyed hk
  have hkey := key_nat hk hr
  unfold natKey at hkey
  have hall : ∀ e ∈ es.toList, ∃ l, Go.keyOf P k e.key = some l := fun e he => by
    obtain ⟨q, hq, e1⟩ := hkeys e he
    exact ⟨_, by rw [e1]; exact key_nat hk hq⟩
  rcases K.find w hkey es.toList hall with ⟨h1, h2⟩ | ⟨j, e0, h1, h2, h3⟩
  · refine ⟨setBlock w b (.map (es.push ⟨.int .i64 (r : Int), v, clock⟩) (clock + 1)), ?_, ⟨_, _, heap_setBlock_same hb _, ?_, ?_, ?_⟩, ?_⟩
    · simp [Instr.mapUpdate, run_underlying ht, MapKept.run_getObj_map hb, K.check w false hkey, h1, MapKept.run_setObj_map _ hb, Result.andThen, setBlock]
    · intro e he
      simp only [Array.toList_push, List.mem_append, List.mem_singleton] at he
      rcases he with he | rfl
      · exact hkeys e he
      · exact ⟨r, hr, rfl⟩
    · intro i j a c hi hj hac
      simp only [Array.toList_push, List.getElem?_append] at hi hj
      split at hi <;> split at hj
      · exact huni i j a c hi hj hac
      · have h4 := List.mem_of_getElem? hj
        simp only [List.mem_singleton] at h4
        subst h4
        exact absurd hac (h2 a (List.mem_of_getElem? hi))
      · have h4 := List.mem_of_getElem? hi
        simp only [List.mem_singleton] at h4
        subst h4
        exact absurd hac.symm (h2 c (List.mem_of_getElem? hj))
      · have h4 := (List.getElem?_eq_some_iff.1 hi).1
        have h5 := (List.getElem?_eq_some_iff.1 hj).1
        simp only [List.length_singleton] at h4 h5
        omega
    · intro q u
      simp only [Array.toList_push, List.mem_append, List.mem_singleton]
      by_cases e : q = r
      · subst e
        rw [if_pos rfl]
        constructor
        · intro h
          simp only [Option.some.injEq] at h
          exact ⟨_, .inr rfl, rfl, h⟩
        · rintro ⟨e1, he | rfl, e2, e3⟩
          · exact absurd e2 (h2 e1 he)
          · exact congrArg some e3
      · rw [if_neg e, hf q u]
        constructor
        · rintro ⟨e1, he, e2, e3⟩
          exact ⟨e1, .inl he, e2, e3⟩
        · rintro ⟨e1, he | rfl, e2, e3⟩
          · exact ⟨e1, he, e2, e3⟩
          · exact absurd (natKey_inj e2).symm e
    · exact only_setBlock hb _
  · have hj : es[j]? = some e0 := by simpa using h2
    have hlist : (es.modify j (fun e' => { e' with key := .int .i64 (r : Int), val := v })).toList = es.toList.set j { e0 with key := .int .i64 (r : Int), val := v } := by rw [Array.toList_modify, modify_eq_set _ _ _ _ h2]
    have hjl : j < es.toList.length := (List.getElem?_eq_some_iff.1 h2).1
    refine ⟨setBlock w b (.map (es.modify j (fun e' => { e' with key := .int .i64 (r : Int), val := v })) clock), ?_, ⟨_, _, heap_setBlock_same hb _, ?_, ?_, ?_⟩, ?_⟩
    · simp [Instr.mapUpdate, run_underlying ht, MapKept.run_getObj_map hb, K.check w false hkey, h1, hj, h3, K.stays w hkey, MapKept.run_setObj_map _ hb, Result.andThen, setBlock]
    · intro e he
      rw [hlist] at he
      rcases List.mem_or_eq_of_mem_set he with he | rfl
      · exact hkeys e he
      · exact ⟨r, hr, rfl⟩
    · have key : ∀ (i : Nat) (a : MapEntry), (es.toList.set j { e0 with key := .int .i64 (r : Int), val := v })[i]? = some a → ∃ a' : MapEntry, es.toList[i]? = some a' ∧ a'.key = a.key := by
        intro i a hi
        rw [List.getElem?_set] at hi
        split at hi
        · rename_i e
          subst e
          try rw [if_pos hjl] at hi
          simp only [Option.some.injEq] at hi
          subst hi
          exact ⟨e0, h2, h3⟩
        · exact ⟨a, hi, rfl⟩
      intro i l a c hi hl hac
      rw [hlist] at hi hl
      obtain ⟨a', ha, ea⟩ := key i a hi
      obtain ⟨c', hc, ec⟩ := key l c hl
      exact huni i l a' c' ha hc (by rw [ea, ec, hac])
    · intro q u
      rw [hlist]
      by_cases e : q = r
      · subst e
        rw [if_pos rfl]
        constructor
        · intro h
          simp only [Option.some.injEq] at h
          exact ⟨{ e0 with key := .int .i64 (q : Int), val := v }, List.mem_iff_getElem.2 ⟨j, by simpa using hjl, by simp⟩, rfl, h⟩
        · rintro ⟨e1, he, e2, e3⟩
          obtain ⟨i, hi, rfl⟩ := List.getElem_of_mem he
          have hi' : i < es.toList.length := by simpa using hi
          rw [List.getElem_set] at e2 e3
          split at e3
          · exact congrArg some e3
          · rename_i hne
            rw [if_neg hne] at e2
            exact absurd (huni i j _ e0 (List.getElem?_eq_getElem hi') h2 (e2.trans h3.symm)).symm hne
      · rw [if_neg e, hf q u]
        constructor
        · rintro ⟨e1, he, e2, e3⟩
          obtain ⟨i, hi, rfl⟩ := List.getElem_of_mem he
          have hij : j ≠ i := fun c => by
            subst c
            rw [List.getElem?_eq_getElem hi] at h2
            simp only [Option.some.injEq] at h2
            rw [h2, h3] at e2
            exact e (natKey_inj e2).symm
          exact ⟨_, List.mem_iff_getElem.2 ⟨i, by simpa using hi, by rw [List.getElem_set, if_neg hij]⟩, e2, e3⟩
        · rintro ⟨e1, he, e2, e3⟩
          obtain ⟨i, hi, rfl⟩ := List.getElem_of_mem he
          have hi' : i < es.toList.length := by simpa using hi
          rw [List.getElem_set] at e2 e3
          split at e2
          · exact absurd (natKey_inj e2).symm e
          · rename_i hne
            rw [if_neg hne] at e3
            exact ⟨_, List.getElem_mem hi', e2, e3⟩
    · exact only_setBlock hb _
end Go.Proofs.YtchhbgckonpedaaGreatDoor
