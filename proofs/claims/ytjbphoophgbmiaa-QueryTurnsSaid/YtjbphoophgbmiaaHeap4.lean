/- Contracts of package heap: check, Key, Top, New. -/
import Derived.Test.YtjbphoophgbmiaaHeap3
import Derived.Test.YtjbphoophgbmiaaHeapW
namespace Go.Proofs.Ytjbphoophgbmiaa
open Go.ChangeShapes Go.WideShapes Go.ChangeAt Go.RowKit Go.Joins Go.Deep

theorem check_any {hb ab : Nat} {iv : Value} {s : HS} (id : Nat) (w : World) (h : HRep w hb iv ab s) (hid : id < s.2.length) :
    Calls Try.prog 85 #[.pointer (some ⟨hb, 0, none⟩), .int .u32 id] w fun e w' => e = .returned .nilIface ∧ w = w' := by
  have h1 : w.cell? ⟨hb, 1, none⟩ = some (.slice (some ⟨ab, 0, none⟩) s.2.length s.2.length) := h.hd.cell rfl
  have hn := h.n
  have hd : decide (s.2.length ≤ id) = false := by simp; omega
  clear h
  go_enter Try.func85, Try.ntmps85
  go_wp2
  go_returns
  exact ⟨rfl, rfl⟩

/-- What Key answers. -/
def keyVal : Option Int → Value
  | some k => .tuple #[.int .u64 k, .bool true]
  | none => .tuple #[.int .u64 0, .bool false]

set_option maxRecDepth 100000 in
theorem key_any {hb ab : Nat} {iv : Value} {s : HS} (id : Nat) (w : World) (h : HRep w hb iv ab s) (g : Good s) (hid : id < s.2.length) :
    Calls Try.prog 81 #[.pointer (some ⟨hb, 0, none⟩), .int .u32 id] w fun e w' => e = .returned (keyVal (keyOf s id)) ∧ Below w.heap.size w w' := by
  obtain ⟨pl, hpl⟩ : ∃ pl, s.2[id]? = some pl := ⟨_, List.getElem?_eq_getElem hid⟩
  have h1 : w.cell? ⟨hb, 1, none⟩ = some (.slice (some ⟨ab, 0, none⟩) s.2.length s.2.length) := h.hd.cell rfl
  have hn := h.n
  have hp := (h.place hid).1
  rw [getD_some hpl] at hp
  cases pl with
  | zero =>
    have e1 : keyOf s id = none := by simp [keyOf, hpl]
    rw [e1]
    clear hpl e1
    go_enter Try.func81, Try.ntmps81
    go_wp2_with fail
    refine (check_any id _ h hid).mono ?_
    rintro e w1 ⟨rfl, rfl⟩
    clear h
    go_wp2
    go_returns
    exact ⟨rfl, Below.refl _ _⟩
  | succ p =>
    obtain ⟨x, hx, hxd⟩ := g.wf.b id p hpl
    have hpl' := (List.getElem?_eq_some_iff.1 hx).1
    have e1 : keyOf s id = some x.1 := by rw [← hxd]; exact keyOf_at g.wf hx
    rw [e1]
    obtain ⟨ib, cap, rfl, g0, g1, -, -, -, -, -⟩ := h.item hx
    have h0 : w.cell? ⟨hb, 0, none⟩ = some (.slice (some ⟨ib, 0, none⟩) s.1.length cap) := h.hd.cell rfl
    have hm := h.m
    have eq1 : ((p : Int) + 1 == 0) = false := by rw [beq_eq_false_iff_ne]; omega
    have hp' : w.cell? ⟨ab, id, none⟩ = some (.int .i64 ((p : Int) + 1)) := hp
    clear hp
    clear hpl hx hxd e1
    go_enter Try.func81, Try.ntmps81
    go_wp2_with fail
    refine (check_any id _ h hid).mono ?_
    rintro e w1 ⟨rfl, rfl⟩
    clear h
    go_wp2
    go_quiet (fail)
    go_wp2
    go_returns
    exact ⟨rfl, below_draws _ _ _⟩

theorem top_any {hb ab : Nat} {iv : Value} {s : HS} (w : World) (h : HRep w hb iv ab s) :
    Calls Try.prog 83 #[.pointer (some ⟨hb, 0, none⟩)] w fun e w' => e = .returned (match s.1[0]? with | some x => .tuple #[.int .u32 x.2, .int .u64 x.1, .bool true] | none => .tuple #[.int .u32 0, .int .u64 0, .bool false]) ∧ Below w.heap.size w w' := by
  cases hx : s.1[0]? with
  | none =>
    have hl : s.1.length = 0 := by simpa using hx
    obtain ⟨ao, cap, rfl⟩ := own_form' h.its
    have h0 : w.cell? ⟨hb, 0, none⟩ = some (.slice ao s.1.length cap) := h.hd.cell rfl
    rw [hl] at h0
    clear h hx hl
    go_enter Try.func83, Try.ntmps83
    go_wp2
    go_returns
    exact ⟨rfl, Below.refl _ _⟩
  | some x =>
    have hl := (List.getElem?_eq_some_iff.1 hx).1
    obtain ⟨ib, cap, rfl, g0, g1, -, -, -, -, -⟩ := h.item hx
    have h0 : w.cell? ⟨hb, 0, none⟩ = some (.slice (some ⟨ib, 0, none⟩) s.1.length cap) := h.hd.cell rfl
    have hm := h.m
    have eq1 : ((s.1.length : Int) == 0) = false := by simp; intro e; simp [e] at hl
    rw [Nat.zero_mul] at g0 g1
    rw [Nat.zero_add] at g1
    clear h hx
    go_enter Try.func83, Try.ntmps83
    go_wp2
    go_quiet (fail)
    go_wp2
    go_returns
    exact ⟨rfl, below_draws _ _ _⟩

theorem Try.infoInt : (Try.prog.info? 3).map (fun i => (i.zero, i.size, i.bytes)) = some (some (.int .i64 0), 1, 8) := by kernel_rfl

/-- A new heap: without things. -/
theorem new_any (n : Nat) (hn : n ≤ 65536) (w : World) :
    Calls Try.prog 76 #[.int .i64 n] w fun e w' => e = .returned (.tuple #[.pointer (some ⟨w.heap.size + 1, 0, none⟩), .nilIface]) ∧ HRep w' (w.heap.size + 1) (.slice none 0 0) w.heap.size ([], List.replicate n 0) ∧ Below w.heap.size w w' := by
  have hmk := run_make_row' (P := Try.prog) 40 3 (.int .i64 0) 8 Try.underlying40 Try.infoInt rfl .i64 .i64 n (by omega) (by omega)
  go_enter Try.func76, Try.ntmps76
  go_wp2
  go_returns
  have em : madeCells #[Value.int .i64 0] n = (List.replicate n (Value.int .i64 0)).toArray := by
    rw [← toList_madeCells_one]
  refine ⟨rfl, ⟨?_, World.ownsRow_nil _ _ _ _, ?_, by simp, by simpa using hn, by simp, by simp, by simp [Value.ownBlock], by simp [Value.ownBlock]⟩, by go_grown⟩
  · have := Cells.new (w.alloc (.cells (madeCells #[Value.int .i64 0] n) 3)) 172 [.slice none 0 0, .slice (some ⟨w.heap.size, 0, none⟩) n n]
    simpa using this
  · have := (Cells.new w 3 (List.replicate n (Value.int .i64 0))).alloc (.cells #[.slice none 0 0, .slice (some ⟨w.heap.size, 0, none⟩) n n] 172)
    rw [em]
    simpa using this
end Go.Proofs.Ytjbphoophgbmiaa
