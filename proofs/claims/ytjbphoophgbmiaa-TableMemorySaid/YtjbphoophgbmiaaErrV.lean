/- The document's errors as plain values: E, At, Bad. -/
import Derived.Test.YtjbphoophgbmiaaQuery4
import Derived.Test.YtjbphoophgbmiaaDistP
import Derived.Laws.StructEq
namespace Go.Proofs.Ytjbphoophgbmiaa
open Go.ChangeShapes Go.WideShapes Go.ChangeAt Go.RowKit Go.Joins Go.Deep

/-- One result, which lies in a block of its own. -/
theorem results_e {P : Program} {fn : Func} {p : Tmp} {ty : TypeId} (h : fn.results = #[.cell p ty]) (tmps : Array Value) (w : World) (g : Nat) (t : TypeId) (cs : List Value) (d : TypeDesc)
    (hp : tmps.getD p undef = .pointer (some ⟨g, 0, none⟩)) (hg : Cells w g t cs)
    (hu : P.underlying ty = some d) (hd : (match d with | .struct _ | .array _ _ => true | _ => false) = true) (hi : (P.info? ty).map (·.size) = some cs.length) :
    (results fn tmps).run P w = .ok (.agg cs.toArray) w := by
  have hp' : tmps[p]?.getD undef = .pointer (some ⟨g, 0, none⟩) := by simpa using hp
  have hr := run_loadVar_row (P := P) w g t ty cs.toArray (0, 0) d hg hu hd (by simpa using hi)
  simp [results, h, hp', asAddr, hr]

theorem cells_at {w : World} {b : Nat} (hb : w.heap.size = b) (t : TypeId) (l : List Value) : Cells (w.alloc (.cells l.toArray t)) b t l := hb ▸ Cells.new w t l
/-- A value that tells an error plainly: its number, and its places. -/
def ErrV (w : World) (v : Value) : EV → Prop
  | .nil => v = .agg #[.int .i64 0, .slice none 0 0]
  | .code n => v = .agg #[.int .i64 n, .slice none 0 0]
  | .at k i n => ∃ g, v = .agg #[.int .i64 n, .slice (some ⟨g, 0, none⟩) 1 1] ∧ Cells w g 122 [.int .i64 k, .int .i64 i]
theorem ErrV.below {w w' : World} {v : Value} {x : EV} (h : ErrV w v x) (o : Below w.heap.size w w') : ErrV w' v x := by
  cases x with
  | nil => exact h
  | code n => exact h
  | «at» k i n => obtain ⟨b, e, hc⟩ := h; exact ⟨b, e, hc.below o hc.lt⟩
/-- The error's number is one of those that there are. -/
def EV.pos : EV → Prop
  | .nil => True
  | .code n => 1 ≤ n ∧ n ≤ 20
  | .at _ _ n => 1 ≤ n ∧ n ≤ 20
theorem ErrV.form {w : World} {v : Value} {x : EV} (h : ErrV w v x) : ∃ (c : Int) (ao : Option Addr) (n cap : Nat), v = .agg #[.int .i64 c, .slice ao n cap] := by
  cases x with
  | nil => exact ⟨_, _, _, _, h⟩
  | code n => exact ⟨_, _, _, _, h⟩
  | «at» k i n => obtain ⟨b, e, hc⟩ := h; exact ⟨_, _, _, _, e⟩
theorem ErrV.parts {w : World} {c : Int} {ao : Option Addr} {n cap : Nat} {x : EV} (h : ErrV w (.agg #[.int .i64 c, .slice ao n cap]) x) (hp : x.pos) : (x = .nil ∧ c = 0 ∧ n = 0) ∨ (x ≠ .nil ∧ 1 ≤ c ∧ c ≤ 20) := by
  cases x with
  | nil =>
    simp only [ErrV] at h
    simp at h
    exact .inl ⟨rfl, h.1, h.2.2.1⟩
  | code m =>
    simp only [ErrV] at h
    simp at h
    simp only [EV.pos] at hp
    exact .inr ⟨by simp, by omega, by omega⟩
  | «at» k i m =>
    obtain ⟨b, e, -⟩ := h
    simp at e
    simp only [EV.pos] at hp
    exact .inr ⟨by simp, by omega, by omega⟩
theorem EV.isNil_iff {x : EV} : x.isNil = true ↔ x = .nil := by cases x <;> simp [EV.isNil]

def BoolIs (b : Bool) (w : World) (e : Ending) (w' : World) : Prop := e = .returned (.bool b) ∧ Below w.heap.size w w'
set_option maxRecDepth 100000 in
theorem bad_any (v : Value) (x : EV) (w : World) (h : ErrV w v x) (hp : x.pos) : Calls Try.prog 39 #[v] w (BoolIs (!x.isNil) w) := by
  obtain ⟨c, ao, n, cap, rfl⟩ := h.form
  rcases h.parts hp with ⟨rfl, rfl, rfl⟩ | ⟨h1, h2, -⟩
  · clear h hp
    go_enter Try.func39, Try.ntmps39
    go_wp2
    go_returns
    exact ⟨rfl, by go_grown⟩
  · have hb : x.isNil = false := by rw [← Bool.not_eq_true, EV.isNil_iff]; exact h1
    have d1 : (c == 0) = false := by simp; omega
    rw [hb]
    clear h hp h1 hb
    go_enter Try.func39, Try.ntmps39
    go_wp2
    go_returns
    exact ⟨rfl, by go_grown⟩

theorem Try.sizeErr : (Try.prog.info? 51).map (·.size) = some 2 := by kernel_rfl
def ErrNew (x : EV) (w : World) (e : Ending) (w' : World) : Prop := ∃ v, e = .returned v ∧ ErrV w' v x ∧ Below w.heap.size w w'
set_option maxRecDepth 100000 in
theorem e_any (n : Int) (w : World) : Calls Try.prog 40 #[.int .i64 n] w (ErrNew (.code n) w) := by
  go_enter Try.func40, Try.ntmps40
  go_wp2
  refine bodyPost_ret (results_e rfl _ _ w.heap.size 51 [.int .i64 n, .slice none 0 0] _ rfl (Cells.new w _ _) Try.underlying51 rfl (by rw [Try.sizeErr]; rfl)) rfl ?_
  exact ⟨_, rfl, rfl, by go_grown⟩
set_option maxRecDepth 100000 in
theorem rat_any (k i n : Int) (w : World) : Calls Try.prog 55 #[.int .i64 k, .int .i64 i, .agg #[.int .i64 n, .slice none 0 0]] w (ErrNew (.at k i n) w) := by
  go_enter Try.func55, Try.ntmps55
  go_wp2
  refine bodyPost_ret (results_e rfl _ _ (w.heap.size + 1) 51 [.int .i64 n, .slice (some ⟨w.heap.size + 1 + 1, 0, none⟩) 1 1] _ rfl ((cells_at (by simp) _ _).alloc _) Try.underlying51 rfl (by rw [Try.sizeErr]; rfl)) rfl ?_
  exact ⟨_, rfl, ⟨_, rfl, cells_at (by simp) _ [.int .i64 k, .int .i64 i]⟩, by go_grown⟩
end Go.Proofs.Ytjbphoophgbmiaa
