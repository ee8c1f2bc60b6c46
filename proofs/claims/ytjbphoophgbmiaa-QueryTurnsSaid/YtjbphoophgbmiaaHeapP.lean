/- The heap of package heap as lists: what each step makes of its items and of its places. No program here. -/
namespace Go.Proofs.Ytjbphoophgbmiaa
abbrev Item := Int × Nat
/-- Comes a ahead of b? -/
def lt2 (a b : Item) : Bool := decide (a.1 < b.1) || (a.1 == b.1 && decide ((a.2 : Int) < (b.2 : Int)))
abbrev HS := List Item × List Nat
def putP (s : HS) (i : Nat) (x : Item) : HS := (s.1.set i x, s.2.set x.2 (i + 1))
def itemAt (s : HS) (i : Nat) : Item := s.1.getD i (0, 0)
def upP (s : HS) (i : Nat) (x : Item) : HS :=
  if 0 < i then
    if lt2 x (itemAt s ((i - 1) / 4)) then upP (putP s i (itemAt s ((i - 1) / 4))) ((i - 1) / 4) x else putP s i x
  else putP s i x
termination_by i
decreasing_by omega
/-- The best child so far, and one more looked at. -/
def bestStep (s : HS) (i : Nat) (b : Option Nat) (k : Nat) : Option Nat :=
  if i * 4 + 1 + k < s.1.length then
    match b with
    | none => some (i * 4 + 1 + k)
    | some c => if lt2 (itemAt s (i * 4 + 1 + k)) (itemAt s c) then some (i * 4 + 1 + k) else some c
  else b
def bestTo (s : HS) (i : Nat) : Nat → Option Nat
  | 0 => none
  | k + 1 => bestStep s i (bestTo s i k) k
theorem bestStep_range (s : HS) (i : Nat) (b : Option Nat) (k : Nat) (hb : ∀ c, b = some c → i < c ∧ c < s.1.length) : ∀ c, bestStep s i b k = some c → i < c ∧ c < s.1.length := by
  intro c hc
  unfold bestStep at hc
  split at hc
  · cases b with
    | none => simp at hc; omega
    | some d =>
      simp only at hc
      split at hc
      · simp at hc; omega
      · exact hb c hc
  · exact hb c hc
theorem bestTo_range (s : HS) (i : Nat) : ∀ k c, bestTo s i k = some c → i < c ∧ c < s.1.length
  | 0, _, h => by simp [bestTo] at h
  | k + 1, c, h => bestStep_range s i _ k (fun d hd => bestTo_range s i k d hd) c h
theorem putP_length (s : HS) (i : Nat) (x : Item) : (putP s i x).1.length = s.1.length := by simp [putP]
theorem putP_length2 (s : HS) (i : Nat) (x : Item) : (putP s i x).2.length = s.2.length := by simp [putP]
def downP (s : HS) (i : Nat) (x : Item) : HS :=
  match _h : bestTo s i 4 with
  | none => putP s i x
  | some c => if lt2 (itemAt s c) x then downP (putP s i (itemAt s c)) c x else putP s i x
termination_by s.1.length - i
decreasing_by
  have := bestTo_range s i 4 c _h
  rw [putP_length]; omega
theorem downP_none {s : HS} {i : Nat} {x : Item} (h : bestTo s i 4 = none) : downP s i x = putP s i x := by
  rw [downP]; split
  · rfl
  · simp_all
theorem downP_some {s : HS} {i c : Nat} {x : Item} (h : bestTo s i 4 = some c) : downP s i x = if lt2 (itemAt s c) x then downP (putP s i (itemAt s c)) c x else putP s i x := by
  rw [downP]; split
  · simp_all
  · simp_all
end Go.Proofs.Ytjbphoophgbmiaa
