/- The form of a hierarchy, as data: what layer 10 answers. No program here. -/
import Derived.Test.YtjbphoophgbmiaaClimb3
namespace Go.Proofs.Ytjbphoophgbmiaa

/-- An error: none, a number, or a number at a place. -/
inductive EV where
  | nil
  | code (n : Int)
  | at (kind i : Int) (n : Int)
  deriving DecidableEq, Repr
def EV.isNil : EV → Bool
  | .nil => true
  | _ => false

def firstsGo (l : List Nat) : Nat → EV
  | 0 => .nil
  | k + 1 => match firstsGo l k with
    | .nil => if l.getD (k + 1) 0 < l.getD k 0 then .at 3 k 14 else .nil
    | e => e
def firstsErr (l : List Nat) (links : Nat) : EV :=
  if l.getD 0 0 ≠ 0 then .code 14
  else match firstsGo l (l.length - 1) with
    | .nil => if l.getD (l.length - 1) 0 ≠ links then .code 14 else .nil
    | e => e
def orderGo (l : List Nat) : Nat → EV
  | 0 => .nil
  | k + 1 => match orderGo l k with
    | .nil => if l.length ≤ l.getD k 0 ∨ l.getD k 0 ∈ l.take k then .at 3 k 20 else .nil
    | e => e
def orderErr (l : List Nat) : EV := orderGo l l.length

structure EndD where
  link : LinkD
  tail : Nat
  head : Nat
  rank : Nat
  deriving DecidableEq, Repr, Inhabited
def LinkD.plain (l : LinkD) : Bool := l.left == 4294967295 && l.right == 4294967295
def endsUp (first : List Nat) (links : List LinkD) (r : Nat) : List EndD := (seg first links r).map fun l => ⟨l, r, l.to, r⟩
def endsDn (first : List Nat) (links : List LinkD) (r : Nat) : List EndD := (seg first links r).map fun l => ⟨l, l.to, r, r⟩
def endsOf (h : HierD) : List EndD := ((List.range h.node.length).flatMap (endsUp h.upF h.up)) ++ ((List.range h.node.length).flatMap (endsDn h.dnF h.dn))
def shapeB (n ups : Nat) (all : List EndD) (i : Nat) : Bool :=
  let x := all.getD i default
  let y := all.getD (i - 1) default
  if n ≤ x.link.to ∨ x.link.to ≤ x.rank then false
  else if 0 < i ∧ i ≠ ups ∧ y.rank = x.rank ∧ x.link.to ≤ y.link.to then false
  else if x.link.plain then true
  else if x.link.left < ups ∨ all.length ≤ x.link.left ∨ ups ≤ x.link.right then false
  else
    let a := all.getD x.link.left default
    let b := all.getD x.link.right default
    decide (a.tail = x.tail ∧ b.head = x.head ∧ a.rank = b.rank)
def weightB (all : List EndD) (i : Nat) : Bool :=
  let l := (all.getD i default).link
  if l.plain then decide (l.wt ≤ 2147483647)
  else
    let a := (all.getD l.left default).link.wt
    let b := (all.getD l.right default).link.wt
    decide (l.wt ≤ 140737488355328 ∧ a ≤ 140737488355328 ∧ b ≤ 140737488355328 ∧ a + b = l.wt)
def linksGo (n ups : Nat) (all : List EndD) : Nat → EV
  | 0 => .nil
  | k + 1 => match linksGo n ups all k with
    | .nil => if shapeB n ups all k = false then .at 4 k 14 else if weightB all k = false then .at 4 k 8 else .nil
    | e => e
def checkErr (h : HierD) : EV :=
  if 65536 < h.node.length ∨ 1048576 < RowKit.wrap64 ((h.up.length : Int) + (h.dn.length : Int)) then .code 9
  else if h.upF.length ≠ h.node.length + 1 ∨ h.dnF.length ≠ h.node.length + 1 then .code 14
  else match firstsErr h.upF h.up.length with
    | .nil => match firstsErr h.dnF h.dn.length with
      | .nil => match orderErr h.node with
        | .nil => linksGo h.node.length h.up.length (endsOf h) (endsOf h).length
        | e => e
      | e => e
    | e => e

theorem firstsGo_nil {l : List Nat} {k : Nat} (h : firstsGo l k = .nil) : ∀ r, r < k → l.getD r 0 ≤ l.getD (r + 1) 0 := by
  induction k with
  | zero => intro r hr; omega
  | succ k ih =>
    intro r hr
    unfold firstsGo at h
    split at h
    · rename_i h0
      rcases Nat.lt_or_ge r k with hk | hk
      · exact ih h0 r hk
      · obtain rfl : r = k := by omega
        split at h
        · cases h
        · omega
    · rename_i e he; exact absurd h he
/-- A list of firsts that is right. -/
structure FirstsOk (n : Nat) (l : List Nat) (links : Nat) : Prop where
  len : l.length = n + 1
  zero : l.getD 0 0 = 0
  mono : ∀ r, r < n → l.getD r 0 ≤ l.getD (r + 1) 0
  last : l.getD n 0 = links
theorem firsts_nil {n : Nat} {l : List Nat} {links : Nat} (hl : l.length = n + 1) (h : firstsErr l links = .nil) : FirstsOk n l links := by
  unfold firstsErr at h
  split at h
  · cases h
  · rename_i h0
    split at h
    · rename_i h1
      split at h
      · cases h
      · rename_i h2
        rw [hl] at h1 h2
        exact ⟨hl, by simpa using h0, firstsGo_nil h1, by simpa using h2⟩
    · rename_i e he; exact absurd h he
theorem FirstsOk.le {n : Nat} {l : List Nat} {links : Nat} (h : FirstsOk n l links) : ∀ r, r ≤ n → l.getD r 0 ≤ links := by
  intro r hr
  have : ∀ k, r + k ≤ n → l.getD r 0 ≤ l.getD (r + k) 0 := by
    intro k
    induction k with
    | zero => intro _; exact Nat.le_refl _
    | succ k ih =>
      intro hk
      have := ih (by omega)
      have := h.mono (r + k) (by omega)
      rw [Nat.add_assoc] at this
      omega
  have := this (n - r) (by omega)
  rw [show r + (n - r) = n by omega, h.last] at this
  exact this
end Go.Proofs.Ytjbphoophgbmiaa
