/- The web of a hierarchy: as data, and as it lies in memory. -/
import Derived.Test.YtjbphoophgbmiaaDoorWeaveA
namespace Go.Proofs.YtjbphoophgbmiaaDoor
open Go.ChangeShapes Go.WideShapes Go.ChangeAt Go.RowKit Go.Joins Go.Deep

def putS (S : Nat → List (Nat × Nat)) (i : Nat) (s : Nat × Nat) : Nat → List (Nat × Nat) := fun v => if v = i then S v ++ [s] else S v
def webUps (r : Nat) (ls : List LinkD) (S : Nat → List (Nat × Nat)) : Nat → List (Nat × Nat) := ls.foldl (fun S l => putS S r (l.to, l.wt)) S
def webDns (r : Nat) (ls : List LinkD) (S : Nat → List (Nat × Nat)) : Nat → List (Nat × Nat) := ls.foldl (fun S l => putS S l.to (r, l.wt)) S
def webTo (h : HierD) : Nat → Nat → List (Nat × Nat)
  | 0 => fun _ => []
  | r + 1 => webDns r (seg h.dnF h.dn r) (webUps r (seg h.upF h.up r) (webTo h r))
/-- The links of a hierarchy as arcs between ranks: from each rank, up and down. -/
def webD (h : HierD) : Nat → List (Nat × Nat) := webTo h h.node.length

theorem putS_len (S : Nat → List (Nat × Nat)) (i : Nat) (s : Nat × Nat) (v : Nat) : (putS S i s v).length ≤ (S v).length + 1 := by
  unfold putS
  split <;> simp
theorem putS_mem {S : Nat → List (Nat × Nat)} {i v : Nat} {s x : Nat × Nat} : x ∈ putS S i s v ↔ x ∈ S v ∨ (v = i ∧ x = s) := by
  unfold putS
  split
  · rename_i e; simp [e]
  · rename_i e; simp [e]
theorem ups_len (r : Nat) (ls : List LinkD) : ∀ (S : Nat → List (Nat × Nat)) v, (webUps r ls S v).length ≤ (S v).length + ls.length := by
  induction ls with
  | nil => intro S v; simp [webUps]
  | cons l ls ih =>
    intro S v
    have h1 := ih (putS S r (l.to, l.wt)) v
    have h2 := putS_len S r (l.to, l.wt) v
    simp only [webUps, List.foldl_cons, List.length_cons] at h1 ⊢
    omega
theorem dns_len (r : Nat) (ls : List LinkD) : ∀ (S : Nat → List (Nat × Nat)) v, (webDns r ls S v).length ≤ (S v).length + ls.length := by
  induction ls with
  | nil => intro S v; simp [webDns]
  | cons l ls ih =>
    intro S v
    have h1 := ih (putS S l.to (r, l.wt)) v
    have h2 := putS_len S l.to (r, l.wt) v
    simp only [webDns, List.foldl_cons, List.length_cons] at h1 ⊢
    omega
theorem ups_mem (r : Nat) (ls : List LinkD) : ∀ (S : Nat → List (Nat × Nat)) v x, x ∈ webUps r ls S v ↔ x ∈ S v ∨ (v = r ∧ ∃ l ∈ ls, x = (l.to, l.wt)) := by
  induction ls with
  | nil => intro S v x; simp [webUps]
  | cons l ls ih =>
    intro S v x
    have h1 := ih (putS S r (l.to, l.wt)) v x
    simp only [webUps, List.foldl_cons] at h1 ⊢
    rw [h1, putS_mem]
    simp only [List.mem_cons, exists_eq_or_imp]
    constructor
    · rintro ((h | ⟨h, e⟩) | ⟨h, e⟩)
      · exact .inl h
      · exact .inr ⟨h, .inl e⟩
      · exact .inr ⟨h, .inr e⟩
    · rintro (h | ⟨h, e | e⟩)
      · exact .inl (.inl h)
      · exact .inl (.inr ⟨h, e⟩)
      · exact .inr ⟨h, e⟩
theorem dns_mem (r : Nat) (ls : List LinkD) : ∀ (S : Nat → List (Nat × Nat)) v x, x ∈ webDns r ls S v ↔ x ∈ S v ∨ ∃ l ∈ ls, v = l.to ∧ x = (r, l.wt) := by
  induction ls with
  | nil => intro S v x; simp [webDns]
  | cons l ls ih =>
    intro S v x
    have h1 := ih (putS S l.to (r, l.wt)) v x
    simp only [webDns, List.foldl_cons] at h1 ⊢
    rw [h1, putS_mem]
    simp only [List.mem_cons, exists_eq_or_imp]
    constructor
    · rintro ((h | e) | e)
      · exact .inl h
      · exact .inr (.inl e)
      · exact .inr (.inr e)
    · rintro (h | e | e)
      · exact .inl (.inl h)
      · exact .inl (.inr e)
      · exact .inr e
theorem webTo_mem (h : HierD) : ∀ k a (x : Nat × Nat), x ∈ webTo h k a ↔ (a < k ∧ ∃ l ∈ seg h.upF h.up a, x = (l.to, l.wt)) ∨ (x.1 < k ∧ ∃ l ∈ seg h.dnF h.dn x.1, a = l.to ∧ x.2 = l.wt) := by
  intro k
  induction k with
  | zero => intro a x; simp [webTo]
  | succ k ih =>
    intro a x
    simp only [webTo]
    rw [dns_mem, ups_mem, ih]
    constructor
    · rintro (((⟨h1, h2⟩ | ⟨h1, h2⟩) | ⟨rfl, h2⟩) | ⟨l, hl, e1, rfl⟩)
      · exact .inl ⟨by omega, h2⟩
      · exact .inr ⟨by omega, h2⟩
      · exact .inl ⟨by omega, h2⟩
      · exact .inr ⟨by simp, l, hl, e1, rfl⟩
    · rintro (⟨h1, h2⟩ | ⟨h1, l, hl, e1, e2⟩)
      · rcases Nat.lt_or_ge a k with h3 | h3
        · exact .inl (.inl (.inl ⟨h3, h2⟩))
        · obtain rfl : a = k := by omega
          exact .inl (.inr ⟨rfl, h2⟩)
      · rcases Nat.lt_or_ge x.1 k with h3 | h3
        · exact .inl (.inl (.inr ⟨h3, l, hl, e1, e2⟩))
        · have e : x.1 = k := by omega
          rw [e] at hl
          exact .inr ⟨l, hl, e1, Prod.ext e e2⟩
theorem webTo_len {h : HierD} (u : FirstsOk h.node.length h.upF h.up.length) (d : FirstsOk h.node.length h.dnF h.dn.length) : ∀ k, k ≤ h.node.length → ∀ v, (webTo h k v).length ≤ h.upF.getD k 0 + h.dnF.getD k 0 := by
  intro k
  induction k with
  | zero => intro _ v; simp [webTo]
  | succ k ih =>
    intro hk v
    simp only [webTo]
    have h1 := dns_len k (seg h.dnF h.dn k) (webUps k (seg h.upF h.up k) (webTo h k)) v
    have h2 := ups_len k (seg h.upF h.up k) (webTo h k) v
    have h3 := ih (by omega) v
    have h4 := seg_length u k (by omega)
    have h5 := seg_length d k (by omega)
    have h6 := u.mono k (by omega)
    have h7 := d.mono k (by omega)
    omega

/-- The web as it lies in memory: one block of lists, each list of its own. -/
structure WRep (base n : Nat) (S : Nat → List (Nat × Nat)) (bo : Nat) (vs : Nat → Value) (w : World) : Prop where
  o : Cells w bo 140 ((List.range n).map vs)
  own : ∀ i, i < n → w.ownsRow 0 142 2 (vs i) (S i).length ((S i).flatMap stepCells)
  lo : ∀ i, i < n → ∀ q, (vs i).ownBlock = some q → base ≤ q ∧ q ≠ bo
  dis : ∀ i j, i < n → j < n → i ≠ j → ∀ q, (vs i).ownBlock = some q → (vs j).ownBlock ≠ some q
theorem own_lt {w : World} {base size n : Nat} {e : TypeId} {v : Value} {xs : List Value} (h : w.ownsRow base e size v n xs) {q : Nat} (hq : v.ownBlock = some q) : q < w.heap.size := (h.lt q hq).2
theorem WRep.kept {base n : Nat} {S : Nat → List (Nat × Nat)} {bo : Nat} {vs : Nat → Value} {w w' : World} {bs : List Nat} (k : WRep base n S bo vs w) (o : Only bs w w') (h1 : bo ∉ bs) (h2 : ∀ q ∈ bs, q < base ∨ w.heap.size ≤ q) : WRep base n S bo vs w' :=
  ⟨k.o.kept o h1, fun i hi => own_kept (k.own i hi) o (fun q hq hm => by
    have a := k.lo i hi q hq
    have b := own_lt (k.own i hi) hq
    rcases h2 q hm with c | c <;> omega), k.lo, k.dis⟩
theorem WRep.below {base n : Nat} {S : Nat → List (Nat × Nat)} {bo : Nat} {vs : Nat → Value} {w w' : World} (k : WRep base n S bo vs w) (o : Below w.heap.size w w') : WRep base n S bo vs w' :=
  k.kept (bs := []) (Only.of_below o) (by simp) (by simp)
theorem WRep.app {base n : Nat} {S : Nat → List (Nat × Nat)} {bo : Nat} {vs : Nat → Value} {w w' : World} (k : WRep base n S bo vs w) {i : Nat} (hi : i < n) (s : Nat × Nat) (v' : Value) (hbase : base ≤ w.heap.size) (hbo : bo < base)
    (h1 : w'.ownsRow 0 142 2 v' ((S i).length + 1) ((S i).flatMap stepCells ++ stepCells s)) (h2 : ∀ q, v'.ownBlock = some q → (vs i).ownBlock = some q ∨ w.heap.size ≤ q)
    (h3 : Cells w' bo 140 (((List.range n).map vs).set i v')) (h4 : Only (bo :: (vs i).ownBlock.toList) w w') : WRep base n (putS S i s) bo (fun v => if v = i then v' else vs v) w' := by
  refine ⟨?_, fun j hj => ?_, fun j hj q hq => ?_, fun a b ha hb hab q hq he => ?_⟩
  · rw [show (List.range n).map (fun v => if v = i then v' else vs v) = ((List.range n).map vs).set i v' from ?_]
    · exact h3
    · apply List.ext_getElem?
      intro j
      rw [List.getElem?_set]
      simp only [List.getElem?_map, List.length_map, List.length_range]
      by_cases hj : i = j
      · subst hj
        rw [if_pos rfl, if_pos hi, List.getElem?_range hi]
        simp
      · rw [if_neg hj]
        rcases Nat.lt_or_ge j n with hjn | hjn
        · rw [List.getElem?_range hjn]
          have hji : ¬ j = i := fun e => hj e.symm
          simp [hji]
        · rw [List.getElem?_eq_none (by simpa using hjn)]
          rfl
  · by_cases e : j = i
    · subst e
      simp only [if_true, putS]
      rw [List.length_append, List.flatMap_append]
      simpa using h1
    · simp only [if_neg e, putS]
      refine own_kept (k.own j hj) h4 (fun q hq hm => ?_)
      rw [List.mem_cons] at hm
      rcases hm with rfl | hm
      · exact (k.lo j hj _ hq).2 rfl
      · exact k.dis j i hj hi e q hq (by simpa using hm)
  · by_cases e : j = i
    · subst e
      simp only [if_true] at hq
      rcases h2 q hq with c | c
      · exact k.lo j hj q c
      · exact ⟨by omega, by omega⟩
    · simp only [if_neg e] at hq
      exact k.lo j hj q hq
  · by_cases ea : a = i
    · have eb : b ≠ i := fun e => hab (ea.trans e.symm)
      simp only [if_pos ea] at hq
      simp only [if_neg eb] at he
      rcases h2 q hq with c | c
      · exact k.dis i b hi hb (fun e => eb e.symm) q c he
      · have := own_lt (k.own b hb) he
        omega
    · simp only [if_neg ea] at hq
      by_cases eb : b = i
      · simp only [if_pos eb] at he
        rcases h2 q he with c | c
        · exact k.dis a i ha hi ea q hq c
        · have := own_lt (k.own a ha) hq
          omega
      · simp only [if_neg eb] at he
        exact k.dis a b ha hb hab q hq he
end Go.Proofs.YtjbphoophgbmiaaDoor
