/- A hierarchy turned about, as data: it is in form, and tells the distances the other way. No program here. -/
import Derived.Test.YtblkkjfpggcgfaaGreatDoorH14
import Derived.Test.YtblkkjfpggcgfaaGreatDoorH6
namespace Go.Proofs.YtblkkjfpggcgfaaGreatDoor
def childOf (ups downs i : Nat) : Nat := if i = 4294967295 then i else if i < ups then i + downs else i - ups
def turnLink (ups downs : Nat) (l : LinkD) : LinkD := ⟨l.to, l.wt, childOf ups downs l.right, childOf ups downs l.left⟩
def turnD (h : HierD) : HierD := ⟨h.node, h.dnF, h.dn.map (turnLink h.up.length h.dn.length), h.upF, h.up.map (turnLink h.up.length h.dn.length)⟩
theorem seg_map (f : LinkD → LinkD) (first : List Nat) (links : List LinkD) (r : Nat) : seg first (links.map f) r = (seg first links r).map f := by
  unfold seg
  rw [← List.map_take, ← List.map_drop]
theorem getD_app_left {α : Type} (l m : List α) (i : Nat) (d : α) (h : i < l.length) : (l ++ m).getD i d = l.getD i d := by
  rw [List.getD_eq_getElem?_getD, List.getElem?_append_left h, List.getD_eq_getElem?_getD]
theorem getD_app_right {α : Type} (l m : List α) (i : Nat) (d : α) (h : l.length ≤ i) : (l ++ m).getD i d = m.getD (i - l.length) d := by
  rw [List.getD_eq_getElem?_getD, List.getElem?_append_right h, List.getD_eq_getElem?_getD]
theorem getD_map_lt {α β : Type} (f : α → β) (l : List α) (i : Nat) (a : α) (b : β) (h : i < l.length) : (l.map f).getD i b = f (l.getD i a) := by
  rw [List.getD_eq_getElem?_getD, List.getElem?_map, List.getD_eq_getElem?_getD, List.getElem?_eq_getElem h]
  rfl
end Go.Proofs.YtblkkjfpggcgfaaGreatDoor
/- What a hierarchy turned about answers; what is answered for a node and itself. No program here. -/
namespace Go.Proofs.YtblkkjfpggcgfaaGreatDoor
theorem IsD.turn {n : Nat} {first : List Nat} {links : List LinkD} {s : Nat} {D : Nat → Option Int} (f : LinkD → LinkD) (hto : ∀ l, (f l).to = l.to) (hwt : ∀ l, (f l).wt = l.wt) : IsD n first (links.map f) s D ↔ IsD n first links s D := by
  constructor
  · intro h
    refine ⟨h.src, fun x d l hx hd hl => ?_, fun r e hr he => ?_, h.dom⟩
    · obtain ⟨e, h1, h2⟩ := h.fwd x d (f l) hx hd (by rw [seg_map]; exact List.mem_map_of_mem hl)
      exact ⟨e, by rw [← hto l]; exact h1, by rw [← hwt l]; exact h2⟩
    · obtain ⟨x, d, l, hx, hd, hl, h1, h2⟩ := h.bwd r e hr he
      rw [seg_map, List.mem_map] at hl
      obtain ⟨l', hl', rfl⟩ := hl
      exact ⟨x, d, l', hx, hd, hl', by rw [← hto l']; exact h1, by rw [← hwt l']; exact h2⟩
  · intro h
    refine ⟨h.src, fun x d l hx hd hl => ?_, fun r e hr he => ?_, h.dom⟩
    · rw [seg_map, List.mem_map] at hl
      obtain ⟨l', hl', rfl⟩ := hl
      obtain ⟨e, h1, h2⟩ := h.fwd x d l' hx hd hl'
      exact ⟨e, by rw [hto l']; exact h1, by rw [hwt l']; exact h2⟩
    · obtain ⟨x, d, l, hx, hd, hl, h1, h2⟩ := h.bwd r e hr he
      exact ⟨x, d, f l, hx, hd, by rw [seg_map]; exact List.mem_map_of_mem hl, by rw [hto l]; exact h1, by rw [hwt l]; exact h2⟩
theorem meetTo_congr {D E D' E' : Nat → Option Int} (hD : ∀ r, D r = D' r) (hE : ∀ r, E r = E' r) (k : Nat) : meetTo D E k = meetTo D' E' k := by
  rw [show D = D' from funext hD, show E = E' from funext hE]
theorem nodesErr_nil {n : Nat} {s t : Int} : nodesErr n s t = .nil ↔ (0 ≤ s ∧ s < n) ∧ 0 ≤ t ∧ t < n := by
  unfold nodesErr
  split
  · rename_i h; exact ⟨fun e => (by cases e), fun h' => by omega⟩
  split
  · rename_i h1 h; exact ⟨fun e => (by cases e), fun h' => by omega⟩
  · exact ⟨fun _ => by omega, fun _ => rfl⟩
theorem MeetIs.same {h : HierD} {s t : Int} {r r' : Nat} {d d' : Int} {x x' : EV} (a : MeetIs h s t r d x) (b : MeetIs h s t r' d' x') : r = r' ∧ d = d' ∧ x = x' := by
  have key : ∀ {D E D' E' : Nat → Option Int}, checkErr h = .nil → IsD h.node.length h.upF h.up (h.node.idxOf s.toNat) D → IsD h.node.length h.dnF h.dn (h.node.idxOf t.toNat) E → IsD h.node.length h.upF h.up (h.node.idxOf s.toNat) D' → IsD h.node.length h.dnF h.dn (h.node.idxOf t.toNat) E' → meetTo D E h.node.length = meetTo D' E' h.node.length :=
    fun e hD hE hD' hE' => meetTo_congr (hD.unique (half_up e) hD') (hE.unique (half_dn e) hE') _
  cases a with
  | form e =>
    cases b with
    | form _ => exact ⟨rfl, rfl, rfl⟩
    | nodes e' _ => exact absurd e' e
    | walk _ _ _ _ e' => exact absurd e' e
    | none _ _ e' => exact absurd e' e
  | nodes e k =>
    cases b with
    | form e' => exact absurd e e'
    | nodes _ _ => exact ⟨rfl, rfl, rfl⟩
    | walk _ _ _ _ _ k' => exact absurd k' k
    | none _ _ _ k' => exact absurd k' k
  | walk D E _ _ e k hD hE hm hd =>
    cases b with
    | form e' => exact absurd e e'
    | nodes _ k' => exact absurd k k'
    | walk D' E' _ _ _ _ hD' hE' hm' hd' =>
      have := key e hD hE hD' hE'
      rw [hm, hm'] at this
      simp only [Prod.mk.injEq] at this
      exact ⟨this.1, this.2, rfl⟩
    | none D' E' _ _ hD' hE' hd' =>
      have := key e hD hE hD' hE'
      rw [hm] at this
      rw [← this] at hd'
      exact absurd hd' hd
  | none D E e k hD hE hd =>
    cases b with
    | form e' => exact absurd e e'
    | nodes _ k' => exact absurd k k'
    | walk D' E' _ _ _ _ hD' hE' hm' hd' =>
      have := key e hD hE hD' hE'
      rw [hm'] at this
      rw [this] at hd
      exact absurd hd hd'
    | none _ _ _ _ _ _ _ => exact ⟨rfl, rfl, rfl⟩
theorem MeetIs.turned {h : HierD} {s t : Int} {r r' : Nat} {d d' : Int} {x x' : EV} (hc : checkErr h = .nil) (hc' : checkErr (turnD h) = .nil) (a : MeetIs h s t r d x) (b : MeetIs (turnD h) t s r' d' x') : r = r' ∧ d = d' ∧ (x = .nil ↔ x' = .nil) := by
  have hk : nodesErr h.node.length s t = .nil ↔ nodesErr h.node.length t s = .nil := by rw [nodesErr_nil, nodesErr_nil]; exact And.comm
  have key : ∀ {D E D' E' : Nat → Option Int}, IsD h.node.length h.upF h.up (h.node.idxOf s.toNat) D → IsD h.node.length h.dnF h.dn (h.node.idxOf t.toNat) E → IsD (turnD h).node.length (turnD h).upF (turnD h).up ((turnD h).node.idxOf t.toNat) D' → IsD (turnD h).node.length (turnD h).dnF (turnD h).dn ((turnD h).node.idxOf s.toNat) E' → meetTo D E h.node.length = meetTo D' E' (turnD h).node.length := by
    intro D E D' E' hD hE hD' hE'
    have h1 : IsD h.node.length h.dnF h.dn (h.node.idxOf t.toNat) D' := (IsD.turn (turnLink h.up.length h.dn.length) (fun _ => rfl) (fun _ => rfl)).1 hD'
    have h2 : IsD h.node.length h.upF h.up (h.node.idxOf s.toNat) E' := (IsD.turn (turnLink h.up.length h.dn.length) (fun _ => rfl) (fun _ => rfl)).1 hE'
    rw [meetTo_swap]
    exact meetTo_congr (hE.unique (half_dn hc) h1) (hD.unique (half_up hc) h2) _
  cases a with
  | form e => exact absurd hc e
  | nodes e k =>
    cases b with
    | form e' => exact absurd hc' e'
    | nodes _ k' => exact ⟨rfl, rfl, ⟨fun h => absurd h k, fun h => absurd h k'⟩⟩
    | walk _ _ _ _ _ k' => exact absurd (hk.2 k') k
    | none _ _ _ k' => exact absurd (hk.2 k') k
  | walk D E _ _ e k hD hE hm hd =>
    cases b with
    | form e' => exact absurd hc' e'
    | nodes _ k' => exact absurd (hk.1 k) k'
    | walk D' E' _ _ _ _ hD' hE' hm' hd' =>
      have := key hD hE hD' hE'
      rw [hm, hm'] at this
      simp only [Prod.mk.injEq] at this
      exact ⟨this.1, this.2, Iff.rfl⟩
    | none D' E' _ _ hD' hE' hd' =>
      have := key hD hE hD' hE'
      rw [hm] at this
      rw [← this] at hd'
      exact absurd hd' hd
  | none D E e k hD hE hd =>
    cases b with
    | form e' => exact absurd hc' e'
    | nodes _ k' => exact absurd (hk.1 k) k'
    | walk D' E' _ _ _ _ hD' hE' hm' hd' =>
      have := key hD hE hD' hE'
      rw [hm'] at this
      rw [this] at hd
      exact absurd hd hd'
    | none _ _ _ _ _ _ _ => exact ⟨rfl, rfl, Iff.rfl⟩
end Go.Proofs.YtblkkjfpggcgfaaGreatDoor
/- The distances upwards as the document reckons them, rank by rank: they are the least lengths. The example of three nodes. No program here. -/
namespace Go.Proofs.YtblkkjfpggcgfaaGreatDoor
def relaxD (d : Int) (D : Nat → Option Int) (l : LinkD) : Nat → Option Int := fun r => if r = l.to then some (match D r with | some e => if d + l.wt < e then d + l.wt else e | none => d + l.wt) else D r
def farOf : Option Int → Int
  | some d => d
  | none => 18446744073709551615
def startD (s : Nat) : Nat → Option Int := fun r => if r = s then some 0 else none
def distsK (first : List Nat) (links : List LinkD) (s : Nat) : Nat → Nat → Option Int
  | 0 => startD s
  | k + 1 => match distsK first links s k k with
    | none => distsK first links s k
    | some d => (seg first links k).foldl (relaxD d) (distsK first links s k)
theorem relax_le (d : Int) (ls : List LinkD) (k : Nat) (h : ∀ l ∈ ls, k < l.to) : ∀ (D : Nat → Option Int) r, r ≤ k → ls.foldl (relaxD d) D r = D r := by
  induction ls with
  | nil => intro D r _; rfl
  | cons l ls ih =>
    intro D r hr
    rw [List.foldl_cons, ih (fun x hx => h x (by simp [hx])) _ r hr]
    have := h l (by simp)
    exact if_neg (by omega)
theorem relax_mono (d : Int) (ls : List LinkD) : ∀ (D : Nat → Option Int) r e, D r = some e → ∃ e', ls.foldl (relaxD d) D r = some e' ∧ e' ≤ e := by
  induction ls with
  | nil => intro D r e h; exact ⟨e, h, Int.le_refl _⟩
  | cons l ls ih =>
    intro D r e h
    rw [List.foldl_cons]
    have : ∃ e1, relaxD d D l r = some e1 ∧ e1 ≤ e := by
      unfold relaxD
      by_cases hr : r = l.to
      · rw [if_pos hr, h]
        simp only
        by_cases h1 : d + l.wt < e
        · rw [if_pos h1]; exact ⟨_, rfl, by omega⟩
        · rw [if_neg h1]; exact ⟨_, rfl, Int.le_refl _⟩
      · rw [if_neg hr]; exact ⟨e, h, Int.le_refl _⟩
    obtain ⟨e1, h1, h2⟩ := this
    obtain ⟨e2, h3, h4⟩ := ih _ r e1 h1
    exact ⟨e2, h3, by omega⟩
theorem relax_new (d : Int) (ls : List LinkD) : ∀ (D : Nat → Option Int), ∀ l ∈ ls, ∃ e, ls.foldl (relaxD d) D l.to = some e ∧ e ≤ d + l.wt := by
  induction ls with
  | nil => intro D l h; cases h
  | cons x ls ih =>
    intro D l h
    rw [List.foldl_cons]
    rw [List.mem_cons] at h
    rcases h with rfl | h
    · have : ∃ e1, relaxD d D l l.to = some e1 ∧ e1 ≤ d + l.wt := by
        unfold relaxD
        rw [if_pos rfl]
        cases D l.to with
        | none => exact ⟨_, rfl, Int.le_refl _⟩
        | some e =>
          simp only
          by_cases h1 : d + l.wt < e
          · rw [if_pos h1]; exact ⟨_, rfl, Int.le_refl _⟩
          · rw [if_neg h1]; exact ⟨_, rfl, by omega⟩
      obtain ⟨e1, h1, h2⟩ := this
      obtain ⟨e2, h3, h4⟩ := relax_mono d ls _ _ _ h1
      exact ⟨e2, h3, by omega⟩
    · exact ih _ l h
theorem relax_src (d : Int) (ls : List LinkD) : ∀ (D : Nat → Option Int) r e, ls.foldl (relaxD d) D r = some e → D r = some e ∨ ∃ l ∈ ls, l.to = r ∧ e = d + l.wt := by
  induction ls with
  | nil => intro D r e h; exact .inl h
  | cons x ls ih =>
    intro D r e h
    rw [List.foldl_cons] at h
    rcases ih _ r e h with h1 | ⟨l, hl, h1⟩
    · unfold relaxD at h1
      by_cases hr : r = x.to
      · rw [if_pos hr] at h1
        cases hD : D r with
        | none =>
          rw [hD] at h1
          simp only [Option.some.injEq] at h1
          exact .inr ⟨x, by simp, hr.symm, h1.symm⟩
        | some e0 =>
          rw [hD] at h1
          simp only [Option.some.injEq] at h1
          by_cases h2 : d + x.wt < e0
          · rw [if_pos h2] at h1
            exact .inr ⟨x, by simp, hr.symm, h1.symm⟩
          · rw [if_neg h2] at h1
            exact .inl (by rw [h1])
      · rw [if_neg hr] at h1
        exact .inl h1
    · exact .inr ⟨l, by simp [hl], h1⟩
structure DistK (n : Nat) (first : List Nat) (links : List LinkD) (s k : Nat) (D : Nat → Option Int) : Prop where
  src : D s = some 0
  fwd : ∀ x d l, x < k → D x = some d → l ∈ seg first links x → ∃ e, D l.to = some e ∧ e ≤ d + l.wt
  bwd : ∀ r e, r ≠ s → D r = some e → ∃ x d l, x < k ∧ x < r ∧ D x = some d ∧ l ∈ seg first links x ∧ l.to = r ∧ e = d + l.wt
  dom : ∀ r e, D r = some e → r < n
  low : ∀ r e, D r = some e → s ≤ r
theorem distsK_ok {n : Nat} {first : List Nat} {links : List LinkD} {s : Nat} (ok : HalfOk n first links) (hs : s < n) : ∀ k, k ≤ n → DistK n first links s k (distsK first links s k) := by
  intro k
  induction k with
  | zero =>
    intro _
    refine ⟨by simp [distsK, startD], fun x d l h => by omega, fun r e hr h => ?_, fun r e h => ?_, fun r e h => ?_⟩
    · simp [distsK, startD, hr] at h
    · by_cases hr : r = s
      · omega
      · simp [distsK, startD, hr] at h
    · by_cases hr : r = s
      · omega
      · simp [distsK, startD, hr] at h
  | succ k ih =>
    intro hk
    have I := ih (by omega)
    conv => rhs; unfold distsK
    cases hD : distsK first links s k k with
    | none =>
      simp only
      refine ⟨I.src, fun x d l hx hd hl => ?_, fun r e hr h => ?_, I.dom, I.low⟩
      · rcases Nat.lt_or_ge x k with h1 | h1
        · exact I.fwd x d l h1 hd hl
        · obtain rfl : x = k := by omega
          rw [hD] at hd; cases hd
      · obtain ⟨x, d, l, h1, h2⟩ := I.bwd r e hr h
        exact ⟨x, d, l, by omega, h2⟩
    | some d =>
      simp only
      have hup : ∀ l ∈ seg first links k, k < l.to := fun l hl => (ok.up k (by omega) l hl).1
      have hle := relax_le d (seg first links k) k hup (distsK first links s k)
      have hsk := I.low k d hD
      refine ⟨by rw [hle s hsk]; exact I.src, fun x d' l hx hd hl => ?_, fun r e hr h => ?_, fun r e h => ?_, fun r e h => ?_⟩
      · rw [hle x (by omega)] at hd
        rcases Nat.lt_or_ge x k with h1 | h1
        · obtain ⟨e, h2, h3⟩ := I.fwd x d' l h1 hd hl
          obtain ⟨e', h4, h5⟩ := relax_mono d (seg first links k) _ _ _ h2
          exact ⟨e', h4, by omega⟩
        · obtain rfl : x = k := by omega
          rw [hD] at hd
          simp only [Option.some.injEq] at hd
          subst hd
          exact relax_new d _ _ l hl
      · rcases relax_src d _ _ r e h with h1 | ⟨l, hl, hto, he⟩
        · obtain ⟨x, d', l, h2, h3, h4, h5⟩ := I.bwd r e hr h1
          exact ⟨x, d', l, by omega, h3, by rw [hle x (by omega)]; exact h4, h5⟩
        · exact ⟨k, d, l, by omega, by rw [← hto]; exact hup l hl, by rw [hle k (Nat.le_refl _)]; exact hD, hl, hto, he⟩
      · rcases relax_src d _ _ r e h with h1 | ⟨l, hl, hto, he⟩
        · exact I.dom r e h1
        · rw [← hto]; exact (ok.up k (by omega) l hl).2.1
      · rcases relax_src d _ _ r e h with h1 | ⟨l, hl, hto, he⟩
        · exact I.low r e h1
        · have := hup l hl
          omega
theorem dists_isD {n : Nat} {first : List Nat} {links : List LinkD} {s : Nat} (ok : HalfOk n first links) (hs : s < n) : IsD n first links s (distsK first links s n) := by
  have I := distsK_ok ok hs n (Nat.le_refl _)
  exact ⟨I.src, fun x d l hx hd hl => I.fwd x d l hx hd hl, fun r e hr h => by
    obtain ⟨x, d, l, h1, h2, h3⟩ := I.bwd r e hr h
    exact ⟨x, d, l, h1, h3⟩, I.dom⟩
def threeD : HierD := ⟨[1, 0, 2], [0, 1, 2, 2], [⟨2, 1, 4294967295, 4294967295⟩, ⟨2, 5, 2, 0⟩], [0, 1, 1, 1], [⟨1, 4, 4294967295, 4294967295⟩]⟩
theorem three_form : checkErr threeD = .nil := by decide +kernel
theorem MeetIs.is {h : HierD} {s t : Int} {r : Nat} {d : Int} {x : EV} (hc : checkErr h = .nil) (hk : nodesErr h.node.length s t = .nil) (a : MeetIs h s t r d x) :
    (if (meetTo (distsK h.upF h.up (h.node.idxOf s.toNat) h.node.length) (distsK h.dnF h.dn (h.node.idxOf t.toNat) h.node.length) h.node.length).2 = 18446744073709551615 then (0, (0 : Int), EV.code 16)
      else ((meetTo (distsK h.upF h.up (h.node.idxOf s.toNat) h.node.length) (distsK h.dnF h.dn (h.node.idxOf t.toNat) h.node.length) h.node.length).1, (meetTo (distsK h.upF h.up (h.node.idxOf s.toNat) h.node.length) (distsK h.dnF h.dn (h.node.idxOf t.toNat) h.node.length) h.node.length).2, .nil)) = (r, d, x) := by
  obtain ⟨f, -, -, ho, -⟩ := checkErr_parts hc
  have ok := order_nil ho
  obtain ⟨⟨h1, h2⟩, h3, h4⟩ := nodesErr_nil.1 hk
  have i1 : h.node.idxOf s.toNat < h.node.length := List.idxOf_lt_length_iff.2 (ok.mem _ (by omega))
  have i2 : h.node.idxOf t.toNat < h.node.length := List.idxOf_lt_length_iff.2 (ok.mem _ (by omega))
  have D := dists_isD (half_up hc) i1
  have E := dists_isD (half_dn hc) i2
  split
  · rename_i h5
    obtain ⟨a1, a2, a3⟩ := (MeetIs.none _ _ hc hk D E h5).same a
    rw [a1, a2, a3]
  · rename_i h5
    obtain ⟨a1, a2, a3⟩ := (MeetIs.walk _ _ _ _ hc hk D E rfl h5).same a
    rw [a1, a2, ← a3]
theorem three_02 {r : Nat} {d : Int} {x : EV} (a : MeetIs threeD 0 2 r d x) : r = 2 ∧ d = 5 ∧ x = .nil := by
  have h := MeetIs.is three_form (by decide +kernel) a
  rw [show (if _ = _ then _ else _ : Nat × Int × EV) = (2, 5, .nil) from by decide +kernel] at h
  simp only [Prod.mk.injEq] at h
  exact ⟨h.1.symm, h.2.1.symm, h.2.2.symm⟩
theorem three_01 {r : Nat} {d : Int} {x : EV} (a : MeetIs threeD 0 1 r d x) : r = 1 ∧ d = 4 ∧ x = .nil := by
  have h := MeetIs.is three_form (by decide +kernel) a
  rw [show (if _ = _ then _ else _ : Nat × Int × EV) = (1, 4, .nil) from by decide +kernel] at h
  simp only [Prod.mk.injEq] at h
  exact ⟨h.1.symm, h.2.1.symm, h.2.2.symm⟩
end Go.Proofs.YtblkkjfpggcgfaaGreatDoor
namespace Go.Proofs.YtblkkjfpggcgfaaGreatDoor
open Go.ChangeShapes Go.WideShapes Go.ChangeAt Go.RowKit Go.Joins Go.Deep
inductive Wk (W : Nat → List (Nat × Nat)) (r : Int) (u : Nat) : Nat → Int → Prop
  | nil : Wk W r u u 0
  | snoc {a : Nat} {d : Int} (s : Nat × Nat) : Wk W r u a d → s ∈ W a → r < s.1 → Wk W r u s.1 (d + s.2)
theorem Wk.nonneg {W : Nat → List (Nat × Nat)} {r : Int} {u v : Nat} {d : Int} (h : Wk W r u v d) : 0 ≤ d := by
  induction h with
  | nil => omega
  | snoc s h hs hr ih => omega
structure IsS (W : Nat → List (Nat × Nat)) (r : Int) (u : Nat) (D : Nat → Option Int) : Prop where
  walk : ∀ v d, D v = some d → Wk W r u v d
  least : ∀ v d', Wk W r u v d' → ∃ d, D v = some d ∧ d ≤ d'
theorem IsS.unique {W : Nat → List (Nat × Nat)} {r : Int} {u : Nat} {D E : Nat → Option Int} (h : IsS W r u D) (k : IsS W r u E) : ∀ v, D v = E v := by
  intro v
  cases hD : D v with
  | none =>
    cases hE : E v with
    | none => rfl
    | some e =>
      obtain ⟨d, h1, -⟩ := h.least v e (k.walk v e hE)
      rw [hD] at h1; cases h1
  | some d =>
    obtain ⟨e, h1, h2⟩ := k.least v d (h.walk v d hD)
    obtain ⟨d', h3, h4⟩ := h.least v e (k.walk v e h1)
    rw [hD] at h3
    simp only [Option.some.injEq] at h3
    rw [h1]
    congr 1
    omega
def sumTo (f : Nat → Nat) : Nat → Nat
  | 0 => 0
  | n + 1 => sumTo f n + f n
theorem sumTo_congr {f g : Nat → Nat} : ∀ n, (∀ v, v < n → f v = g v) → sumTo f n = sumTo g n := by
  intro n
  induction n with
  | zero => intro _; rfl
  | succ n ih => intro h; simp only [sumTo]; rw [ih (fun v hv => h v (by omega)), h n (by omega)]
theorem sumTo_upd {f g : Nat → Nat} {b : Nat} : ∀ n, b < n → (∀ v, v ≠ b → f v = g v) → sumTo f n + g b = sumTo g n + f b := by
  intro n
  induction n with
  | zero => intro h; omega
  | succ n ih =>
    intro hb h
    simp only [sumTo]
    by_cases e : b = n
    · subst e
      rw [sumTo_congr b (fun v hv => h v (by omega))]
      omega
    · have := ih (by omega) h
      rw [h n (fun x => e x.symm)]
      omega
def one (x : Option Int) : Nat := if x.isSome then 1 else 0
def cntS (D : Nat → Option Int) (n : Nat) : Nat := sumTo (fun v => one (D v)) n
def mu (n : Nat) (D m : Nat → Option Int) : Nat := 2 * sumTo (fun v => (farOf (D v)).toNat) n + cntS m n
def updD (D : Nat → Option Int) (b : Nat) (d : Int) : Nat → Option Int := fun v => if v = b then some d else D v
theorem cntS_le (D : Nat → Option Int) : ∀ n, cntS D n ≤ n := by
  intro n
  induction n with
  | zero => simp [cntS, sumTo]
  | succ n ih =>
    have h : one (D n) ≤ 1 := by unfold one; split <;> omega
    simp only [cntS, sumTo] at ih ⊢
    omega
theorem cntS_pos {D : Nat → Option Int} {v : Nat} {d : Int} (h : D v = some d) : ∀ n, v < n → 1 ≤ cntS D n := by
  intro n
  induction n with
  | zero => intro h; omega
  | succ n ih =>
    intro hv
    simp only [cntS, sumTo] at ih ⊢
    by_cases e : v = n
    · subst e
      rw [h]
      simp [one]
    · have := ih (by omega)
      omega
structure DInv (n : Nat) (W : Nat → List (Nat × Nat)) (r : Int) (u : Nat) (D m : Nat → Option Int) (P : Nat → Nat × Nat → Prop) : Prop where
  src : D u = some 0
  walk : ∀ v d, D v = some d → Wk W r u v d
  q : ∀ v k, m v = some k → D v = some k
  fwd : ∀ a x s, D a = some x → s ∈ W a → r < s.1 → m a = none → P a s → ∃ y, D s.1 = some y ∧ y ≤ x + s.2
  bnd : ∀ v d, D v = some d → v < n ∧ d ≤ ((cntS D n : Nat) - 1 : Int) * 140737488355328
theorem DInv.start {n : Nat} {W : Nat → List (Nat × Nat)} {r : Int} {u : Nat} (hu : u < n) : DInv n W r u (startD u) (pushM (fun _ => none) u 0) (fun _ _ => True) := by
  refine ⟨by simp [startD], fun v d h => ?_, fun v k h => ?_, fun a x s h hs hr hm _ => ?_, fun v d h => ?_⟩
  · unfold startD at h
    split at h
    · rename_i e; subst e; simp only [Option.some.injEq] at h; subst h; exact .nil
    · cases h
  · unfold pushM at h
    split at h
    · rename_i e; subst e; simpa [startD] using h
    · cases h
  · unfold startD at h
    split at h
    · rename_i e; subst e; simp [pushM] at hm
    · cases h
  · unfold startD at h
    split at h
    · rename_i e
      subst e
      simp only [Option.some.injEq] at h
      subst h
      have := cntS_pos (D := startD v) (v := v) (d := 0) (by simp [startD]) n hu
      exact ⟨hu, by omega⟩
    · cases h
theorem DInv.big {n : Nat} {W : Nat → List (Nat × Nat)} {r : Int} {u : Nat} {D m : Nat → Option Int} {P : Nat → Nat × Nat → Prop} (h : DInv n W r u D m P) (hn : n ≤ 65536) {v : Nat} {d : Int} (hd : D v = some d) : 0 ≤ d ∧ d ≤ 65535 * 140737488355328 := by
  have h1 := (h.bnd v d hd).2
  have h2 := cntS_le D n
  exact ⟨(h.walk v d hd).nonneg, by omega⟩
theorem DInv.pop {n : Nat} {W : Nat → List (Nat × Nat)} {r : Int} {u : Nat} {D m : Nat → Option Int} (h : DInv n W r u D m (fun _ _ => True)) (id : Nat) : DInv n W r u D (eraseM m id) (fun a _ => a ≠ id) := by
  refine ⟨h.src, h.walk, fun v k hk => ?_, fun a x s ha hs hr hm hP => ?_, h.bnd⟩
  · unfold eraseM at hk
    split at hk
    · cases hk
    · exact h.q v k hk
  · unfold eraseM at hm
    rw [if_neg hP] at hm
    exact h.fwd a x s ha hs hr hm trivial
theorem mu_pop {n : Nat} {D m : Nat → Option Int} {id : Nat} {k : Int} (hk : m id = some k) (hid : id < n) : mu n D (eraseM m id) + 1 = mu n D m := by
  have h := sumTo_upd (f := fun v => one (eraseM m id v)) (g := fun v => one (m v)) (b := id) n hid (fun v hv => by simp [eraseM, hv])
  have e1 : one (m id) = 1 := by rw [hk]; rfl
  have e2 : one (eraseM m id id) = 0 := by simp [eraseM, one]
  simp only [e1, e2] at h
  unfold mu cntS
  omega
theorem DInv.relax {n : Nat} {W : Nat → List (Nat × Nat)} {r : Int} {u : Nat} {D m : Nat → Option Int} {id : Nat} {k : Int} {s : Nat × Nat} {Q : Nat × Nat → Prop} (h : DInv n W r u D m (fun a t => a = id → Q t)) (hn : n ≤ 65536) (hid : D id = some k) (hmid : m id = none)
    (hs : s ∈ W id) (hr : r < s.1) (hsn : s.1 < n) (hw : s.2 ≤ 140737488355328) (hlt : k + s.2 < farOf (D s.1)) :
    DInv n W r u (updD D s.1 (k + s.2)) (pushM m s.1 (k + s.2)) (fun a t => a = id → Q t ∨ t = s) ∧ pushM m s.1 (k + s.2) id = none ∧ updD D s.1 (k + s.2) id = some k ∧
    mu n (updD D s.1 (k + s.2)) (pushM m s.1 (k + s.2)) + 1 ≤ mu n D m := by
  have hk := h.big hn hid
  have hne : s.1 ≠ id := by
    intro e
    rw [e, hid] at hlt
    simp only [farOf] at hlt
    omega
  have hpm : pushM m s.1 (k + s.2) s.1 = some (k + s.2) := by
    unfold pushM
    rw [if_pos rfl]
    cases hm : m s.1 with
    | none => rfl
    | some o =>
      have := h.q _ _ hm
      rw [this] at hlt
      simp only [farOf] at hlt
      simp only
      rw [if_neg (by omega)]
  have hpo : ∀ v, v ≠ s.1 → pushM m s.1 (k + s.2) v = m v := fun v hv => by unfold pushM; rw [if_neg hv]
  have hD : updD D s.1 (k + s.2) s.1 = some (k + s.2) := if_pos rfl
  have hDo : ∀ v, v ≠ s.1 → updD D s.1 (k + s.2) v = D v := fun v hv => if_neg hv
  have hcnt := sumTo_upd (f := fun v => one (updD D s.1 (k + s.2) v)) (g := fun v => one (D v)) (b := s.1) n hsn (fun v hv => by simp [hDo v hv])
  have hcm := sumTo_upd (f := fun v => one (pushM m s.1 (k + s.2) v)) (g := fun v => one (m v)) (b := s.1) n hsn (fun v hv => by simp [hpo v hv])
  have hsum := sumTo_upd (f := fun v => (farOf (updD D s.1 (k + s.2) v)).toNat) (g := fun v => (farOf (D v)).toNat) (b := s.1) n hsn (fun v hv => by simp [hDo v hv])
  have one1 : one (some (k + (s.2 : Int))) = 1 := rfl
  have oneL : ∀ x, one x ≤ 1 := fun x => by unfold one; split <;> omega
  simp only [hD, hpm, one1] at hcnt hcm hsum
  have ff : farOf (some (k + (s.2 : Int))) = k + s.2 := rfl
  rw [ff] at hsum
  have cle : cntS D n ≤ cntS (updD D s.1 (k + s.2)) n := by have := oneL (D s.1); unfold cntS; omega
  refine ⟨⟨?_, fun v d hv => ?_, fun v o hv => ?_, fun a x t ha ht htr hm hP => ?_, fun v d hv => ?_⟩, by rw [hpo id hne.symm]; exact hmid, by rw [hDo id hne.symm]; exact hid, ?_⟩
  · by_cases e : u = s.1
    · rw [← e, h.src] at hlt
      simp only [farOf] at hlt
      omega
    · rw [hDo u e]
      exact h.src
  · by_cases e : v = s.1
    · subst e
      rw [hD] at hv
      simp only [Option.some.injEq] at hv
      subst hv
      exact (h.walk id k hid).snoc s hs hr
    · rw [hDo v e] at hv
      exact h.walk v d hv
  · by_cases e : v = s.1
    · subst e
      rw [hpm] at hv
      rw [hD]
      exact hv
    · rw [hpo v e] at hv
      rw [hDo v e]
      exact h.q v o hv
  · by_cases ea : a = s.1
    · subst ea
      rw [hpm] at hm
      cases hm
    · rw [hDo a ea] at ha
      rw [hpo a ea] at hm
      have old : (∃ y, D t.1 = some y ∧ y ≤ x + t.2) → ∃ y, updD D s.1 (k + s.2) t.1 = some y ∧ y ≤ x + t.2 := by
        rintro ⟨y, h1, h2⟩
        by_cases e : t.1 = s.1
        · rw [e] at h1 ⊢
          rw [h1] at hlt
          simp only [farOf] at hlt
          exact ⟨_, hD, by omega⟩
        · exact ⟨y, by rw [hDo _ e]; exact h1, h2⟩
      by_cases e : a = id
      · rcases hP e with h1 | h1
        · exact old (h.fwd a x t ha ht htr hm (fun _ => h1))
        · subst h1
          rw [e, hid] at ha
          simp only [Option.some.injEq] at ha
          exact ⟨_, hD, by omega⟩
      · exact old (h.fwd a x t ha ht htr hm (fun e' => absurd e' e))
  · by_cases e : v = s.1
    · subst e
      rw [hD] at hv
      simp only [Option.some.injEq] at hv
      subst hv
      refine ⟨hsn, ?_⟩
      cases hDs : D s.1 with
      | none =>
        rw [hDs] at hcnt
        have h1 := (h.bnd id k hid).2
        have h0 : one (none : Option Int) = 0 := rfl
        rw [h0] at hcnt
        have h2 : cntS (updD D s.1 (k + s.2)) n = cntS D n + 1 := by unfold cntS; omega
        rw [h2]
        omega
      | some o =>
        have h1 := (h.bnd s.1 o hDs).2
        rw [hDs] at hlt
        simp only [farOf] at hlt
        omega
    · rw [hDo v e] at hv
      have h1 := h.bnd v d hv
      exact ⟨h1.1, by omega⟩
  · have hc := oneL (m s.1)
    unfold mu cntS
    omega
theorem DInv.skip {n : Nat} {W : Nat → List (Nat × Nat)} {r : Int} {u : Nat} {D m : Nat → Option Int} {id : Nat} {k : Int} {s : Nat × Nat} {Q : Nat × Nat → Prop} (h : DInv n W r u D m (fun a t => a = id → Q t)) (hn : n ≤ 65536) (hid : D id = some k)
    (hw : s.2 ≤ 140737488355328) (hno : r < s.1 → ¬ k + s.2 < farOf (D s.1)) : DInv n W r u D m (fun a t => a = id → Q t ∨ t = s) := by
  have hk := h.big hn hid
  refine ⟨h.src, h.walk, h.q, fun a x t ha ht htr hm hP => ?_, h.bnd⟩
  by_cases e : a = id
  · rcases hP e with h1 | h1
    · exact h.fwd a x t ha ht htr hm (fun _ => h1)
    · subst h1
      rw [e, hid] at ha
      simp only [Option.some.injEq] at ha
      have h2 := hno htr
      cases hD : D t.1 with
      | none => rw [hD] at h2; simp only [farOf] at h2; omega
      | some y => rw [hD] at h2; simp only [farOf] at h2; exact ⟨y, rfl, by omega⟩
  · exact h.fwd a x t ha ht htr hm (fun e' => absurd e' e)
theorem DInv.all {n : Nat} {W : Nat → List (Nat × Nat)} {r : Int} {u : Nat} {D m : Nat → Option Int} {id : Nat} {Q : Nat × Nat → Prop} (h : DInv n W r u D m (fun a t => a = id → Q t)) (hq : ∀ t ∈ W id, Q t) : DInv n W r u D m (fun _ _ => True) :=
  ⟨h.src, h.walk, h.q, fun a x t ha ht htr hm _ => h.fwd a x t ha ht htr hm (fun e => by subst e; exact hq t ht), h.bnd⟩
theorem DInv.done {n : Nat} {W : Nat → List (Nat × Nat)} {r : Int} {u : Nat} {D m : Nat → Option Int} (h : DInv n W r u D m (fun _ _ => True)) (hm : ∀ v, m v = none) : IsS W r u D := by
  refine ⟨h.walk, fun v d' hw => ?_⟩
  induction hw with
  | nil => exact ⟨0, h.src, by omega⟩
  | snoc s hw hs hr ih =>
    obtain ⟨d, h1, h2⟩ := ih
    obtain ⟨y, h3, h4⟩ := h.fwd _ d s h1 hs hr (hm _) trivial
    exact ⟨y, h3, by omega⟩
end Go.Proofs.YtblkkjfpggcgfaaGreatDoor
