/- What a hierarchy turned about answers; what is answered for a node and itself. No program here. -/
import Derived.Test.YtjbphoophgbmiaaQuery2
import Derived.Test.YtjbphoophgbmiaaTurnP
namespace Go.Proofs.Ytjbphoophgbmiaa

theorem IsD.turn {n : Nat} {first : List Nat} {links : List LinkD} {s : Nat} {D : Nat → Option Int} (f : LinkD → LinkD) (hto : ∀ l, (f l).to = l.to) (hwt : ∀ l, (f l).wt = l.wt) : IsD n first (links.map f) s D ↔ IsD n first links s D := by
  constructor
  · intro h
    refine ⟨h.src, fun x d l hx hd hl => ?_, fun r e hr he => ?_, h.dom⟩
    · obtain ⟨e, h1, h2⟩ := h.fwd x d (f l) hx hd (by rw [seg_map]; exact List.mem_map_of_mem hl)
      exact ⟨e, by rw [← hto l]; exact h1, by rw [← hwt l]; exact h2⟩
    · obtain ⟨x, d, l, hx, hd, hl, h1, h2⟩ := h.bwd r e hr he
      rw [seg_map, List.mem_map] at hl
      obtain ⟨l', hl', rfl⟩ := hl
      exact ⟨x, d, l', hx, hd, hl', by rw [← hto l']; exact h1, by rw [← hwt l']; exact h2⟩
  · intro h
    refine ⟨h.src, fun x d l hx hd hl => ?_, fun r e hr he => ?_, h.dom⟩
    · rw [seg_map, List.mem_map] at hl
      obtain ⟨l', hl', rfl⟩ := hl
      obtain ⟨e, h1, h2⟩ := h.fwd x d l' hx hd hl'
      exact ⟨e, by rw [hto l']; exact h1, by rw [hwt l']; exact h2⟩
    · obtain ⟨x, d, l, hx, hd, hl, h1, h2⟩ := h.bwd r e hr he
      exact ⟨x, d, f l, hx, hd, by rw [seg_map]; exact List.mem_map_of_mem hl, by rw [hto l]; exact h1, by rw [hwt l]; exact h2⟩
theorem meetTo_congr {D E D' E' : Nat → Option Int} (hD : ∀ r, D r = D' r) (hE : ∀ r, E r = E' r) (k : Nat) : meetTo D E k = meetTo D' E' k := by
  rw [show D = D' from funext hD, show E = E' from funext hE]
theorem nodesErr_nil {n : Nat} {s t : Int} : nodesErr n s t = .nil ↔ (0 ≤ s ∧ s < n) ∧ 0 ≤ t ∧ t < n := by
  unfold nodesErr
  split
  · rename_i h; exact ⟨fun e => (by cases e), fun h' => by omega⟩
  split
  · rename_i h1 h; exact ⟨fun e => (by cases e), fun h' => by omega⟩
  · exact ⟨fun _ => by omega, fun _ => rfl⟩
/-- The same question has one answer. -/
theorem MeetIs.same {h : HierD} {s t : Int} {r r' : Nat} {d d' : Int} {x x' : EV} (a : MeetIs h s t r d x) (b : MeetIs h s t r' d' x') : r = r' ∧ d = d' ∧ x = x' := by
  have key : ∀ {D E D' E' : Nat → Option Int}, checkErr h = .nil → IsD h.node.length h.upF h.up (h.node.idxOf s.toNat) D → IsD h.node.length h.dnF h.dn (h.node.idxOf t.toNat) E → IsD h.node.length h.upF h.up (h.node.idxOf s.toNat) D' → IsD h.node.length h.dnF h.dn (h.node.idxOf t.toNat) E' → meetTo D E h.node.length = meetTo D' E' h.node.length :=
    fun e hD hE hD' hE' => meetTo_congr (hD.unique (half_up e) hD') (hE.unique (half_dn e) hE') _
  cases a with
  | form e =>
    cases b with
    | form _ => exact ⟨rfl, rfl, rfl⟩
    | nodes e' _ => exact absurd e' e
    | walk _ _ _ _ e' => exact absurd e' e
    | none _ _ e' => exact absurd e' e
  | nodes e k =>
    cases b with
    | form e' => exact absurd e e'
    | nodes _ _ => exact ⟨rfl, rfl, rfl⟩
    | walk _ _ _ _ _ k' => exact absurd k' k
    | none _ _ _ k' => exact absurd k' k
  | walk D E _ _ e k hD hE hm hd =>
    cases b with
    | form e' => exact absurd e e'
    | nodes _ k' => exact absurd k k'
    | walk D' E' _ _ _ _ hD' hE' hm' hd' =>
      have := key e hD hE hD' hE'
      rw [hm, hm'] at this
      simp only [Prod.mk.injEq] at this
      exact ⟨this.1, this.2, rfl⟩
    | none D' E' _ _ hD' hE' hd' =>
      have := key e hD hE hD' hE'
      rw [hm] at this
      rw [← this] at hd'
      exact absurd hd' hd
  | none D E e k hD hE hd =>
    cases b with
    | form e' => exact absurd e e'
    | nodes _ k' => exact absurd k k'
    | walk D' E' _ _ _ _ hD' hE' hm' hd' =>
      have := key e hD hE hD' hE'
      rw [hm'] at this
      rw [this] at hd
      exact absurd hd hd'
    | none _ _ _ _ _ _ _ => exact ⟨rfl, rfl, rfl⟩
/-- The other way, in the hierarchy turned about. -/
theorem MeetIs.turned {h : HierD} {s t : Int} {r r' : Nat} {d d' : Int} {x x' : EV} (hc : checkErr h = .nil) (hc' : checkErr (turnD h) = .nil) (a : MeetIs h s t r d x) (b : MeetIs (turnD h) t s r' d' x') : r = r' ∧ d = d' ∧ (x = .nil ↔ x' = .nil) := by
  have hk : nodesErr h.node.length s t = .nil ↔ nodesErr h.node.length t s = .nil := by rw [nodesErr_nil, nodesErr_nil]; exact And.comm
  have key : ∀ {D E D' E' : Nat → Option Int}, IsD h.node.length h.upF h.up (h.node.idxOf s.toNat) D → IsD h.node.length h.dnF h.dn (h.node.idxOf t.toNat) E → IsD (turnD h).node.length (turnD h).upF (turnD h).up ((turnD h).node.idxOf t.toNat) D' → IsD (turnD h).node.length (turnD h).dnF (turnD h).dn ((turnD h).node.idxOf s.toNat) E' → meetTo D E h.node.length = meetTo D' E' (turnD h).node.length := by
    intro D E D' E' hD hE hD' hE'
    have h1 : IsD h.node.length h.dnF h.dn (h.node.idxOf t.toNat) D' := (IsD.turn (turnLink h.up.length h.dn.length) (fun _ => rfl) (fun _ => rfl)).1 hD'
    have h2 : IsD h.node.length h.upF h.up (h.node.idxOf s.toNat) E' := (IsD.turn (turnLink h.up.length h.dn.length) (fun _ => rfl) (fun _ => rfl)).1 hE'
    rw [meetTo_swap]
    exact meetTo_congr (hE.unique (half_dn hc) h1) (hD.unique (half_up hc) h2) _
  cases a with
  | form e => exact absurd hc e
  | nodes e k =>
    cases b with
    | form e' => exact absurd hc' e'
    | nodes _ k' => exact ⟨rfl, rfl, ⟨fun h => absurd h k, fun h => absurd h k'⟩⟩
    | walk _ _ _ _ _ k' => exact absurd (hk.2 k') k
    | none _ _ _ k' => exact absurd (hk.2 k') k
  | walk D E _ _ e k hD hE hm hd =>
    cases b with
    | form e' => exact absurd hc' e'
    | nodes _ k' => exact absurd (hk.1 k) k'
    | walk D' E' _ _ _ _ hD' hE' hm' hd' =>
      have := key hD hE hD' hE'
      rw [hm, hm'] at this
      simp only [Prod.mk.injEq] at this
      exact ⟨this.1, this.2, Iff.rfl⟩
    | none D' E' _ _ hD' hE' hd' =>
      have := key hD hE hD' hE'
      rw [hm] at this
      rw [← this] at hd'
      exact absurd hd' hd
  | none D E e k hD hE hd =>
    cases b with
    | form e' => exact absurd hc' e'
    | nodes _ k' => exact absurd (hk.1 k) k'
    | walk D' E' _ _ _ _ hD' hE' hm' hd' =>
      have := key hD hE hD' hE'
      rw [hm'] at this
      rw [this] at hd
      exact absurd hd hd'
    | none _ _ _ _ _ _ _ => exact ⟨rfl, rfl, Iff.rfl⟩
theorem IsD.ge {n : Nat} {first : List Nat} {links : List LinkD} {s : Nat} {D : Nat → Option Int} (ok : HalfOk n first links) (h : IsD n first links s D) : ∀ r, r < s → D r = none := by
  intro r
  induction r using Nat.strongRecOn with
  | _ r ih =>
    intro hr
    cases hD : D r with
    | none => rfl
    | some e =>
      obtain ⟨x, d, l, hx, hd, hl, hto, -⟩ := h.bwd r e (by omega) hD
      have h1 := (ok.up x hx l hl).1
      rw [hto] at h1
      rw [ih x h1 (by omega)] at hd
      cases hd
/-- A node and itself: nought, at its own rank. -/
theorem MeetIs.self {h : HierD} {v r r' : Nat} {d : Int} {x : EV} (hc : checkErr h = .nil) (hv : h.node[r]? = some v) (a : MeetIs h v v r' d x) : x = .nil ∧ d = 0 ∧ r' = r := by
  obtain ⟨f, -, -, ho, -⟩ := checkErr_parts hc
  have ok := order_nil ho
  have hi := idxOf_getElem ok.nodup hv
  have hr : r < h.node.length := (List.getElem?_eq_some_iff.1 hv).1
  have hvl := ok.lt v (List.mem_of_getElem? hv)
  have key : ∀ {D E : Nat → Option Int}, IsD h.node.length h.upF h.up (h.node.idxOf (v : Int).toNat) D → IsD h.node.length h.dnF h.dn (h.node.idxOf (v : Int).toNat) E → meetTo D E h.node.length = (r, 0) := by
    intro D E hD hE
    rw [Int.toNat_natCast, hi] at hD hE
    have h0 : meetTo D E r = (0, 18446744073709551615) := by
      have := meetTo_skip (D := D) (E := E) (m := 0) r (fun q _ hq => .inl (hD.ge (half_up hc) q (by omega)))
      rw [Nat.zero_add] at this
      exact this
    have h1 : meetTo D E (r + 1) = (r, 0) := by
      rw [meetTo_step hD.src hE.src, h0, if_pos (by decide)]
      rfl
    have h2 : ∀ k, meetTo D E (r + 1 + k) = (r, 0) := by
      intro k
      induction k with
      | zero => exact h1
      | succ k ih =>
        rw [← Nat.add_assoc]
        cases hx : D (r + 1 + k) with
        | none =>
          have := meetTo_skip (D := D) (E := E) (m := r + 1 + k) 1 (fun q q1 q2 => .inl (by rw [show q = r + 1 + k by omega]; exact hx))
          rw [this, ih]
        | some a =>
          cases hy : E (r + 1 + k) with
          | none =>
            have := meetTo_skip (D := D) (E := E) (m := r + 1 + k) 1 (fun q q1 q2 => .inr (by rw [show q = r + 1 + k by omega]; exact hy))
            rw [this, ih]
          | some b =>
            have := hD.bnd (half_up hc) _ _ hx
            have := hE.bnd (half_dn hc) _ _ hy
            rw [meetTo_step hx hy, ih, if_neg (by simp only; omega)]
    have := h2 (h.node.length - (r + 1))
    rw [show r + 1 + (h.node.length - (r + 1)) = h.node.length by omega] at this
    exact this
  cases a with
  | form e => exact absurd hc e
  | nodes e k => exact absurd (nodesErr_nil.2 ⟨⟨by omega, by omega⟩, by omega, by omega⟩) k
  | walk D E _ _ e k hD hE hm hd =>
    rw [key hD hE] at hm
    simp only [Prod.mk.injEq] at hm
    exact ⟨rfl, hm.2.symm, hm.1.symm⟩
  | none D E e k hD hE hd =>
    rw [key hD hE] at hd
    exact absurd hd (by show ¬ (0 : Int) = 18446744073709551615; omega)
/-- A question that finds no error is about two nodes. -/
theorem MeetIs.nodes_in {h : HierD} {s t : Int} {r : Nat} {d : Int} (a : MeetIs h s t r d .nil) : (0 ≤ s ∧ s < h.node.length) ∧ 0 ≤ t ∧ t < h.node.length := by
  generalize hx : EV.nil = x at a
  cases a with
  | form e => exact absurd hx.symm e
  | nodes e k => exact absurd hx.symm k
  | walk D E _ _ e k => exact nodesErr_nil.1 k
  | none => cases hx
end Go.Proofs.Ytjbphoophgbmiaa
