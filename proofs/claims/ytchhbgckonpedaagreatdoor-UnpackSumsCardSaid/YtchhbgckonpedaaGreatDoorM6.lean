/- A hierarchy turned about, as data: it is in form, and tells the distances the other way. No program here. -/
import Derived.Test.YtchhbgckonpedaaGreatDoorM5
import Derived.Laws.Cover3
import Derived.Laws.StructEq
import Derived.Lib.SmallJoins
import Derived.Deep.Slices
import Derived.Deep.Fields
namespace Go.Proofs.YtchhbgckonpedaaGreatDoor

def childOf (ups downs i : Nat) : Nat := if i = 4294967295 then i else if i < ups then i + downs else i - ups
def turnLink (ups downs : Nat) (l : LinkD) : LinkD := ⟨l.to, l.wt, childOf ups downs l.right, childOf ups downs l.left⟩
def turnD (h : HierD) : HierD := ⟨h.node, h.dnF, h.dn.map (turnLink h.up.length h.dn.length), h.upF, h.up.map (turnLink h.up.length h.dn.length)⟩
def turnEnd (ups downs : Nat) (x : EndD) : EndD := ⟨turnLink ups downs x.link, x.head, x.tail, x.rank⟩

theorem seg_map (f : LinkD → LinkD) (first : List Nat) (links : List LinkD) (r : Nat) : seg first (links.map f) r = (seg first links r).map f := by
  unfold seg
  rw [← List.map_take, ← List.map_drop]
theorem getD_app_left {α : Type} (l m : List α) (i : Nat) (d : α) (h : i < l.length) : (l ++ m).getD i d = l.getD i d := by
  rw [List.getD_eq_getElem?_getD, List.getElem?_append_left h, List.getD_eq_getElem?_getD]
theorem getD_app_right {α : Type} (l m : List α) (i : Nat) (d : α) (h : l.length ≤ i) : (l ++ m).getD i d = m.getD (i - l.length) d := by
  rw [List.getD_eq_getElem?_getD, List.getElem?_append_right h, List.getD_eq_getElem?_getD]
theorem ends_turn (h : HierD) : endsOf (turnD h) = (((List.range h.node.length).flatMap (endsDn h.dnF h.dn)).map (turnEnd h.up.length h.dn.length)) ++ (((List.range h.node.length).flatMap (endsUp h.upF h.up)).map (turnEnd h.up.length h.dn.length)) := by
  unfold endsOf
  have e1 : ∀ (l : List Nat), (l.flatMap (endsUp (turnD h).upF (turnD h).up)) = (l.flatMap (endsDn h.dnF h.dn)).map (turnEnd h.up.length h.dn.length) := by
    intro l
    induction l with
    | nil => rfl
    | cons a l ih =>
      rw [List.flatMap_cons, List.flatMap_cons, List.map_append, ih]
      congr 1
      simp only [endsUp, endsDn, turnD, seg_map, List.map_map]
      rfl
  have e2 : ∀ (l : List Nat), (l.flatMap (endsDn (turnD h).dnF (turnD h).dn)) = (l.flatMap (endsUp h.upF h.up)).map (turnEnd h.up.length h.dn.length) := by
    intro l
    induction l with
    | nil => rfl
    | cons a l ih =>
      rw [List.flatMap_cons, List.flatMap_cons, List.map_append, ih]
      congr 1
      simp only [endsUp, endsDn, turnD, seg_map, List.map_map]
      rfl
  rw [e1, e2]
  rfl
theorem getD_map_lt {α β : Type} (f : α → β) (l : List α) (i : Nat) (a : α) (b : β) (h : i < l.length) : (l.map f).getD i b = f (l.getD i a) := by
  rw [List.getD_eq_getElem?_getD, List.getElem?_map, List.getD_eq_getElem?_getD, List.getElem?_eq_getElem h]
  rfl
/-- Where the link i of what is turned about stood. -/
theorem ends_turn_get {h : HierD} (u : FirstsOk h.node.length h.upF h.up.length) (d : FirstsOk h.node.length h.dnF h.dn.length) (i : Nat) (hi : i < h.up.length + h.dn.length) :
    (endsOf (turnD h)).getD i default = turnEnd h.up.length h.dn.length ((endsOf h).getD (if i < h.dn.length then h.up.length + i else i - h.dn.length) default) := by
  rw [ends_turn]
  have lu := endsUp_length u _ (Nat.le_refl _)
  have ld := endsDn_length d _ (Nat.le_refl _)
  rw [u.last] at lu
  rw [d.last] at ld
  unfold endsOf
  generalize (List.range h.node.length).flatMap (endsUp h.upF h.up) = U at *
  generalize (List.range h.node.length).flatMap (endsDn h.dnF h.dn) = D at *
  split
  · rename_i h1
    rw [getD_app_left _ _ _ _ (by rw [List.length_map, ld]; exact h1), getD_app_right _ _ _ _ (by omega), lu, show h.up.length + i - h.up.length = i by omega]
    exact getD_map_lt _ _ _ _ _ (by omega)
  · rename_i h1
    rw [getD_app_right _ _ _ _ (by rw [List.length_map, ld]; omega), getD_app_left _ _ _ _ (by omega), List.length_map, ld]
    exact getD_map_lt _ _ _ _ _ (by omega)
theorem linksGo_all {n ups : Nat} {all : List EndD} : ∀ m, (∀ k, k < m → shapeB n ups all k = true ∧ weightB all k = true) → linksGo n ups all m = .nil := by
  intro m
  induction m with
  | zero => intro _; rfl
  | succ m ih =>
    intro h
    unfold linksGo
    rw [ih (fun k hk => h k (by omega))]
    obtain ⟨h1, h2⟩ := h m (by omega)
    simp only
    rw [if_neg (by rw [h1]; simp), if_neg (by rw [h2]; simp)]
/-- What a link in form says of its children. -/
theorem shape_parts {n ups : Nat} {all : List EndD} {i : Nat} (h : shapeB n ups all i = true) : let x := all.getD i default
    x.link.to < n ∧ x.rank < x.link.to ∧ (0 < i → i ≠ ups → (all.getD (i - 1) default).rank = x.rank → (all.getD (i - 1) default).link.to < x.link.to) ∧
    (x.link.plain = false → ups ≤ x.link.left ∧ x.link.left < all.length ∧ x.link.right < ups ∧ (all.getD x.link.left default).tail = x.tail ∧ (all.getD x.link.right default).head = x.head ∧ (all.getD x.link.left default).rank = (all.getD x.link.right default).rank) := by
  rw [shapeB_eq n ups all i _ _ rfl rfl] at h
  simp only
  split at h
  · cases h
  split at h
  · cases h
  rename_i h1 h2
  refine ⟨by omega, by omega, fun a b c => by
    apply Classical.byContradiction
    intro hh
    exact h2 ⟨a, b, c, by omega⟩, fun hp => ?_⟩
  rw [hp, if_neg (by simp)] at h
  split at h
  · cases h
  rename_i h3
  obtain ⟨q1, q2, q3⟩ := of_decide_eq_true h
  exact ⟨by omega, by omega, by omega, q1, q2, q3⟩
theorem plain_iff (l : LinkD) : l.plain = true ↔ l.left = 4294967295 ∧ l.right = 4294967295 := by simp [LinkD.plain]
theorem childOf_lt {ups downs i : Nat} (h : i < ups) (hu : ups ≤ 1048576) : childOf ups downs i = i + downs := by
  unfold childOf
  rw [if_neg (by omega), if_pos h]
theorem childOf_ge {ups downs i : Nat} (h : ups ≤ i) (hi : i < ups + downs) (hu : ups + downs ≤ 1048576) : childOf ups downs i = i - ups := by
  unfold childOf
  rw [if_neg (by omega), if_neg (by omega)]
theorem childOf_no (ups downs : Nat) : childOf ups downs 4294967295 = 4294967295 := if_pos rfl
theorem turn_ok {h : HierD} (hc : checkErr h = .nil) (htot : h.up.length + h.dn.length ≤ 1048576) : checkErr (turnD h) = .nil := by
  obtain ⟨f, e1, e2, e3, e4⟩ := checkErr_parts hc
  have u := firsts_nil f.u e1
  have d := firsts_nil f.d e2
  have hlen := endsOf_length u d
  have g : Fits (turnD h) := by
    refine ⟨f.n, ?_, f.d, f.u⟩
    have := f.s
    simp only [turnD, List.length_map]
    rw [Int.add_comm]
    exact this
  have hlen2 : (endsOf (turnD h)).length = h.up.length + h.dn.length := by
    have := endsOf_length (h := turnD h) (by simpa [turnD] using d) (by simpa [turnD] using u)
    rw [this]
    simp only [turnD, List.length_map]
    omega
  have r1 : firstsErr (turnD h).upF (turnD h).up.length = .nil := by simpa [turnD] using e2
  have r2 : firstsErr (turnD h).dnF (turnD h).dn.length = .nil := by simpa [turnD] using e1
  have r3 : orderErr (turnD h).node = .nil := e3
  rw [g.err, r1, r2, r3]
  refine linksGo_all _ (fun k hk => ?_)
  rw [hlen2] at hk
  obtain ⟨hs, hw⟩ := linksGo_nil e4 (if k < h.dn.length then h.up.length + k else k - h.dn.length) (by rw [hlen]; split <;> omega)
  have hx := ends_turn_get u d k hk
  obtain ⟨p1, p2, p3, p4⟩ := shape_parts hs
  have hnode : (turnD h).node.length = h.node.length := rfl
  have hups : (turnD h).up.length = h.dn.length := by simp [turnD]
  rw [hnode, hups]
  generalize hpi : (if k < h.dn.length then h.up.length + k else k - h.dn.length) = π at *
  generalize hX : (endsOf h).getD π default = X at *
  have hprev : 0 < k → k ≠ h.dn.length → (endsOf (turnD h)).getD (k - 1) default = turnEnd h.up.length h.dn.length ((endsOf h).getD (π - 1) default) ∧ 0 < π ∧ π ≠ h.up.length := by
    intro h0 h1
    have := ends_turn_get u d (k - 1) (by omega)
    by_cases h2 : k < h.dn.length
    · rw [if_pos h2] at hpi
      rw [if_pos (by omega)] at this
      subst hpi
      exact ⟨by rw [this, show h.up.length + (k - 1) = h.up.length + k - 1 by omega], by omega, by omega⟩
    · rw [if_neg h2] at hpi
      rw [if_neg (by omega)] at this
      subst hpi
      exact ⟨by rw [this, show k - 1 - h.dn.length = k - h.dn.length - 1 by omega], by omega, by omega⟩
  cases hp : X.link.plain with
  | true =>
    obtain ⟨q1, q2⟩ := (plain_iff _).1 hp
    have hpl : (turnEnd h.up.length h.dn.length X).link.plain = true := by
      rw [plain_iff]
      simp only [turnEnd, turnLink, q1, q2, childOf_no]
      exact ⟨trivial, trivial⟩
    refine ⟨?_, ?_⟩
    · rw [shapeB_eq _ _ _ _ _ _ hx rfl, if_neg (by simp only [turnEnd, turnLink]; omega), if_neg ?_, if_pos hpl]
      rintro ⟨a, b, c, e⟩
      obtain ⟨hpr, a1, a2⟩ := hprev a b
      rw [hpr] at c e
      have := p3 a1 a2 c
      simp only [turnEnd, turnLink] at e
      omega
    · unfold weightB at hw ⊢
      simp only [hX, hx] at hw ⊢
      rw [if_pos hp] at hw
      rw [if_pos hpl]
      exact hw
  | false =>
    obtain ⟨c1, c2, c3, c4, c5, c6⟩ := p4 hp
    have hl : (turnLink h.up.length h.dn.length X.link).left = X.link.right + h.dn.length := childOf_lt c3 (by omega)
    have hr : (turnLink h.up.length h.dn.length X.link).right = X.link.left - h.up.length := childOf_ge c1 (by omega) htot
    have hpl : (turnEnd h.up.length h.dn.length X).link.plain = false := by
      rw [Bool.eq_false_iff, ne_eq, plain_iff]
      simp only [turnEnd]
      rw [hl]
      omega
    have ga := ends_turn_get u d (X.link.right + h.dn.length) (by omega)
    rw [if_neg (by omega), show X.link.right + h.dn.length - h.dn.length = X.link.right by omega] at ga
    have gb := ends_turn_get u d (X.link.left - h.up.length) (by omega)
    rw [if_pos (by omega), show h.up.length + (X.link.left - h.up.length) = X.link.left by omega] at gb
    refine ⟨?_, ?_⟩
    · rw [shapeB_eq _ _ _ _ _ _ hx rfl, if_neg (by simp only [turnEnd, turnLink]; omega), if_neg ?_, hpl, if_neg (by simp), if_neg ?_]
      · apply decide_eq_true
        simp only [turnEnd]
        rw [hl, hr, ga, gb]
        exact ⟨c5, c4, c6.symm⟩
      · simp only [turnEnd]
        rw [hl, hr, hlen2]
        omega
      · rintro ⟨a, b, c, e⟩
        obtain ⟨hpr, a1, a2⟩ := hprev a b
        rw [hpr] at c e
        have := p3 a1 a2 c
        simp only [turnEnd, turnLink] at e
        omega
    · unfold weightB at hw ⊢
      simp only [hX, hx] at hw ⊢
      rw [if_neg (by rw [hp]; simp)] at hw
      rw [if_neg (by rw [hpl]; simp)]
      obtain ⟨w1, w2, w3, w4⟩ := of_decide_eq_true hw
      apply decide_eq_true
      simp only [turnEnd]
      rw [hl, hr, ga, gb]
      simp only [turnEnd, turnLink]
      omega
end Go.Proofs.YtchhbgckonpedaaGreatDoor

/- What a hierarchy turned about answers; what is answered for a node and itself. No program here. -/
namespace Go.Proofs.YtchhbgckonpedaaGreatDoor

theorem IsD.turn {n : Nat} {first : List Nat} {links : List LinkD} {s : Nat} {D : Nat → Option Int} (f : LinkD → LinkD) (hto : ∀ l, (f l).to = l.to) (hwt : ∀ l, (f l).wt = l.wt) : IsD n first (links.map f) s D ↔ IsD n first links s D := by
  constructor
  · intro h
    refine ⟨h.src, fun x d l hx hd hl => ?_, fun r e hr he => ?_, h.dom⟩
    · obtain ⟨e, h1, h2⟩ := h.fwd x d (f l) hx hd (by rw [seg_map]; exact List.mem_map_of_mem hl)
      exact ⟨e, by rw [← hto l]; exact h1, by rw [← hwt l]; exact h2⟩
    · obtain ⟨x, d, l, hx, hd, hl, h1, h2⟩ := h.bwd r e hr he
      rw [seg_map, List.mem_map] at hl
      obtain ⟨l', hl', rfl⟩ := hl
      exact ⟨x, d, l', hx, hd, hl', by rw [← hto l']; exact h1, by rw [← hwt l']; exact h2⟩
  · intro h
    refine ⟨h.src, fun x d l hx hd hl => ?_, fun r e hr he => ?_, h.dom⟩
    · rw [seg_map, List.mem_map] at hl
      obtain ⟨l', hl', rfl⟩ := hl
      obtain ⟨e, h1, h2⟩ := h.fwd x d l' hx hd hl'
      exact ⟨e, by rw [hto l']; exact h1, by rw [hwt l']; exact h2⟩
    · obtain ⟨x, d, l, hx, hd, hl, h1, h2⟩ := h.bwd r e hr he
      exact ⟨x, d, f l, hx, hd, by rw [seg_map]; exact List.mem_map_of_mem hl, by rw [hto l]; exact h1, by rw [hwt l]; exact h2⟩
theorem meetTo_congr {D E D' E' : Nat → Option Int} (hD : ∀ r, D r = D' r) (hE : ∀ r, E r = E' r) (k : Nat) : meetTo D E k = meetTo D' E' k := by
  rw [show D = D' from funext hD, show E = E' from funext hE]
theorem nodesErr_nil {n : Nat} {s t : Int} : nodesErr n s t = .nil ↔ (0 ≤ s ∧ s < n) ∧ 0 ≤ t ∧ t < n := by
  unfold nodesErr
  split
  · rename_i h; exact ⟨fun e => (by cases e), fun h' => by omega⟩
  split
  · rename_i h1 h; exact ⟨fun e => (by cases e), fun h' => by omega⟩
  · exact ⟨fun _ => by omega, fun _ => rfl⟩
/-- The same question has one answer. -/
theorem MeetIs.same {h : HierD} {s t : Int} {r r' : Nat} {d d' : Int} {x x' : EV} (a : MeetIs h s t r d x) (b : MeetIs h s t r' d' x') : r = r' ∧ d = d' ∧ x = x' := by
  have key : ∀ {D E D' E' : Nat → Option Int}, checkErr h = .nil → IsD h.node.length h.upF h.up (h.node.idxOf s.toNat) D → IsD h.node.length h.dnF h.dn (h.node.idxOf t.toNat) E → IsD h.node.length h.upF h.up (h.node.idxOf s.toNat) D' → IsD h.node.length h.dnF h.dn (h.node.idxOf t.toNat) E' → meetTo D E h.node.length = meetTo D' E' h.node.length :=
    fun e hD hE hD' hE' => meetTo_congr (hD.unique (half_up e) hD') (hE.unique (half_dn e) hE') _
  cases a with
  | form e =>
    cases b with
    | form _ => exact ⟨rfl, rfl, rfl⟩
    | nodes e' _ => exact absurd e' e
    | walk _ _ _ _ e' => exact absurd e' e
    | none _ _ e' => exact absurd e' e
  | nodes e k =>
    cases b with
    | form e' => exact absurd e e'
    | nodes _ _ => exact ⟨rfl, rfl, rfl⟩
    | walk _ _ _ _ _ k' => exact absurd k' k
    | none _ _ _ k' => exact absurd k' k
  | walk D E _ _ e k hD hE hm hd =>
    cases b with
    | form e' => exact absurd e e'
    | nodes _ k' => exact absurd k k'
    | walk D' E' _ _ _ _ hD' hE' hm' hd' =>
      have := key e hD hE hD' hE'
      rw [hm, hm'] at this
      simp only [Prod.mk.injEq] at this
      exact ⟨this.1, this.2, rfl⟩
    | none D' E' _ _ hD' hE' hd' =>
      have := key e hD hE hD' hE'
      rw [hm] at this
      rw [← this] at hd'
      exact absurd hd' hd
  | none D E e k hD hE hd =>
    cases b with
    | form e' => exact absurd e e'
    | nodes _ k' => exact absurd k k'
    | walk D' E' _ _ _ _ hD' hE' hm' hd' =>
      have := key e hD hE hD' hE'
      rw [hm'] at this
      rw [this] at hd
      exact absurd hd hd'
    | none _ _ _ _ _ _ _ => exact ⟨rfl, rfl, rfl⟩
/-- The other way, in the hierarchy turned about. -/
theorem MeetIs.turned {h : HierD} {s t : Int} {r r' : Nat} {d d' : Int} {x x' : EV} (hc : checkErr h = .nil) (hc' : checkErr (turnD h) = .nil) (a : MeetIs h s t r d x) (b : MeetIs (turnD h) t s r' d' x') : r = r' ∧ d = d' ∧ (x = .nil ↔ x' = .nil) := by
  have hk : nodesErr h.node.length s t = .nil ↔ nodesErr h.node.length t s = .nil := by rw [nodesErr_nil, nodesErr_nil]; exact And.comm
  have key : ∀ {D E D' E' : Nat → Option Int}, IsD h.node.length h.upF h.up (h.node.idxOf s.toNat) D → IsD h.node.length h.dnF h.dn (h.node.idxOf t.toNat) E → IsD (turnD h).node.length (turnD h).upF (turnD h).up ((turnD h).node.idxOf t.toNat) D' → IsD (turnD h).node.length (turnD h).dnF (turnD h).dn ((turnD h).node.idxOf s.toNat) E' → meetTo D E h.node.length = meetTo D' E' (turnD h).node.length := by
    intro D E D' E' hD hE hD' hE'
    have h1 : IsD h.node.length h.dnF h.dn (h.node.idxOf t.toNat) D' := (IsD.turn (turnLink h.up.length h.dn.length) (fun _ => rfl) (fun _ => rfl)).1 hD'
    have h2 : IsD h.node.length h.upF h.up (h.node.idxOf s.toNat) E' := (IsD.turn (turnLink h.up.length h.dn.length) (fun _ => rfl) (fun _ => rfl)).1 hE'
    rw [meetTo_swap]
    exact meetTo_congr (hE.unique (half_dn hc) h1) (hD.unique (half_up hc) h2) _
  cases a with
  | form e => exact absurd hc e
  | nodes e k =>
    cases b with
    | form e' => exact absurd hc' e'
    | nodes _ k' => exact ⟨rfl, rfl, ⟨fun h => absurd h k, fun h => absurd h k'⟩⟩
    | walk _ _ _ _ _ k' => exact absurd (hk.2 k') k
    | none _ _ _ k' => exact absurd (hk.2 k') k
  | walk D E _ _ e k hD hE hm hd =>
    cases b with
    | form e' => exact absurd hc' e'
    | nodes _ k' => exact absurd (hk.1 k) k'
    | walk D' E' _ _ _ _ hD' hE' hm' hd' =>
      have := key hD hE hD' hE'
      rw [hm, hm'] at this
      simp only [Prod.mk.injEq] at this
      exact ⟨this.1, this.2, Iff.rfl⟩
    | none D' E' _ _ hD' hE' hd' =>
      have := key hD hE hD' hE'
      rw [hm] at this
      rw [← this] at hd'
      exact absurd hd' hd
  | none D E e k hD hE hd =>
    cases b with
    | form e' => exact absurd hc' e'
    | nodes _ k' => exact absurd (hk.1 k) k'
    | walk D' E' _ _ _ _ hD' hE' hm' hd' =>
      have := key hD hE hD' hE'
      rw [hm'] at this
      rw [this] at hd
      exact absurd hd hd'
    | none _ _ _ _ _ _ _ => exact ⟨rfl, rfl, Iff.rfl⟩
theorem IsD.ge {n : Nat} {first : List Nat} {links : List LinkD} {s : Nat} {D : Nat → Option Int} (ok : HalfOk n first links) (h : IsD n first links s D) : ∀ r, r < s → D r = none := by
  intro r
  induction r using Nat.strongRecOn with
  | _ r ih =>
    intro hr
    cases hD : D r with
    | none => rfl
    | some e =>
      obtain ⟨x, d, l, hx, hd, hl, hto, -⟩ := h.bwd r e (by omega) hD
      have h1 := (ok.up x hx l hl).1
      rw [hto] at h1
      rw [ih x h1 (by omega)] at hd
      cases hd
/-- A node and itself: nought, at its own rank. -/
theorem MeetIs.self {h : HierD} {v r r' : Nat} {d : Int} {x : EV} (hc : checkErr h = .nil) (hv : h.node[r]? = some v) (a : MeetIs h v v r' d x) : x = .nil ∧ d = 0 ∧ r' = r := by
  obtain ⟨f, -, -, ho, -⟩ := checkErr_parts hc
  have ok := order_nil ho
  have hi := idxOf_getElem ok.nodup hv
  have hr : r < h.node.length := (List.getElem?_eq_some_iff.1 hv).1
  have hvl := ok.lt v (List.mem_of_getElem? hv)
  have key : ∀ {D E : Nat → Option Int}, IsD h.node.length h.upF h.up (h.node.idxOf (v : Int).toNat) D → IsD h.node.length h.dnF h.dn (h.node.idxOf (v : Int).toNat) E → meetTo D E h.node.length = (r, 0) := by
    intro D E hD hE
    rw [Int.toNat_natCast, hi] at hD hE
    have h0 : meetTo D E r = (0, 18446744073709551615) := by
      have := meetTo_skip (D := D) (E := E) (m := 0) r (fun q _ hq => .inl (hD.ge (half_up hc) q (by omega)))
      rw [Nat.zero_add] at this
      exact this
    have h1 : meetTo D E (r + 1) = (r, 0) := by
      rw [meetTo_step hD.src hE.src, h0, if_pos (by decide)]
      rfl
    have h2 : ∀ k, meetTo D E (r + 1 + k) = (r, 0) := by
      intro k
      induction k with
      | zero => exact h1
      | succ k ih =>
        rw [← Nat.add_assoc]
        cases hx : D (r + 1 + k) with
        | none =>
          have := meetTo_skip (D := D) (E := E) (m := r + 1 + k) 1 (fun q q1 q2 => .inl (by rw [show q = r + 1 + k by omega]; exact hx))
          rw [this, ih]
        | some a =>
          cases hy : E (r + 1 + k) with
          | none =>
            have := meetTo_skip (D := D) (E := E) (m := r + 1 + k) 1 (fun q q1 q2 => .inr (by rw [show q = r + 1 + k by omega]; exact hy))
            rw [this, ih]
          | some b =>
            have := hD.bnd (half_up hc) _ _ hx
            have := hE.bnd (half_dn hc) _ _ hy
            rw [meetTo_step hx hy, ih, if_neg (by simp only; omega)]
    have := h2 (h.node.length - (r + 1))
    rw [show r + 1 + (h.node.length - (r + 1)) = h.node.length by omega] at this
    exact this
  cases a with
  | form e => exact absurd hc e
  | nodes e k => exact absurd (nodesErr_nil.2 ⟨⟨by omega, by omega⟩, by omega, by omega⟩) k
  | walk D E _ _ e k hD hE hm hd =>
    rw [key hD hE] at hm
    simp only [Prod.mk.injEq] at hm
    exact ⟨rfl, hm.2.symm, hm.1.symm⟩
  | none D E e k hD hE hd =>
    rw [key hD hE] at hd
    exact absurd hd (by show ¬ (0 : Int) = 18446744073709551615; omega)
/-- A question that finds no error is about two nodes. -/
theorem MeetIs.nodes_in {h : HierD} {s t : Int} {r : Nat} {d : Int} (a : MeetIs h s t r d .nil) : (0 ≤ s ∧ s < h.node.length) ∧ 0 ≤ t ∧ t < h.node.length := by
  generalize hx : EV.nil = x at a
  cases a with
  | form e => exact absurd hx.symm e
  | nodes e k => exact absurd hx.symm k
  | walk D E _ _ e k => exact nodesErr_nil.1 k
  | none => cases hx
end Go.Proofs.YtchhbgckonpedaaGreatDoor

/- The distances upwards as the document reckons them, rank by rank: they are the least lengths. The example of three nodes. No program here. -/
namespace Go.Proofs.YtchhbgckonpedaaGreatDoor

def relaxD (d : Int) (D : Nat → Option Int) (l : LinkD) : Nat → Option Int := fun r => if r = l.to then some (match D r with | some e => if d + l.wt < e then d + l.wt else e | none => d + l.wt) else D r
def startD (s : Nat) : Nat → Option Int := fun r => if r = s then some 0 else none
def distsK (first : List Nat) (links : List LinkD) (s : Nat) : Nat → Nat → Option Int
  | 0 => startD s
  | k + 1 => match distsK first links s k k with
    | none => distsK first links s k
    | some d => (seg first links k).foldl (relaxD d) (distsK first links s k)

theorem relax_le (d : Int) (ls : List LinkD) (k : Nat) (h : ∀ l ∈ ls, k < l.to) : ∀ (D : Nat → Option Int) r, r ≤ k → ls.foldl (relaxD d) D r = D r := by
  induction ls with
  | nil => intro D r _; rfl
  | cons l ls ih =>
    intro D r hr
    rw [List.foldl_cons, ih (fun x hx => h x (by simp [hx])) _ r hr]
    have := h l (by simp)
    exact if_neg (by omega)
theorem relax_mono (d : Int) (ls : List LinkD) : ∀ (D : Nat → Option Int) r e, D r = some e → ∃ e', ls.foldl (relaxD d) D r = some e' ∧ e' ≤ e := by
  induction ls with
  | nil => intro D r e h; exact ⟨e, h, Int.le_refl _⟩
  | cons l ls ih =>
    intro D r e h
    rw [List.foldl_cons]
    have : ∃ e1, relaxD d D l r = some e1 ∧ e1 ≤ e := by
      unfold relaxD
      by_cases hr : r = l.to
      · rw [if_pos hr, h]
        simp only
        by_cases h1 : d + l.wt < e
        · rw [if_pos h1]; exact ⟨_, rfl, by omega⟩
        · rw [if_neg h1]; exact ⟨_, rfl, Int.le_refl _⟩
      · rw [if_neg hr]; exact ⟨e, h, Int.le_refl _⟩
    obtain ⟨e1, h1, h2⟩ := this
    obtain ⟨e2, h3, h4⟩ := ih _ r e1 h1
    exact ⟨e2, h3, by omega⟩
theorem relax_new (d : Int) (ls : List LinkD) : ∀ (D : Nat → Option Int), ∀ l ∈ ls, ∃ e, ls.foldl (relaxD d) D l.to = some e ∧ e ≤ d + l.wt := by
  induction ls with
  | nil => intro D l h; cases h
  | cons x ls ih =>
    intro D l h
    rw [List.foldl_cons]
    rw [List.mem_cons] at h
    rcases h with rfl | h
    · have : ∃ e1, relaxD d D l l.to = some e1 ∧ e1 ≤ d + l.wt := by
        unfold relaxD
        rw [if_pos rfl]
        cases D l.to with
        | none => exact ⟨_, rfl, Int.le_refl _⟩
        | some e =>
          simp only
          by_cases h1 : d + l.wt < e
          · rw [if_pos h1]; exact ⟨_, rfl, Int.le_refl _⟩
          · rw [if_neg h1]; exact ⟨_, rfl, by omega⟩
      obtain ⟨e1, h1, h2⟩ := this
      obtain ⟨e2, h3, h4⟩ := relax_mono d ls _ _ _ h1
      exact ⟨e2, h3, by omega⟩
    · exact ih _ l h
theorem relax_src (d : Int) (ls : List LinkD) : ∀ (D : Nat → Option Int) r e, ls.foldl (relaxD d) D r = some e → D r = some e ∨ ∃ l ∈ ls, l.to = r ∧ e = d + l.wt := by
  induction ls with
  | nil => intro D r e h; exact .inl h
  | cons x ls ih =>
    intro D r e h
    rw [List.foldl_cons] at h
    rcases ih _ r e h with h1 | ⟨l, hl, h1⟩
    · unfold relaxD at h1
      by_cases hr : r = x.to
      · rw [if_pos hr] at h1
        cases hD : D r with
        | none =>
          rw [hD] at h1
          simp only [Option.some.injEq] at h1
          exact .inr ⟨x, by simp, hr.symm, h1.symm⟩
        | some e0 =>
          rw [hD] at h1
          simp only [Option.some.injEq] at h1
          by_cases h2 : d + x.wt < e0
          · rw [if_pos h2] at h1
            exact .inr ⟨x, by simp, hr.symm, h1.symm⟩
          · rw [if_neg h2] at h1
            exact .inl (by rw [h1])
      · rw [if_neg hr] at h1
        exact .inl h1
    · exact .inr ⟨l, by simp [hl], h1⟩

structure DistK (n : Nat) (first : List Nat) (links : List LinkD) (s k : Nat) (D : Nat → Option Int) : Prop where
  src : D s = some 0
  fwd : ∀ x d l, x < k → D x = some d → l ∈ seg first links x → ∃ e, D l.to = some e ∧ e ≤ d + l.wt
  bwd : ∀ r e, r ≠ s → D r = some e → ∃ x d l, x < k ∧ x < r ∧ D x = some d ∧ l ∈ seg first links x ∧ l.to = r ∧ e = d + l.wt
  dom : ∀ r e, D r = some e → r < n
  low : ∀ r e, D r = some e → s ≤ r
theorem distsK_ok {n : Nat} {first : List Nat} {links : List LinkD} {s : Nat} (ok : HalfOk n first links) (hs : s < n) : ∀ k, k ≤ n → DistK n first links s k (distsK first links s k) := by
  intro k
  induction k with
  | zero =>
    intro _
    refine ⟨by simp [distsK, startD], fun x d l h => by omega, fun r e hr h => ?_, fun r e h => ?_, fun r e h => ?_⟩
    · simp [distsK, startD, hr] at h
    · by_cases hr : r = s
      · omega
      · simp [distsK, startD, hr] at h
    · by_cases hr : r = s
      · omega
      · simp [distsK, startD, hr] at h
  | succ k ih =>
    intro hk
    have I := ih (by omega)
    conv => rhs; unfold distsK
    cases hD : distsK first links s k k with
    | none =>
      simp only
      refine ⟨I.src, fun x d l hx hd hl => ?_, fun r e hr h => ?_, I.dom, I.low⟩
      · rcases Nat.lt_or_ge x k with h1 | h1
        · exact I.fwd x d l h1 hd hl
        · obtain rfl : x = k := by omega
          rw [hD] at hd; cases hd
      · obtain ⟨x, d, l, h1, h2⟩ := I.bwd r e hr h
        exact ⟨x, d, l, by omega, h2⟩
    | some d =>
      simp only
      have hup : ∀ l ∈ seg first links k, k < l.to := fun l hl => (ok.up k (by omega) l hl).1
      have hle := relax_le d (seg first links k) k hup (distsK first links s k)
      have hsk := I.low k d hD
      refine ⟨by rw [hle s hsk]; exact I.src, fun x d' l hx hd hl => ?_, fun r e hr h => ?_, fun r e h => ?_, fun r e h => ?_⟩
      · rw [hle x (by omega)] at hd
        rcases Nat.lt_or_ge x k with h1 | h1
        · obtain ⟨e, h2, h3⟩ := I.fwd x d' l h1 hd hl
          obtain ⟨e', h4, h5⟩ := relax_mono d (seg first links k) _ _ _ h2
          exact ⟨e', h4, by omega⟩
        · obtain rfl : x = k := by omega
          rw [hD] at hd
          simp only [Option.some.injEq] at hd
          subst hd
          exact relax_new d _ _ l hl
      · rcases relax_src d _ _ r e h with h1 | ⟨l, hl, hto, he⟩
        · obtain ⟨x, d', l, h2, h3, h4, h5⟩ := I.bwd r e hr h1
          exact ⟨x, d', l, by omega, h3, by rw [hle x (by omega)]; exact h4, h5⟩
        · exact ⟨k, d, l, by omega, by rw [← hto]; exact hup l hl, by rw [hle k (Nat.le_refl _)]; exact hD, hl, hto, he⟩
      · rcases relax_src d _ _ r e h with h1 | ⟨l, hl, hto, he⟩
        · exact I.dom r e h1
        · rw [← hto]; exact (ok.up k (by omega) l hl).2.1
      · rcases relax_src d _ _ r e h with h1 | ⟨l, hl, hto, he⟩
        · exact I.low r e h1
        · have := hup l hl
          omega
/-- Reckoned through all ranks: the least lengths. -/
theorem dists_isD {n : Nat} {first : List Nat} {links : List LinkD} {s : Nat} (ok : HalfOk n first links) (hs : s < n) : IsD n first links s (distsK first links s n) := by
  have I := distsK_ok ok hs n (Nat.le_refl _)
  exact ⟨I.src, fun x d l hx hd hl => I.fwd x d l hx hd hl, fun r e hr h => by
    obtain ⟨x, d, l, h1, h2, h3⟩ := I.bwd r e hr h
    exact ⟨x, d, l, h1, h3⟩, I.dom⟩

/-! ### the example of three nodes -/
def threeD : HierD := ⟨[1, 0, 2], [0, 1, 2, 2], [⟨2, 1, 4294967295, 4294967295⟩, ⟨2, 5, 2, 0⟩], [0, 1, 1, 1], [⟨1, 4, 4294967295, 4294967295⟩]⟩
theorem three_form : checkErr threeD = .nil := by decide +kernel
/-- What Distance and Meet answer of a hierarchy in form, reckoned. -/
theorem MeetIs.is {h : HierD} {s t : Int} {r : Nat} {d : Int} {x : EV} (hc : checkErr h = .nil) (hk : nodesErr h.node.length s t = .nil) (a : MeetIs h s t r d x) :
    (if (meetTo (distsK h.upF h.up (h.node.idxOf s.toNat) h.node.length) (distsK h.dnF h.dn (h.node.idxOf t.toNat) h.node.length) h.node.length).2 = 18446744073709551615 then (0, (0 : Int), EV.code 16)
      else ((meetTo (distsK h.upF h.up (h.node.idxOf s.toNat) h.node.length) (distsK h.dnF h.dn (h.node.idxOf t.toNat) h.node.length) h.node.length).1, (meetTo (distsK h.upF h.up (h.node.idxOf s.toNat) h.node.length) (distsK h.dnF h.dn (h.node.idxOf t.toNat) h.node.length) h.node.length).2, .nil)) = (r, d, x) := by
  obtain ⟨f, -, -, ho, -⟩ := checkErr_parts hc
  have ok := order_nil ho
  obtain ⟨⟨h1, h2⟩, h3, h4⟩ := nodesErr_nil.1 hk
  have i1 : h.node.idxOf s.toNat < h.node.length := List.idxOf_lt_length_iff.2 (ok.mem _ (by omega))
  have i2 : h.node.idxOf t.toNat < h.node.length := List.idxOf_lt_length_iff.2 (ok.mem _ (by omega))
  have D := dists_isD (half_up hc) i1
  have E := dists_isD (half_dn hc) i2
  split
  · rename_i h5
    obtain ⟨a1, a2, a3⟩ := (MeetIs.none _ _ hc hk D E h5).same a
    rw [a1, a2, a3]
  · rename_i h5
    obtain ⟨a1, a2, a3⟩ := (MeetIs.walk _ _ _ _ hc hk D E rfl h5).same a
    rw [a1, a2, ← a3]
theorem three_02 {r : Nat} {d : Int} {x : EV} (a : MeetIs threeD 0 2 r d x) : r = 2 ∧ d = 5 ∧ x = .nil := by
  have h := MeetIs.is three_form (by decide +kernel) a
  rw [show (if _ = _ then _ else _ : Nat × Int × EV) = (2, 5, .nil) from by decide +kernel] at h
  simp only [Prod.mk.injEq] at h
  exact ⟨h.1.symm, h.2.1.symm, h.2.2.symm⟩
theorem three_01 {r : Nat} {d : Int} {x : EV} (a : MeetIs threeD 0 1 r d x) : r = 1 ∧ d = 4 ∧ x = .nil := by
  have h := MeetIs.is three_form (by decide +kernel) a
  rw [show (if _ = _ then _ else _ : Nat × Int × EV) = (1, 4, .nil) from by decide +kernel] at h
  simp only [Prod.mk.injEq] at h
  exact ⟨h.1.symm, h.2.1.symm, h.2.2.symm⟩
end Go.Proofs.YtchhbgckonpedaaGreatDoor

/- The contracts of Turn's two closures. -/
namespace Go.Proofs.YtchhbgckonpedaaGreatDoor
open Go.ChangeShapes Go.WideShapes Go.ChangeAt Go.RowKit Go.Joins Go.Deep

end Go.Proofs.YtchhbgckonpedaaGreatDoor

/- The contract of Turn's closure that turns a list of links. -/
namespace Go.Proofs.YtchhbgckonpedaaGreatDoor
open Go.ChangeShapes Go.WideShapes Go.ChangeAt Go.RowKit Go.Joins Go.Deep

theorem Tryz.infoLink : (Tryz.prog.info? 65).map (fun i => (i.zero, i.size, i.bytes)) = some (some (.agg #[.int .u32 0, .int .u64 0, .int .u32 0, .int .u32 0]), 4, 24) := by kernel_rfl
def LinksNew (l : List LinkD) (w : World) (e : Ending) (w' : World) : Prop :=
  ∃ ao cap, e = .returned (.slice ao l.length cap) ∧ w'.ownsRow 0 65 4 (.slice ao l.length cap) l.length (l.flatMap linkCells) ∧ (∀ k, (Value.slice ao l.length cap).ownBlock = some k → w.heap.size ≤ k) ∧ Below w.heap.size w w'

end Go.Proofs.YtchhbgckonpedaaGreatDoor

/- The contract of slices.Clone at lists of words. -/
namespace Go.Proofs.YtchhbgckonpedaaGreatDoor
open Go.ChangeShapes Go.WideShapes Go.ChangeAt Go.RowKit Go.Joins Go.Deep

theorem Tryz.infoU32 : (Tryz.prog.info? 62).map (fun i => (i.zero, i.size, i.bytes)) = some (some (.int .u32 0), 1, 4) := by kernel_rfl
/-- A slice is nil, or has a place. -/
def SForm (ao : Option Addr) (cap : Nat) : Prop := (ao = none ∧ cap = 0) ∨ ∃ b o, ao = some ⟨b, o, none⟩
def WordsNew (l : List Nat) (w : World) (e : Ending) (w' : World) : Prop :=
  ∃ ao cap, e = .returned (.slice ao l.length cap) ∧ See w' ao cap u32Cells 1 l ∧ (SForm ao cap ∧ ∀ b o, ao = some ⟨b, o, none⟩ → w.heap.size ≤ b) ∧ Below w.heap.size w w'
theorem own_form2 {w : World} {base size n cap : Nat} {e : TypeId} {ao : Option Addr} {xs : List Value} (h : w.ownsRow base e size (.slice ao n cap) n xs) : SForm ao cap := by
  rcases h.2 with ⟨h1, -⟩ | ⟨g, c, cur, h1, -⟩
  · simp only [Value.slice.injEq] at h1
    exact .inl ⟨h1.1, h1.2.2⟩
  · simp only [Value.slice.injEq] at h1
    exact .inr ⟨g, 0, h1.1⟩

theorem run_eql_slice_nil {P : Program} (w : World) (t e : TypeId) (a : Option Addr) (l c : Nat) (h : P.underlying t = some (.slice e)) : (binOp .eql t (.slice a l c) (.slice none 0 0)).run P w = .ok (.bool a.isNone) w := by
  simp only [binOp]
  simp [run_equal_slice_nil w t e a l c h]

end Go.Proofs.YtchhbgckonpedaaGreatDoor

/- Each of a hierarchy's slices is nil, or has a place. -/
namespace Go.Proofs.YtchhbgckonpedaaGreatDoor

structure HForm (A : HA) : Prop where
  f0 : SForm A.a0 A.c0
  f1 : SForm A.a1 A.c1
  f2 : SForm A.a2 A.c2
  f3 : SForm A.a3 A.c3
  f4 : SForm A.a4 A.c4
end Go.Proofs.YtchhbgckonpedaaGreatDoor

/- The example of three nodes; whether a hierarchy has few links; the law's waking. -/
namespace Go.Proofs.YtchhbgckonpedaaGreatDoor
open Go.ChangeShapes Go.WideShapes Go.ChangeAt Go.RowKit Go.Joins Go.Deep

/-- A block that is a slice's from its head on. -/
theorem See.of_cells {α : Type} {w : World} {b : Nat} {t : TypeId} {f : α → List Value} {sz : Nat} {l : List α} (hf : ∀ x, (f x).length = sz) (h : Cells w b t (l.flatMap f)) (hl : l.length ≤ maxLen) : See w (some ⟨b, 0, none⟩) l.length f sz l := by
  refine ⟨Nat.le_refl _, hl, fun i x hx => ⟨b, 0, rfl, fun j u hu => ?_⟩⟩
  have hj : j < sz := by rw [← hf x]; exact (List.getElem?_eq_some_iff.1 hu).1
  have := flat_get hf l i j hj
  rw [hx] at this
  rw [Nat.zero_add]
  exact h.cell (this.trans hu)
theorem Cells.new' {w : World} {b : Nat} (hb : w.heap.size = b) (t : TypeId) (l : List Value) : Cells (w.alloc (.cells l.toArray t)) b t l := hb ▸ Cells.new w t l
/-- One result, which lies in a block of its own. -/
theorem results_c {P : Program} {fn : Func} {p : Tmp} {ty : TypeId} (h : fn.results = #[.cell p ty]) (tmps : Array Value) (w : World) (g : Nat) (t : TypeId) (cs : List Value) (d : TypeDesc)
    (hp : tmps.getD p undef = .pointer (some ⟨g, 0, none⟩)) (hg : Cells w g t cs)
    (hu : P.underlying ty = some d) (hd : (match d with | .struct _ | .array _ _ => true | _ => false) = true) (hi : (P.info? ty).map (·.size) = some cs.length) :
    (results fn tmps).run P w = .ok (.agg cs.toArray) w := by
  have hp' : tmps[p]?.getD undef = .pointer (some ⟨g, 0, none⟩) := by simpa using hp
  have hr := run_loadVar_row (P := P) w g t ty cs.toArray (0, 0) d hg hu hd (by simpa using hi)
  simp [results, h, hp', asAddr, hr]

def HierNew (h : HierD) (w : World) (e : Ending) (w' : World) : Prop := ∃ A, e = .returned (hierVal A h) ∧ HSee w' A h ∧ HForm A ∧ Below w.heap.size w w'

/-- A law's answer. -/
def TrueNew (w : World) (e : Ending) (w' : World) : Prop := e = .returned (.bool true) ∧ Below w.heap.size w w'
def BoolNew (w : World) (e : Ending) (w' : World) : Prop := ∃ b : Bool, e = .returned (.bool b) ∧ Below w.heap.size w w'
theorem hier_five {w : World} {b : Nat} {t : TypeId} {A : HA} {h : HierD} (c : Cells w b t (hierCells A h)) :
    w.cell? ⟨b, 0, none⟩ = some (.slice A.a0 h.node.length A.c0) ∧ w.cell? ⟨b, 1, none⟩ = some (.slice A.a1 h.upF.length A.c1) ∧ w.cell? ⟨b, 2, none⟩ = some (.slice A.a2 h.up.length A.c2) ∧
    w.cell? ⟨b, 3, none⟩ = some (.slice A.a3 h.dnF.length A.c3) ∧ w.cell? ⟨b, 4, none⟩ = some (.slice A.a4 h.dn.length A.c4) :=
  ⟨c.cell rfl, c.cell rfl, c.cell rfl, c.cell rfl, c.cell rfl⟩

def CountPost (h : HierD) (w : World) (e : Ending) (w' : World) : Prop := ∃ c : Int, e = .returned (.int .i64 c) ∧ c = wrap64 ((h.up.length : Int) + (h.dn.length : Int)) ∧ Below w.heap.size w w'
set_option maxRecDepth 100000 in
theorem count_any (A : HA) (h : HierD) (w : World) : Calls Tryz.prog 35 #[hierVal A h] w (CountPost h w) := by
  unfold hierVal
  go_enter Tryz.func35, Tryz.ntmps35
  go_wp2_with fail
  go_returns
  exact ⟨_, rfl, rfl, (Below.refl _ _).alloc (Nat.le_refl _) _⟩
set_option maxRecDepth 100000 in
theorem three_any (w : World) : Calls Tryz.prog 33 #[] w (HierNew threeD w) := by
  go_enter Tryz.func33, Tryz.ntmps33
  go_wp2
  have c0 := (((((Cells.new w 25 [.slice (some ⟨w.heap.size + 1, 0, none⟩) 3 3, .slice (some ⟨w.heap.size + 1 + 1, 0, none⟩) 4 4, .slice (some ⟨w.heap.size + 1 + 1 + 1, 0, none⟩) 2 2, .slice (some ⟨w.heap.size + 1 + 1 + 1 + 1, 0, none⟩) 4 4, .slice (some ⟨w.heap.size + 1 + 1 + 1 + 1 + 1, 0, none⟩) 1 1]).alloc
    (.cells ([1, 0, 2].flatMap u32Cells).toArray 62)).alloc (.cells ([0, 1, 2, 2].flatMap u32Cells).toArray 62)).alloc (.cells (threeD.up.flatMap linkCells).toArray 65)).alloc (.cells ([0, 1, 1, 1].flatMap u32Cells).toArray 62)).alloc (.cells (threeD.dn.flatMap linkCells).toArray 65)
  have c1 := ((((Cells.new' (w := w.alloc (.cells #[.slice (some ⟨w.heap.size + 1, 0, none⟩) 3 3, .slice (some ⟨w.heap.size + 1 + 1, 0, none⟩) 4 4, .slice (some ⟨w.heap.size + 1 + 1 + 1, 0, none⟩) 2 2, .slice (some ⟨w.heap.size + 1 + 1 + 1 + 1, 0, none⟩) 4 4, .slice (some ⟨w.heap.size + 1 + 1 + 1 + 1 + 1, 0, none⟩) 1 1] 25)) (b := w.heap.size + 1) (by simp) 62 ([1, 0, 2].flatMap u32Cells)).alloc
    (.cells ([0, 1, 2, 2].flatMap u32Cells).toArray 62)).alloc (.cells (threeD.up.flatMap linkCells).toArray 65)).alloc (.cells ([0, 1, 1, 1].flatMap u32Cells).toArray 62)).alloc (.cells (threeD.dn.flatMap linkCells).toArray 65)
  have c2 := (((Cells.new' (w := (w.alloc (.cells #[.slice (some ⟨w.heap.size + 1, 0, none⟩) 3 3, .slice (some ⟨w.heap.size + 1 + 1, 0, none⟩) 4 4, .slice (some ⟨w.heap.size + 1 + 1 + 1, 0, none⟩) 2 2, .slice (some ⟨w.heap.size + 1 + 1 + 1 + 1, 0, none⟩) 4 4, .slice (some ⟨w.heap.size + 1 + 1 + 1 + 1 + 1, 0, none⟩) 1 1] 25)).alloc
    (.cells ([1, 0, 2].flatMap u32Cells).toArray 62)) (b := w.heap.size + 1 + 1) (by simp) 62 ([0, 1, 2, 2].flatMap u32Cells)).alloc (.cells (threeD.up.flatMap linkCells).toArray 65)).alloc (.cells ([0, 1, 1, 1].flatMap u32Cells).toArray 62)).alloc (.cells (threeD.dn.flatMap linkCells).toArray 65)
  have c3 := ((Cells.new' (w := ((w.alloc (.cells #[.slice (some ⟨w.heap.size + 1, 0, none⟩) 3 3, .slice (some ⟨w.heap.size + 1 + 1, 0, none⟩) 4 4, .slice (some ⟨w.heap.size + 1 + 1 + 1, 0, none⟩) 2 2, .slice (some ⟨w.heap.size + 1 + 1 + 1 + 1, 0, none⟩) 4 4, .slice (some ⟨w.heap.size + 1 + 1 + 1 + 1 + 1, 0, none⟩) 1 1] 25)).alloc
    (.cells ([1, 0, 2].flatMap u32Cells).toArray 62)).alloc (.cells ([0, 1, 2, 2].flatMap u32Cells).toArray 62)) (b := w.heap.size + 1 + 1 + 1) (by simp) 65 (threeD.up.flatMap linkCells)).alloc (.cells ([0, 1, 1, 1].flatMap u32Cells).toArray 62)).alloc (.cells (threeD.dn.flatMap linkCells).toArray 65)
  have c4 := (Cells.new' (w := (((w.alloc (.cells #[.slice (some ⟨w.heap.size + 1, 0, none⟩) 3 3, .slice (some ⟨w.heap.size + 1 + 1, 0, none⟩) 4 4, .slice (some ⟨w.heap.size + 1 + 1 + 1, 0, none⟩) 2 2, .slice (some ⟨w.heap.size + 1 + 1 + 1 + 1, 0, none⟩) 4 4, .slice (some ⟨w.heap.size + 1 + 1 + 1 + 1 + 1, 0, none⟩) 1 1] 25)).alloc
    (.cells ([1, 0, 2].flatMap u32Cells).toArray 62)).alloc (.cells ([0, 1, 2, 2].flatMap u32Cells).toArray 62)).alloc (.cells (threeD.up.flatMap linkCells).toArray 65)) (b := w.heap.size + 1 + 1 + 1 + 1) (by simp) 62 ([0, 1, 1, 1].flatMap u32Cells)).alloc (.cells (threeD.dn.flatMap linkCells).toArray 65)
  have c5 := Cells.new' (w := ((((w.alloc (.cells #[.slice (some ⟨w.heap.size + 1, 0, none⟩) 3 3, .slice (some ⟨w.heap.size + 1 + 1, 0, none⟩) 4 4, .slice (some ⟨w.heap.size + 1 + 1 + 1, 0, none⟩) 2 2, .slice (some ⟨w.heap.size + 1 + 1 + 1 + 1, 0, none⟩) 4 4, .slice (some ⟨w.heap.size + 1 + 1 + 1 + 1 + 1, 0, none⟩) 1 1] 25)).alloc
    (.cells ([1, 0, 2].flatMap u32Cells).toArray 62)).alloc (.cells ([0, 1, 2, 2].flatMap u32Cells).toArray 62)).alloc (.cells (threeD.up.flatMap linkCells).toArray 65)).alloc (.cells ([0, 1, 1, 1].flatMap u32Cells).toArray 62)) (b := w.heap.size + 1 + 1 + 1 + 1 + 1) (by simp) 65 (threeD.dn.flatMap linkCells)
  have hsz : (Tryz.prog.info? 25).map (·.size) = some 5 := by kernel_rfl
  refine bodyPost_ret (results_c rfl _ _ w.heap.size 25 [.slice (some ⟨w.heap.size + 1, 0, none⟩) 3 3, .slice (some ⟨w.heap.size + 1 + 1, 0, none⟩) 4 4, .slice (some ⟨w.heap.size + 1 + 1 + 1, 0, none⟩) 2 2, .slice (some ⟨w.heap.size + 1 + 1 + 1 + 1, 0, none⟩) 4 4, .slice (some ⟨w.heap.size + 1 + 1 + 1 + 1 + 1, 0, none⟩) 1 1] _ rfl c0 Tryz.underlying25 rfl (by rw [hsz]; rfl)) rfl ?_
  refine ⟨⟨some ⟨w.heap.size + 1, 0, none⟩, some ⟨w.heap.size + 1 + 1, 0, none⟩, some ⟨w.heap.size + 1 + 1 + 1, 0, none⟩, some ⟨w.heap.size + 1 + 1 + 1 + 1, 0, none⟩, some ⟨w.heap.size + 1 + 1 + 1 + 1 + 1, 0, none⟩, 3, 4, 2, 4, 1⟩, rfl,
    ⟨See.of_cells u32Cells_len c1 (by simp [maxLen]), See.of_cells u32Cells_len c2 (by simp [maxLen]), See.of_cells linkCells_len c3 (by simp [maxLen, threeD]), See.of_cells u32Cells_len c4 (by simp [maxLen]), See.of_cells linkCells_len c5 (by simp [maxLen, threeD]), by decide, by decide, by decide, ?_, ?_⟩, ⟨.inr ⟨_, _, rfl⟩, .inr ⟨_, _, rfl⟩, .inr ⟨_, _, rfl⟩, .inr ⟨_, _, rfl⟩, .inr ⟨_, _, rfl⟩⟩, by go_grown⟩
  · intro l hl
    simp only [threeD, List.mem_cons, List.not_mem_nil, or_false] at hl
    rcases hl with rfl | rfl <;> simp [LinkD.ok]
  · intro l hl
    simp only [threeD, List.mem_cons, List.not_mem_nil, or_false] at hl
    rcases hl with rfl
    simp [LinkD.ok]
end Go.Proofs.YtchhbgckonpedaaGreatDoor

/- The document's errors as plain values: E, At, Bad. -/
namespace Go.Proofs.YtchhbgckonpedaaGreatDoor
open Go.ChangeShapes Go.WideShapes Go.ChangeAt Go.RowKit Go.Joins Go.Deep

/-- One result, which lies in a block of its own. -/
theorem results_e {P : Program} {fn : Func} {p : Tmp} {ty : TypeId} (h : fn.results = #[.cell p ty]) (tmps : Array Value) (w : World) (g : Nat) (t : TypeId) (cs : List Value) (d : TypeDesc)
    (hp : tmps.getD p undef = .pointer (some ⟨g, 0, none⟩)) (hg : Cells w g t cs)
    (hu : P.underlying ty = some d) (hd : (match d with | .struct _ | .array _ _ => true | _ => false) = true) (hi : (P.info? ty).map (·.size) = some cs.length) :
    (results fn tmps).run P w = .ok (.agg cs.toArray) w := by
  have hp' : tmps[p]?.getD undef = .pointer (some ⟨g, 0, none⟩) := by simpa using hp
  have hr := run_loadVar_row (P := P) w g t ty cs.toArray (0, 0) d hg hu hd (by simpa using hi)
  simp [results, h, hp', asAddr, hr]

theorem cells_at {w : World} {b : Nat} (hb : w.heap.size = b) (t : TypeId) (l : List Value) : Cells (w.alloc (.cells l.toArray t)) b t l := hb ▸ Cells.new w t l
/-- A value that tells an error plainly: its number, and its places. -/
def ErrV (w : World) (v : Value) : EV → Prop
  | .nil => v = .agg #[.int .i64 0, .slice none 0 0]
  | .code n => v = .agg #[.int .i64 n, .slice none 0 0]
  | .at k i n => ∃ g, v = .agg #[.int .i64 n, .slice (some ⟨g, 0, none⟩) 1 1] ∧ Cells w g 83 [.int .i64 k, .int .i64 i]
theorem ErrV.below {w w' : World} {v : Value} {x : EV} (h : ErrV w v x) (o : Below w.heap.size w w') : ErrV w' v x := by
  cases x with
  | nil => exact h
  | code n => exact h
  | «at» k i n => obtain ⟨b, e, hc⟩ := h; exact ⟨b, e, hc.below o hc.lt⟩
/-- The error's number is one of those that there are. -/
def EV.pos : EV → Prop
  | .nil => True
  | .code n => 1 ≤ n ∧ n ≤ 20
  | .at _ _ n => 1 ≤ n ∧ n ≤ 20
theorem ErrV.form {w : World} {v : Value} {x : EV} (h : ErrV w v x) : ∃ (c : Int) (ao : Option Addr) (n cap : Nat), v = .agg #[.int .i64 c, .slice ao n cap] := by
  cases x with
  | nil => exact ⟨_, _, _, _, h⟩
  | code n => exact ⟨_, _, _, _, h⟩
  | «at» k i n => obtain ⟨b, e, hc⟩ := h; exact ⟨_, _, _, _, e⟩
theorem ErrV.parts {w : World} {c : Int} {ao : Option Addr} {n cap : Nat} {x : EV} (h : ErrV w (.agg #[.int .i64 c, .slice ao n cap]) x) (hp : x.pos) : (x = .nil ∧ c = 0 ∧ n = 0) ∨ (x ≠ .nil ∧ 1 ≤ c ∧ c ≤ 20) := by
  cases x with
  | nil =>
    simp only [ErrV] at h
    simp at h
    exact .inl ⟨rfl, h.1, h.2.2.1⟩
  | code m =>
    simp only [ErrV] at h
    simp at h
    simp only [EV.pos] at hp
    exact .inr ⟨by simp, by omega, by omega⟩
  | «at» k i m =>
    obtain ⟨b, e, -⟩ := h
    simp at e
    simp only [EV.pos] at hp
    exact .inr ⟨by simp, by omega, by omega⟩
theorem EV.isNil_iff {x : EV} : x.isNil = true ↔ x = .nil := by cases x <;> simp [EV.isNil]

def BoolIs (b : Bool) (w : World) (e : Ending) (w' : World) : Prop := e = .returned (.bool b) ∧ Below w.heap.size w w'
set_option maxRecDepth 100000 in
theorem bad_any (v : Value) (x : EV) (w : World) (h : ErrV w v x) (hp : x.pos) : Calls Tryz.prog 21 #[v] w (BoolIs (!x.isNil) w) := by
  obtain ⟨c, ao, n, cap, rfl⟩ := h.form
  rcases h.parts hp with ⟨rfl, rfl, rfl⟩ | ⟨h1, h2, -⟩
  · clear h hp
    go_enter Tryz.func21, Tryz.ntmps21
    go_wp2
    go_returns
    exact ⟨rfl, by go_grown⟩
  · have hb : x.isNil = false := by rw [← Bool.not_eq_true, EV.isNil_iff]; exact h1
    have d1 : (c == 0) = false := by simp; omega
    rw [hb]
    clear h hp h1 hb
    go_enter Tryz.func21, Tryz.ntmps21
    go_wp2
    go_returns
    exact ⟨rfl, by go_grown⟩

theorem Tryz.sizeErr : (Tryz.prog.info? 36).map (·.size) = some 2 := by kernel_rfl
def ErrNew (x : EV) (w : World) (e : Ending) (w' : World) : Prop := ∃ v, e = .returned v ∧ ErrV w' v x ∧ Below w.heap.size w w'
set_option maxRecDepth 100000 in
theorem e_any (n : Int) (w : World) : Calls Tryz.prog 27 #[.int .i64 n] w (ErrNew (.code n) w) := by
  go_enter Tryz.func27, Tryz.ntmps27
  go_wp2
  refine bodyPost_ret (results_e rfl _ _ w.heap.size 36 [.int .i64 n, .slice none 0 0] _ rfl (Cells.new w _ _) Tryz.underlying36 rfl (by rw [Tryz.sizeErr]; rfl)) rfl ?_
  exact ⟨_, rfl, rfl, by go_grown⟩
set_option maxRecDepth 100000 in
theorem rat_any (k i n : Int) (w : World) : Calls Tryz.prog 34 #[.int .i64 k, .int .i64 i, .agg #[.int .i64 n, .slice none 0 0]] w (ErrNew (.at k i n) w) := by
  go_enter Tryz.func34, Tryz.ntmps34
  go_wp2
  refine bodyPost_ret (results_e rfl _ _ (w.heap.size + 1) 36 [.int .i64 n, .slice (some ⟨w.heap.size + 1 + 1, 0, none⟩) 1 1] _ rfl ((cells_at (by simp) _ _).alloc _) Tryz.underlying36 rfl (by rw [Tryz.sizeErr]; rfl)) rfl ?_
  exact ⟨_, rfl, ⟨_, rfl, cells_at (by simp) _ [.int .i64 k, .int .i64 i]⟩, by go_grown⟩
end Go.Proofs.YtchhbgckonpedaaGreatDoor

/- A hierarchy that comes in, opened: its slices read as data. -/
namespace Go.Proofs.YtchhbgckonpedaaGreatDoor
open Go.ChangeShapes Go.WideShapes Go.ChangeAt Go.RowKit Go.Joins Go.Deep

section
variable {H : Type} {enc : TypeId × Value → H} {P : Program} {w : World}
theorem wfu32 {x : Int} (h : (Lit.int .u32 x).wf = true) : 0 ≤ x ∧ x < 4294967296 := by
  simp [Lit.wf, IntKind.min, IntKind.max, IntKind.signed, IntKind.bits] at h
  omega
theorem wfu64' {x : Int} (h : (Lit.int .u64 x).wf = true) : 0 ≤ x ∧ x < 18446744073709551616 := by
  simp [Lit.wf, IntKind.min, IntKind.max, IntKind.signed, IntKind.bits] at h
  omega
/-- What a cell that holds a slice is. -/
theorem ok_slice {t e : TypeId} {b0 : Nat} {v : Value} (ht : P.underlying t = some (.slice e)) (h : Cell.okWide P w .any b0 t v) : v = .slice none 0 0 ∨ ∃ b o n cap, v = .slice (some ⟨b, o, none⟩) n cap := by
  simp only [Cell.okWide, ht, Cell.ok] at h
  cases v <;> simp_all
  rename_i a n cap
  cases a with
  | none => exact .inl (by cases n <;> cases cap <;> simp_all)
  | some a =>
    obtain ⟨b, o, sp⟩ := a
    simp only [World.has] at h
    exact .inr ⟨b, o, by simpa using h.2.2.2.1⟩
/-- A list of words. -/
def WordsIn (w : World) (v : Value) : Prop := ∃ ao cap l, v = .slice ao l.length cap ∧ See w ao cap u32Cells 1 l ∧ SForm ao cap ∧ ∀ x ∈ l, x < 4294967296
theorem open_words {t e : TypeId} {v : Value} {b0 base n : Nat} {held : Bool} {y : DataW H × List MemPlace} (ht : P.underlying t = some (.slice e)) (he : P.underlying e = some (.int .u32)) (hce : P.cellsOf e = 1) (hok : Cell.okWide P w .any b0 t v) (h : DataW.trod enc P w base (fun _ => true) held n t [v] = some y) : WordsIn w v := by
  rcases open_ints ht he hce h with ⟨h1, -⟩ | ⟨a, len, cap, zs, h1, -, hl, hm, hz, -, hc, hw⟩
  · simp only [List.cons.injEq, and_true] at h1
    subst h1
    exact ⟨none, 0, [], rfl, See.nil _ _ _, .inl ⟨rfl, rfl⟩, by simp⟩
  · simp only [List.cons.injEq, and_true] at h1
    subst h1
    rcases ok_slice ht hok with h2 | ⟨b, o, n2, c2, h2⟩
    · cases h2
    · simp only [Value.slice.injEq, Option.some.injEq] at h2
      obtain ⟨rfl, rfl, rfl⟩ := h2
      simp only [if_true] at hz
      have hlen : ((zs.take len).map Int.toNat).length = len := by simp; omega
      have hget : ∀ (i x : Nat), ((zs.take len).map Int.toNat)[i]? = some x → i < zs.length ∧ zs.getD i 0 = (x : Int) ∧ x < 4294967296 := by
        intro i x hx
        rw [List.getElem?_map, List.getElem?_take] at hx
        split at hx
        · rename_i hi
          have hil : i < zs.length := by omega
          rw [List.getElem?_eq_getElem hil] at hx
          simp only [Option.map_some, Option.some.injEq] at hx
          have := wfu32 (hw _ (List.getElem_mem hil))
          rw [List.getD_eq_getElem?_getD, List.getElem?_eq_getElem hil]
          simp only [Option.getD_some]
          exact ⟨hil, by omega, by omega⟩
        · cases hx
      refine ⟨some ⟨b, o, none⟩, cap, (zs.take len).map Int.toNat, by rw [hlen], ⟨by omega, hm, fun i x hx => ⟨b, o, rfl, fun j u hu => ?_⟩⟩, .inr ⟨_, _, rfl⟩, fun x hx => ?_⟩
      · obtain ⟨h3, h4, -⟩ := hget i x hx
        have := hc i h3
        rw [h4] at this
        have e : (⟨b, o, none⟩ : Addr).add i = ⟨b, o + i, none⟩ := by unfold Addr.add; split <;> simp_all
        rw [e] at this
        cases j with
        | zero =>
          simp only [u32Cells, List.getElem?_cons_zero, Option.some.injEq] at hu
          rw [Nat.mul_one, Nat.add_zero, this, hu]
        | succ j => simp [u32Cells] at hu
      · obtain ⟨i, hi⟩ := List.getElem?_of_mem hx
        exact (hget i x hi).2.2
/-- A list of links. -/
def LinksIn (w : World) (v : Value) : Prop := ∃ ao cap l, v = .slice ao l.length cap ∧ See w ao cap linkCells 4 l ∧ SForm ao cap ∧ ∀ x ∈ l, x.ok
/-- A program in which u is a link: its four fields' types. -/
def LinkType (P : Program) (u a b : TypeId) : Prop := P.underlying a = some (.int .u32) ∧ P.underlying b = some (.int .u64) ∧ P.cellsOf u = 4 ∧ ∃ f0 f1 f2 f3, P.underlying u = some (.struct #[f0, f1, f2, f3]) ∧ oneCellFields P #[f0, f1, f2, f3] = true ∧ f0.type = a ∧ f1.type = b ∧ f2.type = a ∧ f3.type = a
/-- Four cells that read as a link. -/
theorem open_link {u a b : TypeId} {base n : Nat} {spare : Nat → Bool} {held : Bool} {cs : List Value} {y : DataW H × List MemPlace} (lt : LinkType P u a b) (h : DataW.trod enc P w base spare held n u cs = some y) : ∃ l : LinkD, cs = linkCells l ∧ l.ok := by
  obtain ⟨ha, hb, hcu, f0, f1, f2, f3, hu, hone, t0, t1, t2, t3⟩ := lt
  obtain ⟨xs, m, -, -, hlen, hxl, hf⟩ := DataW.trod_struct hu h
  rw [hcu] at hlen
  match cs, hlen with
  | [c0, c1, c2, c3], _ =>
    obtain ⟨o0, k0⟩ := hone_of hone 0 f0 rfl
    obtain ⟨o1, k1⟩ := hone_of hone 1 f1 rfl
    obtain ⟨o2, k2⟩ := hone_of hone 2 f2 rfl
    obtain ⟨o3, k3⟩ := hone_of hone 3 f3 rfl
    have h0 := hf 0 f0 rfl
    have h1 := hf 1 f1 rfl
    have h2 := hf 2 f2 rfl
    have h3 := hf 3 f3 rfl
    rw [o0, k0, t0] at h0
    rw [o1, k1, t1] at h1
    rw [o2, k2, t2] at h2
    rw [o3, k3, t3] at h3
    have some_of : ∀ (i : Nat) (f : Field), (#[f0, f1, f2, f3] : Array Field)[i]? = some f → ∃ z, xs[i]? = some z := by
      intro i f hi
      have hlt : i < 4 := (Array.getElem?_eq_some_iff.1 hi).1
      exact ⟨_, List.getElem?_eq_getElem (by simp at hxl; omega)⟩
    obtain ⟨z0, hz0⟩ := some_of 0 f0 rfl
    obtain ⟨z1, hz1⟩ := some_of 1 f1 rfl
    obtain ⟨z2, hz2⟩ := some_of 2 f2 rfl
    obtain ⟨z3, hz3⟩ := some_of 3 f3 rfl
    obtain ⟨n0, e0, -, w0⟩ := DataW.trod_int ha (h0.trans hz0)
    obtain ⟨n1, e1, -, w1⟩ := DataW.trod_int hb (h1.trans hz1)
    obtain ⟨n2, e2, -, w2⟩ := DataW.trod_int ha (h2.trans hz2)
    obtain ⟨n3, e3, -, w3⟩ := DataW.trod_int ha (h3.trans hz3)
    simp at e0 e1 e2 e3
    subst e0 e1 e2 e3
    have b0 := wfu32 w0
    have b1 := wfu64' w1
    have b2 := wfu32 w2
    have b3 := wfu32 w3
    refine ⟨⟨n0.toNat, n1.toNat, n2.toNat, n3.toNat⟩, ?_, ?_⟩
    · simp only [linkCells]
      rw [Int.toNat_of_nonneg b0.1, Int.toNat_of_nonneg b1.1, Int.toNat_of_nonneg b2.1, Int.toNat_of_nonneg b3.1]
    · simp only [LinkD.ok]
      omega
theorem open_links {t u a b : TypeId} {v : Value} {b0 base n : Nat} {held : Bool} {y : DataW H × List MemPlace} (hts : P.underlying t = some (.slice u)) (lt : LinkType P u a b) (hok : Cell.okWide P w .any b0 t v) (h : DataW.trod enc P w base (fun _ => true) held n t [v] = some y) : LinksIn w v := by
  rcases open_slice hts h with ⟨h1, -⟩ | ⟨a, len, cap, m, n, D, Pl, h1, -, hl, hm, hmm, -, hi⟩
  · simp only [List.cons.injEq, and_true] at h1
    subst h1
    exact ⟨none, 0, [], rfl, See.nil _ _ _, .inl ⟨rfl, rfl⟩, by simp⟩
  · simp only [List.cons.injEq, and_true] at h1
    subst h1
    rcases ok_slice hts hok with h2 | ⟨b, o, n2, c2, h2⟩
    · cases h2
    · simp only [Value.slice.injEq, Option.some.injEq] at h2
      obtain ⟨rfl, rfl, rfl⟩ := h2
      simp only [if_true] at hmm
      subst hmm
      have each : ∀ i, i < m → ∃ l : LinkD, l.ok ∧ ∀ j u, (linkCells l)[j]? = some u → w.cell? ⟨b, o + i * 4 + j, none⟩ = some u := by
        intro i him
        obtain ⟨cs, hc, ht⟩ := hi i him
        rw [lt.2.2.1] at hc
        obtain ⟨l, rfl, hlo⟩ := open_link lt ht
        obtain ⟨-, -, hat⟩ := World.cells?_some hc
        refine ⟨l, hlo, fun j u hu => ?_⟩
        have hj : j < 4 := (List.getElem?_eq_some_iff.1 hu).1
        have := hat j hj
        have e1 : (⟨b, o, none⟩ : Addr).add (i * 4) = ⟨b, o + i * 4, none⟩ := by unfold Addr.add; split <;> simp_all
        have e2 : (⟨b, o + i * 4, none⟩ : Addr).add j = ⟨b, o + i * 4 + j, none⟩ := by unfold Addr.add; split <;> simp_all
        rw [e1, e2, hu] at this
        exact this
      obtain ⟨L, hL⟩ : ∃ L : Nat → LinkD, ∀ i, i < m → (L i).ok ∧ ∀ j u, (linkCells (L i))[j]? = some u → w.cell? ⟨b, o + i * 4 + j, none⟩ = some u :=
        ⟨fun i => if h : i < m then Classical.choose (each i h) else default, fun i h => by simp only [dif_pos h]; exact Classical.choose_spec (each i h)⟩
      have hget : ∀ i x, ((List.range len).map L)[i]? = some x → i < len ∧ x = L i := by
        intro i x hx
        have hil : i < len := by have := (List.getElem?_eq_some_iff.1 hx).1; simpa using this
        rw [List.getElem?_map, List.getElem?_range hil] at hx
        simp only [Option.map_some, Option.some.injEq] at hx
        exact ⟨hil, hx.symm⟩
      refine ⟨some ⟨b, o, none⟩, m, (List.range len).map L, by simp, ⟨by simpa using hl, hm, fun i x hx => ⟨b, o, rfl, ?_⟩⟩, .inr ⟨_, _, rfl⟩, fun x hx => ?_⟩
      · obtain ⟨h3, rfl⟩ := hget i x hx
        exact (hL i (by omega)).2
      · obtain ⟨i, hi⟩ := List.getElem?_of_mem hx
        obtain ⟨h3, rfl⟩ := hget i x hi
        exact (hL i (by omega)).1
/-- A program in which u is a hierarchy. -/
def HierType (P : Program) (u a b : TypeId) : Prop := P.cellsOf u = 5 ∧ P.cellTypes P.depth u = some [a, a, b, a, b] ∧ ∃ f0 f1 f2 f3 f4, P.underlying u = some (.struct #[f0, f1, f2, f3, f4]) ∧ oneCellFields P #[f0, f1, f2, f3, f4] = true ∧ f0.type = a ∧ f1.type = a ∧ f2.type = b ∧ f3.type = a ∧ f4.type = b
/-- **A hierarchy that comes in.** -/
theorem open_hier_of {u a b x l y : TypeId} {v : Value} {b0 base : Nat} {held : Bool} {d : DataW H} {p : List MemPlace} (ht : HierType P u a b) (hta : P.underlying a = some (.slice x)) (htx : P.underlying x = some (.int .u32)) (hcx : P.cellsOf x = 1) (htb : P.underlying b = some (.slice l)) (lt : LinkType P l x y) (hv : Value.okWide P w .any b0 u v) (h : DataW.Trod enc P w base (fun _ => true) held u v d p) :
    ∃ A h, v = hierVal A h ∧ HSee w A h ∧ HForm A := by
  obtain ⟨hcs, hct, f0, f1, f2, f3, f4, hu, hone, t0, t1, t2, t3, t4⟩ := ht
  have hv' := hv
  simp only [Value.okWide, hu] at hv'
  obtain ⟨cs, rfl, hsz, ts, hts, -, hrow⟩ := hv'
  rw [hct] at hts
  simp only [Option.some.injEq] at hts
  subst hts
  obtain ⟨cs⟩ := cs
  match cs, hsz.trans hcs with
  | [c0, c1, c2, c3, c4], _ =>
    obtain ⟨fuel, hf⟩ := h
    obtain ⟨xs, n, _, hx, _, hlen, hg⟩ := DataW.trod_struct hu hf
    obtain ⟨o0, k0⟩ := hone_of hone 0 f0 rfl
    obtain ⟨o1, k1⟩ := hone_of hone 1 f1 rfl
    obtain ⟨o2, k2⟩ := hone_of hone 2 f2 rfl
    obtain ⟨o3, k3⟩ := hone_of hone 3 f3 rfl
    obtain ⟨o4, k4⟩ := hone_of hone 4 f4 rfl
    match xs, hlen with
    | [y0, y1, y2, y3, y4], _ =>
      have h0 : DataW.trod enc P w base (fun _ => true) held n f0.type [c0] = some y0 := by simpa [Value.cells, o0, k0] using hg 0 f0 rfl
      have h1 : DataW.trod enc P w base (fun _ => true) held n f1.type [c1] = some y1 := by simpa [Value.cells, o1, k1] using hg 1 f1 rfl
      have h2 : DataW.trod enc P w base (fun _ => true) held n f2.type [c2] = some y2 := by simpa [Value.cells, o2, k2] using hg 2 f2 rfl
      have h3 : DataW.trod enc P w base (fun _ => true) held n f3.type [c3] = some y3 := by simpa [Value.cells, o3, k3] using hg 3 f3 rfl
      have h4 : DataW.trod enc P w base (fun _ => true) held n f4.type [c4] = some y4 := by simpa [Value.cells, o4, k4] using hg 4 f4 rfl
      rw [t0] at h0; rw [t1] at h1; rw [t2] at h2; rw [t3] at h3; rw [t4] at h4
      have r0 : Cell.okWide P w .any b0 a c0 := by obtain ⟨u, hu', h⟩ := hrow 0 c0 rfl; simp at hu'; subst hu'; exact h
      have r1 : Cell.okWide P w .any b0 a c1 := by obtain ⟨u, hu', h⟩ := hrow 1 c1 rfl; simp at hu'; subst hu'; exact h
      have r2 : Cell.okWide P w .any b0 b c2 := by obtain ⟨u, hu', h⟩ := hrow 2 c2 rfl; simp at hu'; subst hu'; exact h
      have r3 : Cell.okWide P w .any b0 a c3 := by obtain ⟨u, hu', h⟩ := hrow 3 c3 rfl; simp at hu'; subst hu'; exact h
      have r4 : Cell.okWide P w .any b0 b c4 := by obtain ⟨u, hu', h⟩ := hrow 4 c4 rfl; simp at hu'; subst hu'; exact h
      obtain ⟨a0, q0, l0, rfl, s0, m0, b0⟩ := open_words hta htx hcx r0 h0
      obtain ⟨a1, q1, l1, rfl, s1, m1, b1⟩ := open_words hta htx hcx r1 h1
      obtain ⟨a2, q2, l2, rfl, s2, m2, b2⟩ := open_links htb lt r2 h2
      obtain ⟨a3, q3, l3, rfl, s3, m3, b3⟩ := open_words hta htx hcx r3 h3
      obtain ⟨a4, q4, l4, rfl, s4, m4, b4⟩ := open_links htb lt r4 h4
      exact ⟨⟨a0, a1, a2, a3, a4, q0, q1, q2, q3, q4⟩, ⟨l0, l1, l2, l3, l4⟩, rfl, ⟨s0, s1, s2, s3, s4, b0, b1, b3, b2, b4⟩, ⟨m0, m1, m2, m3, m4⟩⟩

set_option maxRecDepth 100000 in
theorem Tryz.linkType : LinkType Tryz.prog 65 62 45 :=
  ⟨Tryz.underlying62, Tryz.underlying45, by kernel_rfl, _, _, _, _, Tryz.underlying65, by kernel_rfl, rfl, rfl, rfl, rfl⟩
set_option maxRecDepth 100000 in
theorem Tryz.hierType : HierType Tryz.prog 25 22 23 :=
  ⟨by kernel_rfl, by kernel_rfl, _, _, _, _, _, Tryz.underlying25, by kernel_rfl, rfl, rfl, rfl, rfl, rfl⟩
set_option maxRecDepth 100000 in
theorem open_hier {v : Value} {b0 base : Nat} {held : Bool} {d : DataW H} {p : List MemPlace} (hv : Value.okWide Tryz.prog w .any b0 25 v) (h : DataW.Trod enc Tryz.prog w base (fun _ => true) held 25 v d p) :
    ∃ A h, v = hierVal A h ∧ HSee w A h ∧ HForm A :=
  open_hier_of Tryz.hierType Tryz.underlying22 Tryz.underlying62 (by kernel_rfl) Tryz.underlying23 Tryz.linkType hv h
end
end Go.Proofs.YtchhbgckonpedaaGreatDoor

/- A list of ints that comes in. -/
namespace Go.Proofs.YtchhbgckonpedaaGreatDoor
open Go.ChangeShapes Go.WideShapes Go.ChangeAt Go.RowKit Go.Joins Go.Deep

def memInt (x : Int) : List Value := [.int .i64 x]
theorem memInt_len (x : Int) : (memInt x).length = 1 := rfl
section
variable {H : Type} {enc : TypeId × Value → H} {P : Program} {w : World}
/-- A list of ints that comes in. -/
theorem open_intlist {t e : TypeId} {v : Value} {b0 base : Nat} {held : Bool} {d : DataW H} {p : List MemPlace} (ht : P.underlying t = some (.slice e)) (he : P.underlying e = some (.int .i64)) (hce : P.cellsOf e = 1) (hv : Value.okWide P w .any b0 t v) (hd : DataW.Trod enc P w base (fun _ => true) held t v d p) :
    ∃ la lc lst, v = .slice la lst.length lc ∧ See w la lc memInt 1 lst ∧ ∀ x ∈ lst, (Lit.int .i64 x).wf = true := by
  have hok := hv
  simp only [Value.okWide, ht] at hok
  obtain ⟨fuel, h⟩ := hd
  rcases ok_slice ht hok with rfl | ⟨b, o, len, cap, rfl⟩
  · exact ⟨none, 0, [], rfl, See.nil _ _ _, by simp⟩
  · simp only [Value.cells] at h
    rcases open_ints ht he hce h with ⟨h1, -⟩ | ⟨a, len2, cap2, zs, h1, -, hl, hm, hz, -, hc, hw⟩
    · simp at h1
    · simp only [List.cons.injEq, and_true, Value.slice.injEq, Option.some.injEq] at h1
      obtain ⟨rfl, rfl, rfl⟩ := h1
      simp only [if_true] at hz
      have hlen : (zs.take len).length = len := by simp; omega
      have hget : ∀ (i : Nat) (x : Int), (zs.take len)[i]? = some x → i < zs.length ∧ zs.getD i 0 = x ∧ (Lit.int .i64 x).wf = true := by
        intro i x hx
        rw [List.getElem?_take] at hx
        split at hx
        · rename_i hi
          have hil : i < zs.length := by omega
          rw [List.getElem?_eq_getElem hil] at hx
          simp only [Option.some.injEq] at hx
          subst hx
          rw [List.getD_eq_getElem?_getD, List.getElem?_eq_getElem hil]
          exact ⟨hil, rfl, hw _ (List.getElem_mem hil)⟩
        · cases hx
      refine ⟨some ⟨b, o, none⟩, cap, zs.take len, by rw [hlen], ⟨by omega, hm, fun i x hx => ⟨b, o, rfl, fun j u hu => ?_⟩⟩, fun x hx => ?_⟩
      · obtain ⟨h3, h4, -⟩ := hget i x hx
        have := hc i h3
        rw [h4] at this
        have e : (⟨b, o, none⟩ : Addr).add i = ⟨b, o + i, none⟩ := by unfold Addr.add; split <;> simp_all
        rw [e] at this
        cases j with
        | zero =>
          simp only [memInt, List.getElem?_cons_zero, Option.some.injEq] at hu
          rw [Nat.mul_one, Nat.add_zero, this, hu]
        | succ j => simp [memInt] at hu
      · obtain ⟨i, hi⟩ := List.getElem?_of_mem hx
        exact (hget i x hi).2.2
end
end Go.Proofs.YtchhbgckonpedaaGreatDoor
