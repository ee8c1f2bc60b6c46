/- A hierarchy turned about, as data: it is in form, and tells the distances the other way. No program here. -/
import Derived.Test.YtjbphoophgbmiaaQueryP
namespace Go.Proofs.Ytjbphoophgbmiaa

def childOf (ups downs i : Nat) : Nat := if i = 4294967295 then i else if i < ups then i + downs else i - ups
def turnLink (ups downs : Nat) (l : LinkD) : LinkD := ⟨l.to, l.wt, childOf ups downs l.right, childOf ups downs l.left⟩
def turnD (h : HierD) : HierD := ⟨h.node, h.dnF, h.dn.map (turnLink h.up.length h.dn.length), h.upF, h.up.map (turnLink h.up.length h.dn.length)⟩
def turnEnd (ups downs : Nat) (x : EndD) : EndD := ⟨turnLink ups downs x.link, x.head, x.tail, x.rank⟩

theorem seg_map (f : LinkD → LinkD) (first : List Nat) (links : List LinkD) (r : Nat) : seg first (links.map f) r = (seg first links r).map f := by
  unfold seg
  rw [← List.map_take, ← List.map_drop]
theorem getD_app_left {α : Type} (l m : List α) (i : Nat) (d : α) (h : i < l.length) : (l ++ m).getD i d = l.getD i d := by
  rw [List.getD_eq_getElem?_getD, List.getElem?_append_left h, List.getD_eq_getElem?_getD]
theorem getD_app_right {α : Type} (l m : List α) (i : Nat) (d : α) (h : l.length ≤ i) : (l ++ m).getD i d = m.getD (i - l.length) d := by
  rw [List.getD_eq_getElem?_getD, List.getElem?_append_right h, List.getD_eq_getElem?_getD]
theorem ends_turn (h : HierD) : endsOf (turnD h) = (((List.range h.node.length).flatMap (endsDn h.dnF h.dn)).map (turnEnd h.up.length h.dn.length)) ++ (((List.range h.node.length).flatMap (endsUp h.upF h.up)).map (turnEnd h.up.length h.dn.length)) := by
  unfold endsOf
  have e1 : ∀ (l : List Nat), (l.flatMap (endsUp (turnD h).upF (turnD h).up)) = (l.flatMap (endsDn h.dnF h.dn)).map (turnEnd h.up.length h.dn.length) := by
    intro l
    induction l with
    | nil => rfl
    | cons a l ih =>
      rw [List.flatMap_cons, List.flatMap_cons, List.map_append, ih]
      congr 1
      simp only [endsUp, endsDn, turnD, seg_map, List.map_map]
      rfl
  have e2 : ∀ (l : List Nat), (l.flatMap (endsDn (turnD h).dnF (turnD h).dn)) = (l.flatMap (endsUp h.upF h.up)).map (turnEnd h.up.length h.dn.length) := by
    intro l
    induction l with
    | nil => rfl
    | cons a l ih =>
      rw [List.flatMap_cons, List.flatMap_cons, List.map_append, ih]
      congr 1
      simp only [endsUp, endsDn, turnD, seg_map, List.map_map]
      rfl
  rw [e1, e2]
  rfl
theorem getD_map_lt {α β : Type} (f : α → β) (l : List α) (i : Nat) (a : α) (b : β) (h : i < l.length) : (l.map f).getD i b = f (l.getD i a) := by
  rw [List.getD_eq_getElem?_getD, List.getElem?_map, List.getD_eq_getElem?_getD, List.getElem?_eq_getElem h]
  rfl
/-- Where the link i of what is turned about stood. -/
theorem ends_turn_get {h : HierD} (u : FirstsOk h.node.length h.upF h.up.length) (d : FirstsOk h.node.length h.dnF h.dn.length) (i : Nat) (hi : i < h.up.length + h.dn.length) :
    (endsOf (turnD h)).getD i default = turnEnd h.up.length h.dn.length ((endsOf h).getD (if i < h.dn.length then h.up.length + i else i - h.dn.length) default) := by
  rw [ends_turn]
  have lu := endsUp_length u _ (Nat.le_refl _)
  have ld := endsDn_length d _ (Nat.le_refl _)
  rw [u.last] at lu
  rw [d.last] at ld
  unfold endsOf
  generalize (List.range h.node.length).flatMap (endsUp h.upF h.up) = U at *
  generalize (List.range h.node.length).flatMap (endsDn h.dnF h.dn) = D at *
  split
  · rename_i h1
    rw [getD_app_left _ _ _ _ (by rw [List.length_map, ld]; exact h1), getD_app_right _ _ _ _ (by omega), lu, show h.up.length + i - h.up.length = i by omega]
    exact getD_map_lt _ _ _ _ _ (by omega)
  · rename_i h1
    rw [getD_app_right _ _ _ _ (by rw [List.length_map, ld]; omega), getD_app_left _ _ _ _ (by omega), List.length_map, ld]
    exact getD_map_lt _ _ _ _ _ (by omega)
theorem linksGo_all {n ups : Nat} {all : List EndD} : ∀ m, (∀ k, k < m → shapeB n ups all k = true ∧ weightB all k = true) → linksGo n ups all m = .nil := by
  intro m
  induction m with
  | zero => intro _; rfl
  | succ m ih =>
    intro h
    unfold linksGo
    rw [ih (fun k hk => h k (by omega))]
    obtain ⟨h1, h2⟩ := h m (by omega)
    simp only
    rw [if_neg (by rw [h1]; simp), if_neg (by rw [h2]; simp)]
/-- What a link in form says of its children. -/
theorem shape_parts {n ups : Nat} {all : List EndD} {i : Nat} (h : shapeB n ups all i = true) : let x := all.getD i default
    x.link.to < n ∧ x.rank < x.link.to ∧ (0 < i → i ≠ ups → (all.getD (i - 1) default).rank = x.rank → (all.getD (i - 1) default).link.to < x.link.to) ∧
    (x.link.plain = false → ups ≤ x.link.left ∧ x.link.left < all.length ∧ x.link.right < ups ∧ (all.getD x.link.left default).tail = x.tail ∧ (all.getD x.link.right default).head = x.head ∧ (all.getD x.link.left default).rank = (all.getD x.link.right default).rank) := by
  rw [shapeB_eq n ups all i _ _ rfl rfl] at h
  simp only
  split at h
  · cases h
  split at h
  · cases h
  rename_i h1 h2
  refine ⟨by omega, by omega, fun a b c => by
    apply Classical.byContradiction
    intro hh
    exact h2 ⟨a, b, c, by omega⟩, fun hp => ?_⟩
  rw [hp, if_neg (by simp)] at h
  split at h
  · cases h
  rename_i h3
  obtain ⟨q1, q2, q3⟩ := of_decide_eq_true h
  exact ⟨by omega, by omega, by omega, q1, q2, q3⟩
theorem plain_iff (l : LinkD) : l.plain = true ↔ l.left = 4294967295 ∧ l.right = 4294967295 := by simp [LinkD.plain]
theorem childOf_lt {ups downs i : Nat} (h : i < ups) (hu : ups ≤ 1048576) : childOf ups downs i = i + downs := by
  unfold childOf
  rw [if_neg (by omega), if_pos h]
theorem childOf_ge {ups downs i : Nat} (h : ups ≤ i) (hi : i < ups + downs) (hu : ups + downs ≤ 1048576) : childOf ups downs i = i - ups := by
  unfold childOf
  rw [if_neg (by omega), if_neg (by omega)]
theorem childOf_no (ups downs : Nat) : childOf ups downs 4294967295 = 4294967295 := if_pos rfl
theorem turn_ok {h : HierD} (hc : checkErr h = .nil) (htot : h.up.length + h.dn.length ≤ 1048576) : checkErr (turnD h) = .nil := by
  obtain ⟨f, e1, e2, e3, e4⟩ := checkErr_parts hc
  have u := firsts_nil f.u e1
  have d := firsts_nil f.d e2
  have hlen := endsOf_length u d
  have g : Fits (turnD h) := by
    refine ⟨f.n, ?_, f.d, f.u⟩
    have := f.s
    simp only [turnD, List.length_map]
    rw [Int.add_comm]
    exact this
  have hlen2 : (endsOf (turnD h)).length = h.up.length + h.dn.length := by
    have := endsOf_length (h := turnD h) (by simpa [turnD] using d) (by simpa [turnD] using u)
    rw [this]
    simp only [turnD, List.length_map]
    omega
  have r1 : firstsErr (turnD h).upF (turnD h).up.length = .nil := by simpa [turnD] using e2
  have r2 : firstsErr (turnD h).dnF (turnD h).dn.length = .nil := by simpa [turnD] using e1
  have r3 : orderErr (turnD h).node = .nil := e3
  rw [g.err, r1, r2, r3]
  refine linksGo_all _ (fun k hk => ?_)
  rw [hlen2] at hk
  obtain ⟨hs, hw⟩ := linksGo_nil e4 (if k < h.dn.length then h.up.length + k else k - h.dn.length) (by rw [hlen]; split <;> omega)
  have hx := ends_turn_get u d k hk
  obtain ⟨p1, p2, p3, p4⟩ := shape_parts hs
  have hnode : (turnD h).node.length = h.node.length := rfl
  have hups : (turnD h).up.length = h.dn.length := by simp [turnD]
  rw [hnode, hups]
  generalize hpi : (if k < h.dn.length then h.up.length + k else k - h.dn.length) = π at *
  generalize hX : (endsOf h).getD π default = X at *
  have hprev : 0 < k → k ≠ h.dn.length → (endsOf (turnD h)).getD (k - 1) default = turnEnd h.up.length h.dn.length ((endsOf h).getD (π - 1) default) ∧ 0 < π ∧ π ≠ h.up.length := by
    intro h0 h1
    have := ends_turn_get u d (k - 1) (by omega)
    by_cases h2 : k < h.dn.length
    · rw [if_pos h2] at hpi
      rw [if_pos (by omega)] at this
      subst hpi
      exact ⟨by rw [this, show h.up.length + (k - 1) = h.up.length + k - 1 by omega], by omega, by omega⟩
    · rw [if_neg h2] at hpi
      rw [if_neg (by omega)] at this
      subst hpi
      exact ⟨by rw [this, show k - 1 - h.dn.length = k - h.dn.length - 1 by omega], by omega, by omega⟩
  cases hp : X.link.plain with
  | true =>
    obtain ⟨q1, q2⟩ := (plain_iff _).1 hp
    have hpl : (turnEnd h.up.length h.dn.length X).link.plain = true := by
      rw [plain_iff]
      simp only [turnEnd, turnLink, q1, q2, childOf_no]
      exact ⟨trivial, trivial⟩
    refine ⟨?_, ?_⟩
    · rw [shapeB_eq _ _ _ _ _ _ hx rfl, if_neg (by simp only [turnEnd, turnLink]; omega), if_neg ?_, if_pos hpl]
      rintro ⟨a, b, c, e⟩
      obtain ⟨hpr, a1, a2⟩ := hprev a b
      rw [hpr] at c e
      have := p3 a1 a2 c
      simp only [turnEnd, turnLink] at e
      omega
    · unfold weightB at hw ⊢
      simp only [hX, hx] at hw ⊢
      rw [if_pos hp] at hw
      rw [if_pos hpl]
      exact hw
  | false =>
    obtain ⟨c1, c2, c3, c4, c5, c6⟩ := p4 hp
    have hl : (turnLink h.up.length h.dn.length X.link).left = X.link.right + h.dn.length := childOf_lt c3 (by omega)
    have hr : (turnLink h.up.length h.dn.length X.link).right = X.link.left - h.up.length := childOf_ge c1 (by omega) htot
    have hpl : (turnEnd h.up.length h.dn.length X).link.plain = false := by
      rw [Bool.eq_false_iff, ne_eq, plain_iff]
      simp only [turnEnd]
      rw [hl]
      omega
    have ga := ends_turn_get u d (X.link.right + h.dn.length) (by omega)
    rw [if_neg (by omega), show X.link.right + h.dn.length - h.dn.length = X.link.right by omega] at ga
    have gb := ends_turn_get u d (X.link.left - h.up.length) (by omega)
    rw [if_pos (by omega), show h.up.length + (X.link.left - h.up.length) = X.link.left by omega] at gb
    refine ⟨?_, ?_⟩
    · rw [shapeB_eq _ _ _ _ _ _ hx rfl, if_neg (by simp only [turnEnd, turnLink]; omega), if_neg ?_, hpl, if_neg (by simp), if_neg ?_]
      · apply decide_eq_true
        simp only [turnEnd]
        rw [hl, hr, ga, gb]
        exact ⟨c5, c4, c6.symm⟩
      · simp only [turnEnd]
        rw [hl, hr, hlen2]
        omega
      · rintro ⟨a, b, c, e⟩
        obtain ⟨hpr, a1, a2⟩ := hprev a b
        rw [hpr] at c e
        have := p3 a1 a2 c
        simp only [turnEnd, turnLink] at e
        omega
    · unfold weightB at hw ⊢
      simp only [hX, hx] at hw ⊢
      rw [if_neg (by rw [hp]; simp)] at hw
      rw [if_neg (by rw [hpl]; simp)]
      obtain ⟨w1, w2, w3, w4⟩ := of_decide_eq_true hw
      apply decide_eq_true
      simp only [turnEnd]
      rw [hl, hr, ga, gb]
      simp only [turnEnd, turnLink]
      omega
end Go.Proofs.Ytjbphoophgbmiaa
