/- A plain search of a graph as flat arrays: the plain law. -/
import Derived.Test.YtchhbgckonpedaaGreatDoorG29
import Derived.Test.YtchhbgckonpedaaGreatDoorG21
import Derived.Test.YtchhbgckonpedaaGreatDoorG27
import Derived.Test.YtchhbgckonpedaaGreatDoorG28
namespace Go.Proofs.YtchhbgckonpedaaGreatDoor
open Go.ChangeShapes Go.WideShapes Go.ChangeAt Go.RowKit Go.Joins Go.Deep
def ByFrom (l : List AF) : Prop := l.Pairwise fun x y => x.1.val ≤ y.1.val
theorem cntLt_cons (x : AF) (l : List AF) (v : Nat) : cntLt (x :: l) v = cntLt l v + (if x.1.val < v then 1 else 0) := by
  unfold cntLt
  rw [List.countP_cons]
  simp
theorem row_lt : ∀ {l : List AF}, ByFrom l → ∀ {i : Nat} {x : AF}, l[i]? = some x → ∀ v, (x.1.val < v ↔ i < cntLt l v) := by
  intro l
  induction l with
  | nil => intro _ i x h; simp at h
  | cons a l ih =>
    intro hb i x hx v
    obtain ⟨h1, h2⟩ := List.pairwise_cons.1 hb
    rw [cntLt_cons]
    cases i with
    | zero =>
      simp only [List.getElem?_cons_zero, Option.some.injEq] at hx
      subst hx
      by_cases h : a.1.val < v
      · simp [h]
      · have : cntLt l v = 0 := by
          unfold cntLt
          rw [List.countP_eq_zero]
          intro y hy
          have := h1 y hy
          simp
          omega
        simp [h, this]
    | succ i =>
      simp only [List.getElem?_cons_succ] at hx
      have := ih h2 hx v
      have hm := h1 x (List.mem_of_getElem? hx)
      by_cases h : a.1.val < v
      · simp only [h, if_true]; omega
      · simp only [h, if_false]; omega
theorem row_iff {l : List AF} (h : ByFrom l) {i : Nat} {x : AF} (hx : l[i]? = some x) (v : Nat) : x.1.val = v ↔ cntLt l v ≤ i ∧ i < cntLt l (v + 1) := by
  have h1 := row_lt h hx v
  have h2 := row_lt h hx (v + 1)
  omega
def webC (l : List AF) : Nat → List (Nat × Nat) := fun v => (l.filter fun x => decide (x.1.val = v)).map fun x => (x.2.1.val, x.2.2.val)
theorem webC_mem {l : List AF} {v : Nat} {s : Nat × Nat} : s ∈ webC l v ↔ ∃ x ∈ l, x.1.val = v ∧ s = (x.2.1.val, x.2.2.val) := by
  unfold webC
  simp only [List.mem_map, List.mem_filter, decide_eq_true_eq]
  constructor
  · rintro ⟨x, ⟨h1, h2⟩, h3⟩; exact ⟨x, h1, h2, h3.symm⟩
  · rintro ⟨x, h1, h2, h3⟩; exact ⟨x, ⟨h1, h2⟩, h3.symm⟩
theorem webC_at {l : List AF} (h : ByFrom l) {v : Nat} {s : Nat × Nat} : s ∈ webC l v ↔ ∃ (i : Nat) (x : AF), cntLt l v ≤ i ∧ i < cntLt l (v + 1) ∧ l[i]? = some x ∧ s = (x.2.1.val, x.2.2.val) := by
  rw [webC_mem]
  constructor
  · rintro ⟨x, h1, h2, h3⟩
    obtain ⟨i, hi⟩ := List.mem_iff_getElem?.1 h1
    obtain ⟨h4, h5⟩ := (row_iff h hi v).1 h2
    exact ⟨i, x, h4, h5, hi, h3⟩
  · rintro ⟨i, x, h4, h5, hi, h3⟩
    exact ⟨x, List.mem_of_getElem? hi, (row_iff h hi v).2 ⟨h4, h5⟩, h3⟩
def Mono (D m : Nat → Option Int) : Prop := ∀ x d y e, D x = some d → m x = none → m y = some e → d ≤ e
theorem Mono.start (u : Nat) : Mono (startD u) (pushM (fun _ => none) u 0) := by
  intro x d y e hx hm _
  unfold startD at hx
  split at hx
  · rename_i h; subst h; simp [pushM] at hm
  · cases hx
theorem Mono.pop {D m : Nat → Option Int} (h : Mono D m) {id : Nat} {k : Int} (hD : D id = some k) (hmin : ∀ d e, m d = some e → k ≤ e) : Mono D (eraseM m id) := by
  intro x d y e hx hm hy
  unfold eraseM at hm hy
  split at hy
  · cases hy
  · split at hm
    · rename_i e1
      subst e1
      rw [hD] at hx
      simp only [Option.some.injEq] at hx
      have := hmin y e hy
      omega
    · exact h x d y e hx hm hy
theorem Mono.relax {D m : Nat → Option Int} (h : Mono D m) {k : Int} (hset : ∀ x d, D x = some d → m x = none → d ≤ k) {b : Nat} {c : Nat} (hlt : k + c < farOf (D b)) : Mono (updD D b (k + c)) (pushM m b (k + c)) := by
  intro x d y e hx hm hy
  have hxb : x ≠ b := by
    rintro rfl
    unfold pushM at hm
    rw [if_pos rfl] at hm
    split at hm <;> cases hm
  unfold pushM at hm
  rw [if_neg hxb] at hm
  unfold updD at hx
  rw [if_neg hxb] at hx
  have hxk := hset x d hx hm
  unfold pushM at hy
  split at hy
  · rename_i e1
    subst e1
    cases ho : m y with
    | none => rw [ho] at hy; simp only [Option.some.injEq] at hy; omega
    | some o =>
      rw [ho] at hy
      have := h x d y o hx hm ho
      simp only [Option.some.injEq] at hy
      split at hy <;> omega
  · exact h x d y e hx hm hy
theorem Mono.set_after {D m : Nat → Option Int} {k : Int} (hset : ∀ x d, D x = some d → m x = none → d ≤ k) {b : Nat} {c : Int} : ∀ x d, updD D b (k + c) x = some d → pushM m b (k + c) x = none → d ≤ k := by
  intro x d hx hm
  have hxb : x ≠ b := by
    rintro rfl
    unfold pushM at hm
    rw [if_pos rfl] at hm
    split at hm <;> cases hm
  unfold pushM at hm
  rw [if_neg hxb] at hm
  unfold updD at hx
  rw [if_neg hxb] at hx
  exact hset x d hx hm
def Tight (D : Nat → Option Int) (a : Nat) (s : Nat × Nat) : Prop := ∃ d, D a = some d ∧ D s.1 = some (d + s.2)
theorem IsS.src {W : Nat → List (Nat × Nat)} {u : Nat} {D : Nat → Option Int} {r : Int} (h : IsS W r u D) : D u = some 0 := by
  obtain ⟨d, h1, h2⟩ := h.least u 0 .nil
  have := (h.walk u d h1).nonneg
  rw [h1]
  congr 1
  omega
theorem IsS.step {W : Nat → List (Nat × Nat)} {u : Nat} {D : Nat → Option Int} (h : IsS W (-1) u D) {a : Nat} {d : Int} (ha : D a = some d) {s : Nat × Nat} (hs : s ∈ W a) : ∃ e, D s.1 = some e ∧ e ≤ d + s.2 :=
  h.least s.1 _ ((h.walk a d ha).snoc s hs (by omega))
theorem IsS.reach {W : Nat → List (Nat × Nat)} {u : Nat} {D : Nat → Option Int} (h : IsS W (-1) u D) {P : Nat → Prop} (h0 : P u) (hs : ∀ a s, P a → s ∈ W a → Tight D a s → P s.1) : ∀ v d, D v = some d → P v := by
  have key : ∀ v d, Wk W (-1) u v d → D v = some d → P v := by
    intro v d hw
    induction hw with
    | nil => intro _; exact h0
    | snoc s hw hm hr ih =>
      rename_i a d
      intro hd
      obtain ⟨e, h1, h2⟩ := h.least a d hw
      obtain ⟨y, h3, h4⟩ := h.step h1 hm
      rw [hd] at h3
      simp only [Option.some.injEq] at h3
      have : e = d := by omega
      subst this
      exact hs a s (ih h1) hm ⟨e, h1, hd⟩
  intro v d hd
  exact key v d (h.walk v d hd) hd
structure BInv (W : Nat → List (Nat × Nat)) (u : Nat) (D : Nat → Option Int) (n : Nat) (L : List Nat) (F : Nat → Nat) (P : Nat → Nat × Nat → Prop) : Prop where
  first : L[0]? = some u
  nd : L.Nodup
  lt : ∀ x ∈ L, x < n
  pre : ∀ (k x : Nat), 0 < k → L[k]? = some x → ∃ p a s, p < k ∧ L[p]? = some a ∧ F x = a ∧ s ∈ W a ∧ s.1 = x ∧ Tight D a s
  clo : ∀ a s, a ∈ L → s ∈ W a → Tight D a s → P a s → s.1 ∈ L
theorem BInv.has {W : Nat → List (Nat × Nat)} {u : Nat} {D : Nat → Option Int} {n : Nat} {L : List Nat} {F : Nat → Nat} {P : Nat → Nat × Nat → Prop} (h : BInv W u D n L F P) (hu : D u = some 0) : ∀ x ∈ L, ∃ d, D x = some d := by
  intro x hx
  obtain ⟨k, hk⟩ := List.mem_iff_getElem?.1 hx
  by_cases h0 : k = 0
  · subst h0
    rw [h.first] at hk
    simp only [Option.some.injEq] at hk
    subst hk
    exact ⟨0, hu⟩
  · obtain ⟨p, a, s, -, -, -, -, hsx, d, -, h2⟩ := h.pre k x (by omega) hk
    subst hsx
    exact ⟨_, h2⟩
theorem BInv.start {W : Nat → List (Nat × Nat)} {u : Nat} {D : Nat → Option Int} {n : Nat} (hu : u < n) (F : Nat → Nat) : BInv W u D n [u] F (fun a _ => a ∉ [u]) := by
  refine ⟨rfl, by simp, fun x hx => ?_, fun k x h0 hk => ?_, fun a s ha hs ht hp => absurd ha hp⟩
  · simp only [List.mem_singleton] at hx; omega
  · exfalso
    have := (List.getElem?_eq_some_iff.1 hk).1
    simp at this
    omega
theorem BInv.skip {W : Nat → List (Nat × Nat)} {u : Nat} {D : Nat → Option Int} {n : Nat} {L : List Nat} {F : Nat → Nat} {P Q : Nat → Nat × Nat → Prop} (h : BInv W u D n L F P) {a : Nat} {s : Nat × Nat} (hno : s.1 ∈ L ∨ ¬ Tight D a s)
    (hQ : ∀ b t, b ∈ L → t ∈ W b → Q b t → P b t ∨ (b = a ∧ t = s)) : BInv W u D n L F Q := by
  refine ⟨h.first, h.nd, h.lt, h.pre, fun b t hb ht htt hq => ?_⟩
  rcases hQ b t hb ht hq with h1 | ⟨rfl, rfl⟩
  · exact h.clo b t hb ht htt h1
  · rcases hno with h2 | h2
    · exact h2
    · exact absurd htt h2
theorem BInv.find {W : Nat → List (Nat × Nat)} {u : Nat} {D : Nat → Option Int} {n : Nat} {L : List Nat} {F : Nat → Nat} {P Q : Nat → Nat × Nat → Prop} (h : BInv W u D n L F P) {a : Nat} {s : Nat × Nat} (ha : a ∈ L) (hs : s ∈ W a) (hn : s.1 ∉ L) (ht : Tight D a s) (hsn : s.1 < n)
    {F' : Nat → Nat} (hF : F' s.1 = a) (hFo : ∀ x, x ≠ s.1 → F' x = F x)
    (hQ : ∀ b t, b ∈ L → t ∈ W b → Q b t → P b t ∨ (b = a ∧ t = s)) (hQn : ∀ t, ¬ Q s.1 t) : BInv W u D n (L ++ [s.1]) F' Q := by
  have hL0 : 0 < L.length := (List.getElem?_eq_some_iff.1 h.first).1
  refine ⟨?_, ?_, fun x hx => ?_, fun k x h0 hk => ?_, fun b t hb htm htt hq => ?_⟩
  · rw [List.getElem?_append_left hL0]; exact h.first
  · rw [List.nodup_append]
    refine ⟨h.nd, by simp, fun x hx y hy => ?_⟩
    simp only [List.mem_singleton] at hy
    subst hy
    rintro rfl
    exact hn hx
  · rcases List.mem_append.1 hx with h1 | h1
    · exact h.lt x h1
    · simp only [List.mem_singleton] at h1; subst h1; exact hsn
  · by_cases hkl : k < L.length
    · rw [List.getElem?_append_left hkl] at hk
      obtain ⟨p, b, t, h1, h2, h3, h4, h5, h6⟩ := h.pre k x h0 hk
      refine ⟨p, b, t, h1, by rw [List.getElem?_append_left (by omega)]; exact h2, ?_, h4, h5, h6⟩
      rw [hFo x (by rintro rfl; exact hn (List.mem_of_getElem? hk))]
      exact h3
    · have hkk : k = L.length := by
        have := (List.getElem?_eq_some_iff.1 hk).1
        simp at this
        omega
      subst hkk
      rw [List.getElem?_concat_length] at hk
      simp only [Option.some.injEq] at hk
      subst hk
      obtain ⟨p, hp⟩ := List.mem_iff_getElem?.1 ha
      have hpl := (List.getElem?_eq_some_iff.1 hp).1
      exact ⟨p, a, s, hpl, by rw [List.getElem?_append_left hpl]; exact hp, hF, hs, rfl, ht⟩
  · rcases List.mem_append.1 hb with h1 | h1
    · rcases hQ b t h1 htm hq with h2 | ⟨rfl, rfl⟩
      · exact List.mem_append_left _ (h.clo b t h1 htm htt h2)
      · simp
    · simp only [List.mem_singleton] at h1
      subst h1
      exact absurd hq (hQn t)
theorem BInv.all {W : Nat → List (Nat × Nat)} {u : Nat} {D : Nat → Option Int} {n : Nat} {L : List Nat} {F : Nat → Nat} (h : BInv W u D n L F (fun _ _ => True)) (hS : IsS W (-1) u D) : ∀ v d, D v = some d → v ∈ L :=
  hS.reach (List.mem_of_getElem? h.first) fun a s ha hs ht => h.clo a s ha hs ht trivial
theorem BInv.le {W : Nat → List (Nat × Nat)} {u : Nat} {D : Nat → Option Int} {n : Nat} {L : List Nat} {F : Nat → Nat} {P : Nat → Nat × Nat → Prop} (h : BInv W u D n L F P) : L.length ≤ n := nodup_bound n L h.nd h.lt
theorem nodup_place {l : List Nat} (h : l.Nodup) {i j x : Nat} (hi : l[i]? = some x) (hj : l[j]? = some x) : i = j := by
  obtain ⟨h1, e1⟩ := List.getElem?_eq_some_iff.1 hi
  obtain ⟨h2, e2⟩ := List.getElem?_eq_some_iff.1 hj
  rw [List.nodup_iff_pairwise_ne, List.pairwise_iff_getElem] at h
  rcases Nat.lt_trichotomy i j with c | c | c
  · exact absurd (e1.trans e2.symm) (h i j h1 h2 c)
  · exact c
  · exact absurd (e2.trans e1.symm) (h j i h2 h1 c)
structure WayBack (l : List AF) (D : Nat → Option Int) (L : List Nat) (t : Nat) (q : List Nat) (k : Nat) : Prop where
  head : ∃ v r d e, q = v :: r ∧ L[k]? = some v ∧ (∀ x ∈ r, ∃ j : Nat, k < j ∧ L[j]? = some x) ∧ D v = some d ∧ D t = some e ∧
    ∃ es : List AF, (∀ x ∈ es, x ∈ l) ∧ steps q = es.map (fun x : AF => (x.1.val, x.2.1.val)) ∧ d + (((es.map fun x : AF => x.2.2.val).sum : Nat) : Int) = e
  last : q.getLast? = some t
  nd : q.Nodup
theorem WayBack.start {l : List AF} {D : Nat → Option Int} {L : List Nat} {t k : Nat} {e : Int} (hk : L[k]? = some t) (hD : D t = some e) : WayBack l D L t [t] k :=
  ⟨⟨t, [], e, e, rfl, hk, by simp, hD, hD, [], by simp, rfl, by simp⟩, rfl, by simp⟩
theorem WayBack.step {l : List AF} {D : Nat → Option Int} {n u : Nat} {L : List Nat} {F : Nat → Nat} {P : Nat → Nat × Nat → Prop} {t k : Nat} {q : List Nat} (w : WayBack l D L t q k) (h : BInv (webC l) u D n L F P) {v : Nat} (hv : L[k]? = some v) (hne : v ≠ u) :
    ∃ p, p < k ∧ L[p]? = some (F v) ∧ WayBack l D L t (F v :: q) p := by
  have hk0 : 0 < k := by
    rcases Nat.eq_zero_or_pos k with e | e
    · subst e
      rw [h.first] at hv
      simp only [Option.some.injEq] at hv
      exact absurd hv.symm hne
    · exact e
  obtain ⟨p, a, s, h1, h2, h3, h4, h5, d, h6, h7⟩ := h.pre k v hk0 hv
  obtain ⟨⟨v', r, d', e, rfl, hv', hr, hd', he, es, hes, hst, hsum⟩, hlast, hnd⟩ := w
  rw [hv] at hv'
  simp only [Option.some.injEq] at hv'
  subst hv'
  rw [h3]
  obtain ⟨x, hx, hxa, hxs⟩ := webC_mem.1 h4
  rw [h5, hd'] at h7
  simp only [Option.some.injEq] at h7
  have hs1 : s.1 = x.2.1.val := by rw [hxs]
  have hs2 : s.2 = x.2.2.val := by rw [hxs]
  have hpl := (List.getElem?_eq_some_iff.1 h2).1
  have hins : ∀ y ∈ v :: r, ∃ j : Nat, p < j ∧ L[j]? = some y := by
    intro y hy
    rcases List.mem_cons.1 hy with rfl | hy
    · exact ⟨k, h1, hv⟩
    · obtain ⟨j, hj, hj2⟩ := hr y hy
      exact ⟨j, by omega, hj2⟩
  refine ⟨p, h1, h2, ⟨⟨a, v :: r, d, e, rfl, h2, hins, h6, he, x :: es, ?_, ?_, ?_⟩, ?_, ?_⟩⟩
  · intro y hy
    rcases List.mem_cons.1 hy with rfl | hy
    · exact hx
    · exact hes y hy
  · show (a, v) :: steps (v :: r) = _
    rw [hst, List.map_cons, hxa, ← hs1, h5]
  · rw [List.map_cons, List.sum_cons, ← hs2]
    omega
  · rw [List.getLast?_cons, hlast]
    rfl
  · refine List.nodup_cons.2 ⟨fun ha => ?_, hnd⟩
    obtain ⟨j, hj, hj2⟩ := hins a ha
    have := nodup_place h.nd h2 hj2
    omega
theorem WayBack.len {l : List AF} {D : Nat → Option Int} {n u : Nat} {L : List Nat} {F : Nat → Nat} {P : Nat → Nat × Nat → Prop} {t k : Nat} {q : List Nat} (w : WayBack l D L t q k) (h : BInv (webC l) u D n L F P) : q.length ≤ n := by
  refine nodup_bound n q w.nd fun x hx => ?_
  obtain ⟨⟨v, r, d, e, rfl, hv, hr, -⟩, -, -⟩ := w
  rcases List.mem_cons.1 hx with rfl | hx
  · exact h.lt _ (List.mem_of_getElem? hv)
  · obtain ⟨j, -, hj⟩ := hr x hx
    exact h.lt _ (List.mem_of_getElem? hj)
structure ArcPath (l : List AF) (s t : Nat) (d : Int) (p : List Nat) : Prop where
  head : p.head? = some s
  last : p.getLast? = some t
  nd : p.Nodup
  arcs : ∃ es : List AF, (∀ x ∈ es, x ∈ l) ∧ steps p = es.map (fun x : AF => (x.1.val, x.2.1.val)) ∧ (((es.map fun x : AF => x.2.2.val).sum : Nat) : Int) ≤ d
theorem WayBack.done {l : List AF} {D : Nat → Option Int} {L : List Nat} {s t k : Nat} {q : List Nat} {d : Int} (w : WayBack l D L t q k) (hS : IsS (webC l) (-1) s D) (hk : L[k]? = some s) (hw : Wk (webC l) (-1) s t d) : ArcPath l s t d q := by
  obtain ⟨⟨v, r, d0, e, rfl, hv, hr, hd0, he, es, hes, hst, hsum⟩, hlast, hnd⟩ := w
  rw [hk] at hv
  simp only [Option.some.injEq] at hv
  subst hv
  rw [hS.src] at hd0
  simp only [Option.some.injEq] at hd0
  obtain ⟨y, h1, h2⟩ := hS.least t d hw
  rw [he] at h1
  simp only [Option.some.injEq] at h1
  exact ⟨rfl, hlast, hnd, es, hes, hst, by omega⟩
def arcOf (h : HierD) (e : EndD) : AF := (Fin.ofNat 65536 (nodeAt h e.tail), Fin.ofNat 65536 (nodeAt h e.head), Fin.ofNat 2147483648 e.link.wt)
def arcsTo (h : HierD) (k : Nat) : List AF := (((endsOf h).take k).filter (·.link.plain)).map (arcOf h)
def arcsL (h : HierD) : List AF := ((endsOf h).filter (·.link.plain)).map (arcOf h)
theorem arcsTo_all (h : HierD) : arcsTo h (endsOf h).length = arcsL h := by unfold arcsTo arcsL; rw [List.take_length]
theorem arcsTo_len (h : HierD) (k : Nat) : (arcsTo h k).length ≤ k := by
  unfold arcsTo
  rw [List.length_map]
  exact Nat.le_trans (List.length_filter_le _ _) (by rw [List.length_take]; omega)
theorem arcsTo_succ (h : HierD) (k : Nat) (x : EndD) (hx : (endsOf h)[k]? = some x) : arcsTo h (k + 1) = arcsTo h k ++ (if x.link.plain then [arcOf h x] else []) := by
  unfold arcsTo
  rw [List.take_add_one, hx, List.filter_append, List.map_append]
  cases hp : x.link.plain <;> simp [hp]
theorem plain_wt {h : HierD} (hc : checkErr h = .nil) {x : EndD} (hx : x ∈ endsOf h) (hp : x.link.plain = true) : x.link.wt ≤ 2147483647 := by
  obtain ⟨-, -, -, -, hg⟩ := checkErr_parts hc
  obtain ⟨k, hk, rfl⟩ := List.mem_iff_getElem.1 hx
  obtain ⟨-, hw⟩ := linksGo_nil hg k hk
  unfold weightB at hw
  have hgd : (endsOf h).getD k default = (endsOf h)[k] := by rw [List.getD_eq_getElem?_getD, List.getElem?_eq_getElem hk]; rfl
  rw [hgd] at hw
  dsimp only at hw
  rw [hp] at hw
  simpa using hw
theorem node_lt {h : HierD} (hc : checkErr h = .nil) {q : Nat} (hq : q < h.node.length) : nodeAt h q < h.node.length ∧ h.node[q]? = some (nodeAt h q) := by
  obtain ⟨-, -, -, ho, -⟩ := checkErr_parts hc
  have ok := order_nil ho
  have e : h.node[q]? = some (nodeAt h q) := by
    unfold nodeAt
    rw [List.getD_eq_getElem?_getD, List.getElem?_eq_getElem hq]
    rfl
  exact ⟨ok.lt _ (List.mem_of_getElem? e), e⟩
theorem ends_lt {h : HierD} (hc : checkErr h = .nil) {x : EndD} (hx : x ∈ endsOf h) : x.tail < h.node.length ∧ x.head < h.node.length := by
  obtain ⟨k, hk, rfl⟩ := List.mem_iff_getElem.1 hx
  have hk2 : k < cntOf h := by rw [← cnt_ends hc]; exact hk
  have := (end_cases hc hk2).2
  have e : endAt h k = (endsOf h)[k] := by unfold endAt; rw [List.getD_eq_getElem?_getD, List.getElem?_eq_getElem hk]; rfl
  rwa [e] at this
theorem arcOf_vals {h : HierD} (hc : checkErr h = .nil) {x : EndD} (hx : x ∈ endsOf h) (hp : x.link.plain = true) : (arcOf h x).1.val = nodeAt h x.tail ∧ (arcOf h x).2.1.val = nodeAt h x.head ∧ (arcOf h x).2.2.val = x.link.wt := by
  have h1 := plain_wt hc hx hp
  obtain ⟨h2, h3⟩ := ends_lt hc hx
  obtain ⟨f, -, -, -, -⟩ := checkErr_parts hc
  have h4 := (node_lt hc h2).1
  have h5 := (node_lt hc h3).1
  have h6 := f.n
  refine ⟨?_, ?_, ?_⟩
  · exact Nat.mod_eq_of_lt (by omega)
  · exact Nat.mod_eq_of_lt (by omega)
  · exact Nat.mod_eq_of_lt (by omega)
def graphCells (n : Nat) (v : Value) : List Value := [.int .i64 (n : Int), v]
def GraphPost (h : HierD) (w : World) (e : Ending) (w' : World) : Prop :=
  (∃ v, e = .returned (.tuple #[.agg #[.int .i64 0, .slice none 0 0], v]) ∧ ErrIs w' v (checkErr h) ∧ checkErr h ≠ .nil ∧ Below w.heap.size w w') ∨
  (∃ ao cap l, e = .returned (.tuple #[.agg #[.int .i64 h.node.length, .slice ao l.length cap], .nilIface]) ∧ checkErr h = .nil ∧ l.Perm (arcsL h) ∧ l.Pairwise (fun x y => ltOf cmp2 y x = false) ∧ ArcsO w.heap.size w' (.slice ao l.length cap) l ∧ Below w.heap.size w w')
theorem gsort_any (B : Nat) (w : World) (v : Value) (l : List AF) (h : ArcsO B w v l) (hlen : l.length ≤ 4294967296) :
    Calls Tryz.prog 88 #[v, .func (.func 89) #[] #[]] w fun e w' => e = .returned (.tuple #[]) ∧ ∃ l' : List AF, l'.Perm l ∧ l'.Pairwise (fun x y => ltOf cmp2 y x = false) ∧ ArcsO B w' v l' ∧ Only v.ownBlock.toList w w' :=
  sort_any cmp2 swo2 89 (enters_of Tryz.func89 (by kernel_rfl) rfl) (fun x y W => gcmp_any x y W) B w v l h hlen
theorem ErrIs.putG {w : World} {x : EV} {B : Nat} {l : List Value} {v : Value} (h : ErrIs w v x) (hc : Cells w B 52 l) (a b : Value) : ErrIs ((w.setCell ⟨B, 0, none⟩ a).setCell ⟨B, 1, none⟩ b) v x := by
  cases x with
  | nil => exact h
  | code n => exact h
  | «at» k i n =>
    obtain ⟨q, hv, hq⟩ := h
    have hne : q ≠ B := by
      rintro rfl
      unfold Cells at hq hc
      rw [hq] at hc
      simp at hc
    exact ⟨q, hv, (hq.other hne _).other hne _⟩
set_option linter.unusedSimpArgs false in
set_option maxRecDepth 100000 in
set_option maxHeartbeats 8000000 in
theorem graph_any (A : HA) (h : HierD) (w : World) (see : HSee w A h) (hk : h.up.length + h.dn.length ≤ 281474976710656) : Calls Tryz.prog 71 #[hierVal A h] w (GraphPost h w) := by
  have SEE := Lib.hid see
  have HX0 := Lib.hid ((Cells.new w 25 (hierCells A h)).alloc (.cells #[.int .i64 0, .slice none 0 0] 52))
  have hr0 := Cells.new (w.alloc (.cells (hierCells A h).toArray 25)) 52 [.int .i64 0, .slice none 0 0]
  rw [show (w.alloc (.cells (hierCells A h).toArray 25)).heap.size = w.heap.size + 1 by simp] at hr0
  have HR0 := Lib.hid hr0
  clear hr0
  have HB0 := Lib.hid (((Below.refl w.heap.size w).alloc (Nat.le_refl _) (.cells (hierCells A h).toArray 25)).alloc (by simp) (.cells #[.int .i64 0, .slice none 0 0] 52))
  obtain ⟨k0, k1, k2, k3, k4⟩ := hier_five HX0.out
  clear see
  unfold hierVal
  go_enter Tryz.func71, Tryz.ntmps71
  go_wp2_with fail
  refine (ends_any A h _ (SEE.out.below HB0.out)).mono ?_
  rintro e w1 (⟨v, rfl, hv, hc, hb⟩ | ⟨aa, ac, rfl, hc, sa, hb⟩)
  · obtain ⟨tt, u, rfl⟩ := hv.iface hc
    have HR := Lib.hid (HR0.out.below hb HR0.out.lt)
    have r0 : w1.cell? ⟨w.heap.size + 1, 0, none⟩ = some (.int .i64 0) := HR.out.cell rfl
    have r1 : w1.cell? ⟨w.heap.size + 1, 1, none⟩ = some (.slice none 0 0) := HR.out.cell rfl
    have f0 := HR.out.frozen 0
    have f1 := HR.out.frozen 1
    have lr := HR.out.lt
    have HB := Lib.hid (HB0.out.trans (hb.mono HB0.out.size))
    have HV := Lib.hid hv
    have HC := Lib.hid hc
    clear hv hc hb k0 k1 k2 k3 k4
    go_wp2_with fail
    refine bodyPost_ret (results_ct rfl _ _ (w.heap.size + 1) 52 [.int .i64 0, .slice none 0 0] _ rfl ((HR.out.set 0 _).set 1 _) Tryz.underlying52 rfl (by rw [Tryz.sizeGraph]; rfl)) rfl ?_
    exact .inl ⟨_, rfl, ErrIs.putG HV.out HR.out _ _, HC.out, (HB.out.setCell (p := ⟨w.heap.size + 1, 0, none⟩) (by simp) _).setCell (p := ⟨w.heap.size + 1, 1, none⟩) (by simp) _⟩
  · have HR := Lib.hid (HR0.out.below hb HR0.out.lt)
    have HX := Lib.hid (HX0.out.below hb (by simp; omega))
    have HB := Lib.hid (HB0.out.trans (hb.mono HB0.out.size))
    have hN : (endsOf h).length ≤ 1048576 := by
      rw [cnt_ends hc]
      exact cnt_small hc hk
    have hn := (checkErr_parts hc).1.n
    have HC := Lib.hid hc
    have SA := Lib.hid sa
    have lr := HR.out.lt
    have lx := HX.out.lt
    obtain ⟨k0, k1, k2, k3, k4⟩ := hier_five HX.out
    obtain ⟨N, hNN⟩ : ∃ N, (endsOf h).length = N := ⟨_, rfl⟩
    rw [hNN] at hN
    rw [hNN]
    have HNN := Lib.hid hNN
    clear hc hb sa hNN k1 k2 k3 k4
    go_wp2_with fail
    obtain ⟨G, hG⟩ : ∃ G, w1.heap.size = G := ⟨_, rfl⟩
    have HGG := Lib.hid hG
    have c0 := Cells.new w1 52 (graphCells h.node.length (.slice none 0 0))
    rw [hG] at c0
    have C0 := Lib.hid c0
    have hsz1 := HB.out.size
    clear c0
    rw [hG]
    clear hG
    go_loopg [24] N (fun g vi wr => ∃ (k : Nat) (ao : Option Addr) (cap : Nat), vi = .int .i64 k ∧ k ≤ N ∧ g = N - k ∧ Cells wr G 52 (graphCells h.node.length (.slice ao (arcsTo h k).length cap)) ∧ ArcsO (G + 1) wr (.slice ao (arcsTo h k).length cap) (arcsTo h k) ∧ Below w1.heap.size w1 wr)
    case atStart => exact ⟨0, none, 0, rfl, Nat.zero_le _, rfl, C0.out, ArcsO.nil _ _, (Below.refl _ _).alloc (Nat.le_refl _) _⟩
    case round =>
      obtain ⟨k, ao, cap, rfl, hk, hg, hc, ha, hbl⟩ := hrel
      have HGM := Lib.hid hg
      have HCE := Lib.hid hc
      have HA := Lib.hid ha
      have HBL := Lib.hid hbl
      have hgs := hc.lt
      clear hg hc ha hbl
      by_cases hkl : k < N
      · obtain ⟨x, hx⟩ : ∃ x, (endsOf h)[k]? = some x := ⟨_, List.getElem?_eq_getElem (by rw [HNN.out]; exact hkl)⟩
        obtain ⟨b, o, ea, cc⟩ := SA.out.cell k x hx
        have e0 := ck HBL.out (cc 0 _ rfl)
        have e1 := ck HBL.out (cc 1 _ rfl)
        have e2 := ck HBL.out (cc 2 _ rfl)
        have e3 := ck HBL.out (cc 3 _ rfl)
        have e4 := ck HBL.out (cc 4 _ rfl)
        have e5 := ck HBL.out (cc 5 _ rfl)
        have e6 := ck HBL.out (cc 6 _ rfl)
        rw [Nat.add_zero] at e0
        have lb := block_lt e0
        have EA := Lib.hid ea
        have HXX := Lib.hid hx
        have HMX := Lib.hid (List.mem_of_getElem? hx)
        clear hx cc ea k0
        rw [EA.out]
        go_wp2_with fail
        refine (plain_any x.link _).mono ?_
        rintro e w2 ⟨rfl, hb⟩
        have hy := (Cells.new wr 162 (endCells x)).below hb (by simp)
        have hb0 := ((Below.refl wr.heap.size wr).alloc (Nat.le_refl _) (.cells (endCells x).toArray 162)).trans (hb.mono (by simp))
        have hce := HCE.out.below hb0 HCE.out.lt
        have ha := HA.out.below hb0
        have hbl := HBL.out.trans (hb0.mono HBL.out.size)
        have HCE2 := Lib.hid hce
        have HA2 := Lib.hid ha
        have HBL2 := Lib.hid hbl
        have HY := Lib.hid hy
        clear hb hb0 hce ha hbl hy e0 e1 e2 e3 e4 e5 e6
        have hgs2 := HCE2.out.lt
        have hws := HY.out.lt
        cases hp : x.link.plain with
        | false =>
          have HP := Lib.hid hp
          clear hp
          go_wp2_with fail
          rw [← EA.out]
          go_roundg (N - (k + 1))
          case measure => rw [HGM.out]; omega
          case rel =>
            have hs : arcsTo h (k + 1) = arcsTo h k := by rw [arcsTo_succ h k x HXX.out, HP.out]; simp
            refine ⟨k + 1, ao, cap, by go_num, by omega, rfl, ?_, ?_, HBL2.out⟩
            · rw [hs]; exact HCE2.out
            · rw [hs]; exact HA2.out
        | true =>
          have HP := Lib.hid hp
          clear hp
          have hq := ends_lt HC.out HMX.out
          have hv := arcOf_vals HC.out HMX.out HP.out
          have hwt := plain_wt HC.out HMX.out HP.out
          obtain ⟨q0, hq0⟩ : ∃ q, x.tail = q := ⟨_, rfl⟩
          obtain ⟨q1, hq1⟩ : ∃ q, x.head = q := ⟨_, rfl⟩
          obtain ⟨wt, hwt0⟩ : ∃ q, x.link.wt = q := ⟨_, rfl⟩
          rw [hq0, hq1] at hq
          rw [hq0, hq1, hwt0] at hv
          rw [hwt0] at hwt
          obtain ⟨n0, m0⟩ := node_lt HC.out hq.1
          obtain ⟨n1, m1⟩ := node_lt HC.out hq.2
          obtain ⟨v0, hv0⟩ : ∃ q, nodeAt h q0 = q := ⟨_, rfl⟩
          obtain ⟨v1, hv1⟩ : ∃ q, nodeAt h q1 = q := ⟨_, rfl⟩
          rw [hv0] at n0 m0 hv
          rw [hv1] at n1 m1 hv
          have SEE2 := Lib.hid (SEE.out.below (HB.out.trans (HBL2.out.mono hsz1)))
          obtain ⟨b0, o0, ea0, cc0⟩ := SEE2.out.node.cell q0 v0 m0
          obtain ⟨b1, o1, ea1, cc1⟩ := SEE2.out.node.cell q1 v1 m1
          rw [ea0] at ea1
          simp only [Option.some.injEq, Addr.mk.injEq, and_true] at ea1
          obtain ⟨rfl, rfl⟩ := ea1
          have z0 := cc0 0 _ rfl
          have z1 := cc1 0 _ rfl
          simp only [Nat.mul_one, Nat.add_zero] at z0 z1
          have lz := block_lt z0
          have HX3 := Lib.hid (HX.out.below HBL2.out HX.out.lt)
          obtain ⟨k0, -, -, -, -⟩ := hier_five HX3.out
          rw [ea0] at k0
          have y0 : w2.cell? ⟨wr.heap.size, 0, none⟩ = some (.int .u32 x.link.to) := HY.out.cell rfl
          have y1 : w2.cell? ⟨wr.heap.size, 1, none⟩ = some (.int .u64 (wt : Int)) := by rw [← hwt0]; exact HY.out.cell rfl
          have y4 : w2.cell? ⟨wr.heap.size, 4, none⟩ = some (.int .i64 (q0 : Int)) := by rw [← hq0]; exact HY.out.cell rfl
          have y5 : w2.cell? ⟨wr.heap.size, 5, none⟩ = some (.int .i64 (q1 : Int)) := by rw [← hq1]; exact HY.out.cell rfl
          have g0 : w2.cell? ⟨G, 0, none⟩ = some (.int .i64 (h.node.length : Int)) := HCE2.out.cell rfl
          obtain ⟨M, hM⟩ : ∃ M, (arcsTo h k).length = M := ⟨_, rfl⟩
          have hMk : M ≤ k := by rw [← hM]; exact arcsTo_len h k
          have g1 : w2.cell? ⟨G, 1, none⟩ = some (.slice ao M cap) := by rw [← hM]; exact HCE2.out.cell rfl
          have f1 := HCE2.out.frozen 1
          have cv0 := IntWalk.i64_in (v0 : Int) (by omega)
          have cv1 := IntWalk.i64_in (v1 : Int) (by omega)
          have cwt := IntWalk.i64_in (wt : Int) (by omega)
          have HM := Lib.hid hM
          have HV := Lib.hid hv
          have EA0 := Lib.hid ea0
          have HM0 := Lib.hid m0
          obtain ⟨hql0, hql1⟩ := hq
          clear hv hq0 hq1 hwt0 hv0 hv1 m0 m1 ea0 cc0 cc1 hM
          go_upto_region 9 with fail
          have hcx : arcCells (arcOf h x) = [.int .i64 (v0 : Int), .int .i64 (v1 : Int), .int .i64 (wt : Int)] := by
            unfold arcCells
            rw [HV.out.1, HV.out.2.1, HV.out.2.2]
          have hownk : w2.ownsRow 0 100 3 (.slice ao M cap) M ((arcsTo h k).flatMap arcCells) := by
            have := HA2.out.own
            rwa [HM.out] at this
          have HOK := Lib.hid hownk
          have HCX := Lib.hid hcx
          have hng : G ∉ (Value.slice ao M cap).ownBlock.toList := by
            intro hm
            have h1 := HA2.out.new G (by rw [HM.out]; exact own_mem hm)
            omega
          have HNG := Lib.hid hng
          have hcm : Cells w2 G 52 [.int .i64 (h.node.length : Int), .slice ao M cap] := by
            have := HCE2.out
            rw [HM.out] at this
            exact this
          have HCM := Lib.hid hcm
          clear hcm
          clear hownk hcx hng
          have hnh : ∀ b : Nat, b < G → b ∉ (Value.slice ao M cap).ownBlock.toList := by
            intro b hb hm
            have h1 := HA2.out.new b (by rw [HM.out]; exact own_mem hm)
            omega
          have hne : wr.heap.size ∉ (Value.slice ao M cap).ownBlock.toList := by
            intro hm
            have h1 := (HA.out.own.lt _ (by rw [HM.out]; exact own_mem hm)).2
            omega
          have hbG : b0 < G := by rw [← HGG.out]; exact Nat.lt_of_lt_of_le (block_lt (show w.cell? ⟨b0, o0 + q0, none⟩ = _ from by
            obtain ⟨b2, o2, ea2, cc2⟩ := SEE.out.node.cell q0 v0 HM0.out
            rw [EA0.out] at ea2
            simp only [Option.some.injEq, Addr.mk.injEq, and_true] at ea2
            obtain ⟨rfl, rfl⟩ := ea2
            have := cc2 0 _ rfl
            simpa only [Nat.mul_one, Nat.add_zero] using this)) HB.out.size
          have hGw : G ≤ wr.heap.size := by omega
          have hw0 : w.heap.size < G := by rw [← HGG.out]; exact lx
          change Code.wp _ ((regionAt 9 ghBody).getD .skip) _ _ _
          refine graph_app k0 y1 y4 y5 HCM.out z0 z1 hql0 hql1 (by omega) (by omega) hwt (by omega) HOK.out HNG.out (hnh _ hw0) hne (hnh _ hbG) (by omega) (by omega) (by omega) ?_
          intro ao5 cap5 w5 t31 t32 t33 t34 t35 t36 t37 t38 t39 t40 t41 t42 t43 t44 t45 t46 t47 t48 t49 t50 t51 t52 t53 t54 hown5 ho5 hk5 hc5
          have hbl5 : Below w1.heap.size w1 w5 := HBL2.out.trans (ho5.below HBL2.out.size (fun q hq => by
            have h1 := HA2.out.new q (by rw [HM.out]; exact own_mem hq)
            have h2 := HGG.out
            omega))
          have hs : arcsTo h (k + 1) = arcsTo h k ++ [arcOf h x] := by rw [arcsTo_succ h k x HXX.out, HP.out]; rfl
          have hn5 : ArcsO (G + 1) w5 (.slice ao5 (M + 1) cap5) (arcsTo h (k + 1)) := by
            rw [hs]
            have := HA2.out.app [arcOf h x] (m := 1) rfl (ao := ao5) (cap := cap5) (w5 := w5) (by rw [HM.out, List.flatMap_singleton, HCX.out]; exact hown5) (by rw [HM.out]; exact hk5) (by omega)
            rwa [HM.out] at this
          have hM5 : (arcsTo h (k + 1)).length = M + 1 := by rw [hs, List.length_append, HM.out]; rfl
          have N5 := Lib.hid hn5
          have B5 := Lib.hid hbl5
          have C5 := Lib.hid hc5
          have M5 := Lib.hid hM5
          clear hown5 ho5 hk5 hbl5 hs hn5 hc5 hM5 hnh hne
          go_wp2_with fail
          rw [← EA.out]
          go_roundg (N - (k + 1))
          case measure => rw [HGM.out]; omega
          case rel =>
            refine ⟨k + 1, ao5, cap5, by go_num, by omega, rfl, ?_, ?_, B5.out.setCell (p := ⟨G, 1, none⟩) (by have := HGG.out; show w1.heap.size ≤ G; omega) _⟩
            · rw [M5.out]
              exact C5.out.set 1 (.slice ao5 (M + 1) cap5)
            · rw [M5.out]
              exact N5.out.kept (bs := [G]) ((Only.refl _ w5).setCell (p := ⟨G, 1, none⟩) (by simp) _) (fun q hq hm => by
                have h1 := N5.out.new q hq
                simp at hm
                omega)
      · obtain rfl : k = N := by omega
        have hall : arcsTo h k = arcsL h := by
          have := arcsTo_all h
          rwa [HNN.out] at this
        rw [hall] at HCE HA
        have hlen : (arcsL h).length ≤ k := by rw [← hall]; exact arcsTo_len h k
        obtain ⟨M, hM⟩ : ∃ M, (arcsL h).length = M := ⟨_, rfl⟩
        rw [hM] at HCE HA hlen
        have HM := Lib.hid hM
        have g1 : wr.cell? ⟨G, 1, none⟩ = some (.slice ao M cap) := HCE.out.cell rfl
        clear hall hM k0
        go_wp2_with fail
        refine (gsort_any (G + 1) wr (.slice ao M cap) (arcsL h) HA.out (by rw [HM.out]; omega)).mono ?_
        rintro e w2 ⟨rfl, l', hperm, hsort, hown, honly⟩
        have hng : ∀ b : Nat, b ≤ G → b ∉ (Value.slice ao M cap).ownBlock.toList := by
          intro b hb hm
          have h1 := HA.out.new b (own_mem hm)
          omega
        have hc2 := HCE.out.kept honly (hng _ (Nat.le_refl _))
        have hGG := HGG.out
        have hr2 := (HR.out.below HBL.out HR.out.lt).kept honly (hng _ (by omega))
        have hbl2 : Below w1.heap.size w1 w2 := HBL.out.trans (honly.below HBL.out.size (fun q hq => by
          have h1 := HA.out.new q (own_mem hq)
          omega))
        have g0 : w2.cell? ⟨G, 0, none⟩ = some (.int .i64 (h.node.length : Int)) := hc2.cell rfl
        have g1 : w2.cell? ⟨G, 1, none⟩ = some (.slice ao M cap) := hc2.cell rfl
        have r0 : w2.cell? ⟨w.heap.size + 1, 0, none⟩ = some (.int .i64 0) := hr2.cell rfl
        have r1 : w2.cell? ⟨w.heap.size + 1, 1, none⟩ = some (.slice none 0 0) := hr2.cell rfl
        have f0 := hr2.frozen 0
        have f1 := hr2.frozen 1
        have lr2 := hr2.lt
        have lc2 := hc2.lt
        have HR2 := Lib.hid hr2
        have HBL3 := Lib.hid hbl2
        have HO2 := Lib.hid hown
        have HP2 := Lib.hid hperm
        have HS2 := Lib.hid hsort
        clear hperm hsort hown honly hng hc2 hr2 hbl2 hGG
        go_wp2_with fail
        refine bodyPost_ret (results_ct rfl _ _ (w.heap.size + 1) 52 [.int .i64 (h.node.length : Int), .slice ao M cap] _ rfl ((HR2.out.set 0 _).set 1 _) Tryz.underlying52 rfl (by rw [Tryz.sizeGraph]; rfl)) rfl ?_
        have hl' : l'.length = M := by rw [HP2.out.length_eq, HM.out]
        have hsz := HB.out.size
        have hGG := HGG.out
        refine .inr ⟨ao, cap, l', by rw [hl']; rfl, HC.out, HP2.out, HS2.out, ?_, ((HB.out.trans (HBL3.out.mono hsz)).setCell (p := ⟨w.heap.size + 1, 0, none⟩) (by simp) _).setCell (p := ⟨w.heap.size + 1, 1, none⟩) (by simp) _⟩
        rw [hl']
        have hk2 : w.heap.size + 1 < G := by omega
        exact (HO2.out.kept (bs := [w.heap.size + 1]) (((Only.refl _ w2).setCell (p := ⟨w.heap.size + 1, 0, none⟩) (by simp) _).setCell (p := ⟨w.heap.size + 1, 1, none⟩) (by simp) _) (fun q hq hm => by
          have h1 := HO2.out.new q hq
          simp at hm
          omega)).mono (by omega)
end Go.Proofs.YtchhbgckonpedaaGreatDoor
