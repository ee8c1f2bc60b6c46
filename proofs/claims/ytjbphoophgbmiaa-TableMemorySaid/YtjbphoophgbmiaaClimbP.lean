/- The search upwards as data: what holds from round to round, and what distances come out. No program here. -/
import Derived.Test.YtjbphoophgbmiaaHeapW
import Derived.Test.YtjbphoophgbmiaaSee
namespace Go.Proofs.Ytjbphoophgbmiaa

structure SideD where
  n : Nat
  first : List Nat
  links : List LinkD
  bfirst : List Nat
  back : List LinkD
/-- The links at a rank. -/
def seg (first : List Nat) (links : List LinkD) (r : Nat) : List LinkD := (links.take (first.getD (r + 1) 0)).drop (first.getD r 0)
structure HalfOk (n : Nat) (first : List Nat) (links : List LinkD) : Prop where
  len : first.length = n + 1
  mono : ∀ r, r < n → first.getD r 0 ≤ first.getD (r + 1) 0
  last : ∀ r, r ≤ n → first.getD r 0 ≤ links.length
  up : ∀ r, r < n → ∀ l ∈ seg first links r, r < l.to ∧ l.to < n ∧ l.wt ≤ 140737488355328
structure SideOk (v : SideD) : Prop where
  n : v.n ≤ 65536
  fwd : HalfOk v.n v.first v.links
  bwd : HalfOk v.n v.bfirst v.back

/-- D tells the least lengths of the ways over links upwards from s. -/
structure IsD (n : Nat) (first : List Nat) (links : List LinkD) (s : Nat) (D : Nat → Option Int) : Prop where
  src : D s = some 0
  fwd : ∀ x d l, x < n → D x = some d → l ∈ seg first links x → ∃ e, D l.to = some e ∧ e ≤ d + l.wt
  bwd : ∀ r e, r ≠ s → D r = some e → ∃ x d l, x < n ∧ D x = some d ∧ l ∈ seg first links x ∧ l.to = r ∧ e = d + l.wt
  dom : ∀ r e, D r = some e → r < n
theorem IsD.unique {n : Nat} {first : List Nat} {links : List LinkD} (ok : HalfOk n first links) {s : Nat} {D E : Nat → Option Int} (h : IsD n first links s D) (k : IsD n first links s E) : ∀ r, D r = E r := by
  have key : ∀ (D E : Nat → Option Int), IsD n first links s D → IsD n first links s E → ∀ r, (∀ x, x < r → D x = E x) → ∀ e, D r = some e → ∃ e', E r = some e' ∧ e' ≤ e := by
    intro D E h k r ih e he
    by_cases hr : r = s
    · subst hr
      rw [h.src] at he
      exact ⟨0, k.src, by simp at he; omega⟩
    · obtain ⟨x, d, l, hx, hd, hl, hto, rfl⟩ := h.bwd r e hr he
      have hlt := (ok.up x hx l hl).1
      rw [hto] at hlt
      obtain ⟨e', h1, h2⟩ := k.fwd x d l hx (by rw [← ih x hlt]; exact hd) hl
      exact ⟨e', by rw [← hto]; exact h1, h2⟩
  intro r
  induction r using Nat.strongRecOn with
  | _ r ih =>
    cases hD : D r with
    | none =>
      cases hE : E r with
      | none => rfl
      | some e =>
        obtain ⟨e', h1, _⟩ := key E D k h r (fun x hx => (ih x hx).symm) e hE
        rw [hD] at h1; cases h1
    | some d =>
      obtain ⟨e', h1, h2⟩ := key D E h k r ih d hD
      obtain ⟨d', h3, h4⟩ := key E D k h r (fun x hx => (ih x hx).symm) e' h1
      rw [hD] at h3
      simp at h3
      rw [h1]
      congr 1
      omega

def eraseM (m : Nat → Option Int) (id : Nat) : Nat → Option Int := fun x => if x = id then none else m x
def pushM (m : Nat → Option Int) (id : Nat) (k : Int) : Nat → Option Int := fun x => if x = id then (match m id with | some o => some (if o ≤ k then o else k) | none => some k) else m x
def relax1 (ds : List (Option Int)) (d : Int) (m : Nat → Option Int) (l : LinkD) : Nat → Option Int := if (ds.getD l.to none).isSome then m else pushM m l.to (d + l.wt)

theorem Holds.push {s : HS} {n : Nat} {m : Nat → Option Int} (h : Holds s n m) (id : Nat) (k : Int) (hid : id < n) : (∀ x, keyOf (match keyOf s id with | some o => if o ≤ k then s else setP s id k | none => setP s id k) x = pushM m id k x) ∧
    Good (match keyOf s id with | some o => if o ≤ k then s else setP s id k | none => setP s id k) ∧ (match keyOf s id with | some o => if o ≤ k then s else setP s id k | none => setP s id k).2.length = n := by
  obtain ⟨g, hk, hl, -⟩ := setP_spec h.good id k (by rw [h.len]; exact hid)
  have hm := h.key id
  have hkm := h.key
  cases ho : keyOf s id with
  | none =>
    rw [ho] at hm
    refine ⟨fun x => ?_, g, hl.trans h.len⟩
    simp only [hk, pushM, ← hm, hkm]
  | some o =>
    rw [ho] at hm
    simp only
    split
    · rename_i hle
      refine ⟨fun x => ?_, h.good, h.len⟩
      simp only [pushM, ← hm, hkm, hle, if_true]
      split
      · rename_i e; rw [e, ← hm]
      · rfl
    · rename_i hle
      refine ⟨fun x => ?_, g, hl.trans h.len⟩
      simp only [hk, pushM, ← hm, hkm, hle, if_false]

section
variable {v : SideD} {s : Nat}
/-- What holds of the queue m and of the settled distances ds; P x l: the link l at x has been looked at. -/
structure CInv (v : SideD) (s : Nat) (m : Nat → Option Int) (ds : List (Option Int)) (P : Nat → LinkD → Prop) : Prop where
  len : ds.length = v.n
  dis : ∀ x d, ds.getD x none = some d → m x = none
  src : ds.getD s none = some 0 ∨ (m s = some 0 ∧ ∀ x, ds.getD x none = none)
  fwd : ∀ x d l, ds.getD x none = some d → l ∈ seg v.first v.links x → P x l → ∃ e, (ds.getD l.to none = some e ∨ m l.to = some e) ∧ e ≤ d + l.wt
  bwd : ∀ r e, r ≠ s → (ds.getD r none = some e ∨ m r = some e) → ∃ x d l, x < v.n ∧ ds.getD x none = some d ∧ l ∈ seg v.first v.links x ∧ l.to = r ∧ e = d + l.wt
  bnd : ∀ r e, (ds.getD r none = some e ∨ m r = some e) → 0 ≤ e ∧ e ≤ r * 140737488355328 ∧ r < v.n
  ord : ∀ x d r e, ds.getD x none = some d → m r = some e → d ≤ e

theorem getD_set (ds : List (Option Int)) (i : Nat) (v : Option Int) (x : Nat) (hi : i < ds.length) : (ds.set i v).getD x none = if i = x then v else ds.getD x none := by
  simp only [List.getD_eq_getElem?_getD, List.getElem?_set]
  by_cases h : i = x
  · rw [if_pos h, if_pos h, if_pos hi]; rfl
  · rw [if_neg h, if_neg h]

theorem CInv.start (hs : s < v.n) : CInv v s (pushM (fun _ => none) s 0) (List.replicate v.n none) (fun _ _ => True) := by
  have h0 : ∀ x, (List.replicate v.n (none : Option Int)).getD x none = none := by
    intro x
    simp only [List.getD_eq_getElem?_getD, List.getElem?_replicate]
    split <;> rfl
  have hm : ∀ x e, pushM (fun _ => none) s 0 x = some e → x = s ∧ e = 0 := by
    intro x e h
    unfold pushM at h
    split at h
    · rename_i hx; exact ⟨hx, by simpa using h.symm⟩
    · cases h
  refine ⟨by simp, fun x d h => ?_, .inr ⟨by simp [pushM], h0⟩, fun x d l h => ?_, fun r e hr h => ?_, fun r e h => ?_, fun x d r e h => ?_⟩
  · rw [h0] at h; cases h
  · rw [h0] at h; cases h
  · rcases h with h | h
    · rw [h0] at h; cases h
    · exact absurd (hm r e h).1 hr
  · rcases h with h | h
    · rw [h0] at h; cases h
    · obtain ⟨rfl, rfl⟩ := hm r e h
      exact ⟨by omega, by omega, hs⟩
  · rw [h0] at h; cases h

/-- The least thing is settled. -/
theorem CInv.settle {m : Nat → Option Int} {ds : List (Option Int)} (h : CInv v s m ds (fun _ _ => True)) {id : Nat} {k : Int} (hk : m id = some k) (hmin : ∀ d e, m d = some e → le2 (k, id) (e, d)) :
    CInv v s (eraseM m id) (ds.set id (some k)) (fun x _ => x ≠ id) ∧ (ds.set id (some k)).getD id none = some k ∧ (∀ x d, (ds.set id (some k)).getD x none = some d → d ≤ k) := by
  obtain ⟨hk0, hk1, hidn⟩ := h.bnd id k (.inr hk)
  have hidl : id < ds.length := by rw [h.len]; exact hidn
  have hset := fun x => getD_set ds id (some k) x hidl
  have hmin' : ∀ d e, m d = some e → k ≤ e := fun d e hd => by have := (le2_iff _ _).1 (hmin d e hd); simp at this; omega
  have hnot : ds.getD id none = none := by
    cases hd : ds.getD id none with
    | none => rfl
    | some d => have := h.dis id d hd; rw [hk] at this; cases this
  have herase : ∀ x e, eraseM m id x = some e → x ≠ id ∧ m x = some e := by
    intro x e hx
    unfold eraseM at hx
    split at hx
    · cases hx
    · rename_i hne; exact ⟨hne, hx⟩
  -- what is known of a rank is known still
  have hstay : ∀ r e, (ds.getD r none = some e ∨ m r = some e) → ((ds.set id (some k)).getD r none = some e ∨ eraseM m id r = some e) := by
    intro r e hr
    by_cases hri : id = r
    · subst hri
      rcases hr with hr | hr
      · rw [hnot] at hr; cases hr
      · rw [hk] at hr
        exact .inl (by rw [hset, if_pos rfl, hr])
    · rcases hr with hr | hr
      · exact .inl (by rw [hset, if_neg hri]; exact hr)
      · exact .inr (by unfold eraseM; rw [if_neg (fun e => hri e.symm)]; exact hr)
  have hback : ∀ r e, ((ds.set id (some k)).getD r none = some e ∨ eraseM m id r = some e) → (ds.getD r none = some e ∨ m r = some e) := by
    intro r e hr
    rcases hr with hr | hr
    · rw [hset] at hr
      split at hr
      · rename_i e1; subst e1; exact .inr (by rw [hk]; exact hr)
      · exact .inl hr
    · exact .inr (herase r e hr).2
  refine ⟨⟨by rw [List.length_set]; exact h.len, ?_, ?_, ?_, ?_, ?_, ?_⟩, by rw [hset, if_pos rfl], ?_⟩
  · intro x d hx
    rw [hset] at hx
    unfold eraseM
    split at hx
    · rename_i e1; rw [if_pos e1.symm]
    · rename_i e1; rw [if_neg (fun e => e1 e.symm)]; exact h.dis x d hx
  · rcases h.src with h1 | ⟨h1, h2⟩
    · refine .inl ?_
      rw [hset]
      split
      · rename_i e1; subst e1; rw [hnot] at h1; cases h1
      · exact h1
    · have : id = s := by
        apply Classical.byContradiction
        intro hne
        obtain ⟨x, d, l, _, hx, _⟩ := h.bwd id k hne (.inr hk)
        rw [h2 x] at hx; cases hx
      subst this
      rw [hk] at h1
      exact .inl (by rw [hset, if_pos rfl]; exact h1)
  · intro x d l hx hl hp
    rw [hset, if_neg (fun e => hp e.symm)] at hx
    obtain ⟨e, he, hle⟩ := h.fwd x d l hx hl trivial
    exact ⟨e, hstay _ _ he, hle⟩
  · intro r e hr he
    obtain ⟨x, d, l, h1, h2, h3, h4, h5⟩ := h.bwd r e hr (hback r e he)
    refine ⟨x, d, l, h1, ?_, h3, h4, h5⟩
    rw [hset]
    split
    · rename_i e1; subst e1; rw [hnot] at h2; cases h2
    · exact h2
  · intro r e he
    exact h.bnd r e (hback r e he)
  · intro x d r e hx hr
    obtain ⟨_, hr⟩ := herase r e hr
    rw [hset] at hx
    split at hx
    · simp at hx
      have := hmin' r e hr
      omega
    · exact h.ord x d r e hx hr
  · intro x d hx
    rw [hset] at hx
    split at hx
    · simp at hx; omega
    · exact h.ord x d id k hx hk

/-- One link of the settled rank is looked at. -/
theorem CInv.link (ok : HalfOk v.n v.first v.links) {m : Nat → Option Int} {ds : List (Option Int)} {P : Nat → LinkD → Prop} (h : CInv v s m ds P) {id : Nat} {k : Int} (hid : ds.getD id none = some k) (hmax : ∀ x d, ds.getD x none = some d → d ≤ k)
    {l : LinkD} (hl : l ∈ seg v.first v.links id) : CInv v s (relax1 ds k m l) ds (fun x l' => P x l' ∨ (x = id ∧ l' = l)) := by
  obtain ⟨hk0, hk1, hidn⟩ := h.bnd id k (.inl hid)
  obtain ⟨hup, hton, hwt⟩ := ok.up id hidn l hl
  have hsrc : ds.getD s none = some 0 := by
    rcases h.src with h1 | ⟨_, h2⟩
    · exact h1
    · rw [h2 id] at hid; cases hid
  unfold relax1
  cases hto : ds.getD l.to none with
  | some e =>
    simp only [Option.isSome_some, if_true]
    refine ⟨h.len, h.dis, h.src, ?_, h.bwd, h.bnd, h.ord⟩
    intro x d l' hx hl' hp
    rcases hp with hp | ⟨rfl, rfl⟩
    · exact h.fwd x d l' hx hl' hp
    · have := hmax _ e hto
      rw [hid] at hx
      simp at hx
      exact ⟨e, .inl hto, by omega⟩
  | none =>
    simp only [Option.isSome_none, Bool.false_eq_true, if_false]
    have hnew : ∃ e, pushM m l.to (k + l.wt) l.to = some e ∧ e ≤ k + l.wt ∧ (m l.to = some e ∨ e = k + l.wt) := by
      unfold pushM
      rw [if_pos rfl]
      cases m l.to with
      | none => exact ⟨_, rfl, by omega, .inr rfl⟩
      | some o =>
        by_cases ho : o ≤ k + l.wt
        · exact ⟨o, by simp [ho], ho, .inl rfl⟩
        · exact ⟨k + l.wt, by simp [ho], by omega, .inr rfl⟩
    obtain ⟨e0, he0, hle0, hor⟩ := hnew
    have hoth : ∀ x, x ≠ l.to → pushM m l.to (k + l.wt) x = m x := by
      intro x hx
      unfold pushM
      rw [if_neg hx]
    have hstay : ∀ r e, (ds.getD r none = some e ∨ m r = some e) → ∃ e', (ds.getD r none = some e' ∨ pushM m l.to (k + l.wt) r = some e') ∧ e' ≤ e := by
      intro r e hr
      by_cases h1 : r = l.to
      · subst h1
        rcases hr with hr | hr
        · rw [hto] at hr; cases hr
        · refine ⟨e0, .inr he0, ?_⟩
          rcases hor with h2 | h2
          · rw [hr] at h2; simp at h2; omega
          · have : pushM m l.to (k + l.wt) l.to = some (if e ≤ k + l.wt then e else k + l.wt) := by unfold pushM; rw [if_pos rfl, hr]
            rw [he0] at this
            simp at this
            split at this <;> omega
      · exact ⟨e, by rw [hoth r h1]; exact hr, by omega⟩
    have hback : ∀ r e, (ds.getD r none = some e ∨ pushM m l.to (k + l.wt) r = some e) → (ds.getD r none = some e ∨ m r = some e) ∨ (r = l.to ∧ e = k + l.wt) := by
      intro r e hr
      rcases hr with hr | hr
      · exact .inl (.inl hr)
      · by_cases h1 : r = l.to
        · subst h1
          rw [he0] at hr
          simp at hr
          subst hr
          rcases hor with h2 | h2
          · exact .inl (.inr h2)
          · exact .inr ⟨rfl, h2⟩
        · rw [hoth r h1] at hr
          exact .inl (.inr hr)
    refine ⟨h.len, ?_, .inl hsrc, ?_, ?_, ?_, ?_⟩
    · intro x d hx
      have h1 : x ≠ l.to := by rintro rfl; rw [hto] at hx; cases hx
      rw [hoth x h1]
      exact h.dis x d hx
    · intro x d l' hx hl' hp
      rcases hp with hp | ⟨rfl, rfl⟩
      · obtain ⟨e, h1, h2⟩ := h.fwd x d l' hx hl' hp
        obtain ⟨e', h3, h4⟩ := hstay _ _ h1
        exact ⟨e', h3, by omega⟩
      · rw [hid] at hx
        simp at hx
        exact ⟨e0, .inr he0, by omega⟩
    · intro r e hr he
      rcases hback r e he with h1 | ⟨rfl, rfl⟩
      · exact h.bwd r e hr h1
      · exact ⟨id, k, l, hidn, hid, hl, rfl, rfl⟩
    · intro r e he
      rcases hback r e he with h1 | ⟨rfl, rfl⟩
      · exact h.bnd r e h1
      · refine ⟨by omega, ?_, hton⟩
        have : (id : Int) + 1 ≤ l.to := by omega
        omega
    · intro x d r e hx hr
      rcases hback r e (.inr hr) with h1 | ⟨rfl, rfl⟩
      · rcases h1 with h1 | h1
        · have := h.dis r e h1
          have hne : r ≠ l.to := by rintro rfl; rw [hto] at h1; cases h1
          rw [hoth r hne, this] at hr; cases hr
        · exact h.ord x d r e hx h1
      · have := hmax x d hx
        omega

/-- All links of the settled rank have been looked at. -/
theorem CInv.links (ok : HalfOk v.n v.first v.links) {m : Nat → Option Int} {ds : List (Option Int)} {id : Nat} {k : Int} (h : CInv v s m ds (fun x _ => x ≠ id)) (hid : ds.getD id none = some k) (hmax : ∀ x d, ds.getD x none = some d → d ≤ k) (j : Nat) :
    CInv v s (((seg v.first v.links id).take j).foldl (relax1 ds k) m) ds (fun x l => x ≠ id ∨ l ∈ (seg v.first v.links id).take j) := by
  induction j with
  | zero => exact ⟨h.len, h.dis, h.src, fun x d l hx hl hp => h.fwd x d l hx hl (by simpa using hp), h.bwd, h.bnd, h.ord⟩
  | succ j ih =>
    by_cases hj : j < (seg v.first v.links id).length
    · rw [List.take_succ_eq_append_getElem hj, List.foldl_append]
      have := ih.link ok hid hmax (List.getElem_mem hj)
      refine ⟨this.len, this.dis, this.src, fun x d l hx hl hp => this.fwd x d l hx hl ?_, this.bwd, this.bnd, this.ord⟩
      rcases hp with hp | hp
      · exact .inl (.inl hp)
      · rcases List.mem_append.1 hp with hp | hp
        · exact .inl (.inr hp)
        · by_cases hxi : x = id
          · exact .inr ⟨hxi, by simpa using hp⟩
          · exact .inl (.inl hxi)
    · rw [List.take_of_length_le (by omega)]
      rw [List.take_of_length_le (by omega)] at ih
      exact ih
theorem CInv.next (ok : HalfOk v.n v.first v.links) {m : Nat → Option Int} {ds : List (Option Int)} {id : Nat} {k : Int} (h : CInv v s m ds (fun x _ => x ≠ id)) (hid : ds.getD id none = some k) (hmax : ∀ x d, ds.getD x none = some d → d ≤ k) :
    CInv v s ((seg v.first v.links id).foldl (relax1 ds k) m) ds (fun _ _ => True) := by
  have := h.links ok hid hmax (seg v.first v.links id).length
  rw [List.take_length] at this
  exact ⟨this.len, this.dis, this.src, fun x d l hx hl _ => this.fwd x d l hx hl (by
    by_cases hxi : x = id
    · subst hxi; exact .inr hl
    · exact .inl hxi), this.bwd, this.bnd, this.ord⟩
/-- Nothing is left. -/
theorem CInv.done {m : Nat → Option Int} {ds : List (Option Int)} (h : CInv v s m ds (fun _ _ => True)) (hm : ∀ x, m x = none) : IsD v.n v.first v.links s (fun r => ds.getD r none) := by
  refine ⟨?_, ?_, ?_, fun r e he => (h.bnd r e (.inl he)).2.2⟩
  · rcases h.src with h1 | ⟨h1, _⟩
    · exact h1
    · rw [hm] at h1; cases h1
  · intro x d l _ hx hl
    obtain ⟨e, he, hle⟩ := h.fwd x d l hx hl trivial
    rcases he with he | he
    · exact ⟨e, he, hle⟩
    · rw [hm] at he; cases he
  · intro r e hr he
    exact h.bwd r e hr (.inl he)
end
end Go.Proofs.Ytjbphoophgbmiaa
