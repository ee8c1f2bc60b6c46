/- A thing set, a thing taken out, the least thing: what becomes of the keys. No program here. -/
import Derived.Test.YtjbphoophgbmiaaHeapU
namespace Go.Proofs.Ytjbphoophgbmiaa

/-- A heap as it should be. -/
structure Good (s : HS) : Prop where
  wf : WF s
  ord : Ord s

theorem getD_some {l : List Nat} {i n : Nat} (h : l[i]? = some n) : l.getD i 0 = n := by simp [List.getD_eq_getElem?_getD, h]

theorem setP_spec {s : HS} (g : Good s) (id : Nat) (k : Int) (hid : id < s.2.length) :
    Good (setP s id k) ∧ (∀ d, keyOf (setP s id k) d = if d = id then some k else keyOf s d) ∧ (setP s id k).2.length = s.2.length ∧
      slotP s id < (roomP s id).1.length ∧ (roomP s id).2.length = s.2.length ∧ (setP s id k).1.length = (roomP s id).1.length ∧
      ∃ j, (upP (putP (roomP s id) (slotP s id) (k, id)) (slotP s id) (k, id)).2.getD id 0 = j + 1 ∧ (upP (putP (roomP s id) (slotP s id) (k, id)) (slotP s id) (k, id)).1[j]? = some (k, id) := by
  obtain ⟨pl, hpl⟩ : ∃ pl, s.2[id]? = some pl := ⟨_, List.getElem?_eq_getElem hid⟩
  have hgd := getD_some hpl
  cases pl with
  | zero =>
    have e1 : roomP s id = (s.1 ++ [(0, 0)], s.2) := by simp [roomP, hpl]
    have e2 : slotP s id = s.1.length := by simp [slotP, hpl]
    have fT1 : ∀ j, (putP (roomP s id) (slotP s id) (k, id)).1[j]? = if j < s.1.length then s.1[j]? else if j = s.1.length then some (k, id) else none := by
      intro j
      rw [put1, e1, e2]
      by_cases h1 : s.1.length = j
      · subst h1; simp
      · by_cases h2 : j < s.1.length
        · rw [if_neg h1, if_pos h2, List.getElem?_append_left h2]
        · rw [if_neg h1, if_neg h2, if_neg (fun e => h1 e.symm), List.getElem?_eq_none (by simp; omega)]
    have fT2 : ∀ d, (putP (roomP s id) (slotP s id) (k, id)).2[d]? = if id = d then some (s.1.length + 1) else s.2[d]? := by
      intro d
      rw [put2, e1, e2]
      by_cases h1 : id = d
      · rw [if_pos h1, if_pos h1, if_pos hid]
      · rw [if_neg h1, if_neg h1]
    have hw : WF (putP (roomP s id) (slotP s id) (k, id)) := by
      constructor
      · intro j z hz
        rw [fT1] at hz
        rw [fT2]
        by_cases h1 : j < s.1.length
        · rw [if_pos h1] at hz
          have := g.wf.a j z hz
          by_cases h2 : id = z.2
          · rw [← h2, hpl] at this; simp at this
          · rw [if_neg h2]; exact this
        · rw [if_neg h1] at hz
          by_cases h2 : j = s.1.length
          · rw [if_pos h2] at hz
            obtain rfl : (k, id) = z := by simpa using hz
            rw [if_pos rfl, h2]
          · rw [if_neg h2] at hz; cases hz
      · intro d p hd
        rw [fT2] at hd
        by_cases h1 : id = d
        · rw [if_pos h1] at hd
          obtain rfl : s.1.length = p := by simpa using hd
          exact ⟨(k, id), by rw [fT1, if_neg (by omega), if_pos rfl], h1⟩
        · rw [if_neg h1] at hd
          obtain ⟨z, hz, hzd⟩ := g.wf.b d p hd
          exact ⟨z, by rw [fT1, if_pos (List.getElem?_eq_some_iff.1 hz).1]; exact hz, hzd⟩
    have ha : Almost (putP (roomP s id) (slotP s id) (k, id)) (slotP s id) := by
      constructor
      · intro j hj h1 h2 a b h3 h4
        have hp := par_lt hj
        rw [e2] at h1
        rw [fT1] at h3 h4
        by_cases h5 : j < s.1.length
        · rw [if_pos (by omega)] at h3
          rw [if_pos h5] at h4
          exact g.ord j hj a b h3 h4
        · rw [if_neg h5, if_neg h1] at h4; cases h4
      · intro j hj h1 h2 a b h3 h4
        have hp := par_lt hj
        rw [e2] at h1
        rw [fT1, if_neg (by omega), if_neg (by omega)] at h4
        cases h4
    have hsl : slotP s id < (roomP s id).1.length := by rw [e1, e2]; simp
    have hr2 : (roomP s id).2.length = s.2.length := by rw [e1]
    obtain ⟨r1, r2, r3, r4, r5, r6⟩ := settleP_spec (roomP s id) (slotP s id) (k, id) hsl (by rw [hr2]; exact hid) hw ha
    refine ⟨⟨r1, r2⟩, fun d => (r3 d).trans ?_, r5.trans hr2, hsl, hr2, r4, r6⟩
    by_cases h1 : d = id
    · subst h1
      rw [if_pos rfl, keyOf_at hw (i := s.1.length) (x := (k, d)) (by rw [fT1, if_neg (by omega), if_pos rfl])]
    · rw [if_neg h1]
      unfold keyOf
      rw [fT2, if_neg (fun e => h1 e.symm)]
      split
      · rename_i p hp
        obtain ⟨z, hz, _⟩ := g.wf.b d p hp
        rw [fT1, if_pos (List.getElem?_eq_some_iff.1 hz).1]
      · rfl
  | succ p =>
    obtain ⟨y, hy, hyd⟩ := g.wf.b id p hpl
    have hpl' := (List.getElem?_eq_some_iff.1 hy).1
    have e1 : roomP s id = s := by simp [roomP, hpl]
    have e2 : slotP s id = p := by simp [slotP, hpl]
    have fT1 : ∀ j, (putP (roomP s id) (slotP s id) (k, id)).1[j]? = if p = j then some (k, id) else s.1[j]? := by
      intro j
      rw [put1, e1, e2, if_pos hpl']
    have fT2 : ∀ d : Nat, (putP (roomP s id) (slotP s id) (k, id)).2[d]? = s.2[d]? := by
      intro d
      rw [put2, e1, e2]
      by_cases h1 : id = d
      · subst h1; rw [if_pos rfl, if_pos hid, hpl]
      · rw [if_neg h1]
    have hw : WF (putP (roomP s id) (slotP s id) (k, id)) := by
      constructor
      · intro j z hz
        rw [fT1] at hz
        rw [fT2]
        by_cases h1 : p = j
        · rw [if_pos h1] at hz
          obtain rfl : (k, id) = z := by simpa using hz
          rw [← h1]; exact hpl
        · rw [if_neg h1] at hz
          exact g.wf.a j z hz
      · intro d q hd
        rw [fT2] at hd
        obtain ⟨z, hz, hzd⟩ := g.wf.b d q hd
        by_cases h1 : p = q
        · subst h1
          rw [hy] at hz
          obtain rfl : y = z := by simpa using hz
          exact ⟨(k, id), by rw [fT1, if_pos rfl], by rw [← hzd, hyd]⟩
        · exact ⟨z, by rw [fT1, if_neg h1]; exact hz, hzd⟩
    have ha : Almost (putP (roomP s id) (slotP s id) (k, id)) (slotP s id) := by
      constructor
      · intro j hj h1 h2 a b h3 h4
        rw [e2] at h1 h2
        rw [fT1, if_neg (fun e => h2 e.symm)] at h3
        rw [fT1, if_neg (fun e => h1 e.symm)] at h4
        exact g.ord j hj a b h3 h4
      · intro j hj h1 h2 a b h3 h4
        rw [e2] at h1 h2
        have hp := par_lt h2
        have hp2 := par_lt hj
        rw [fT1, e2, if_neg (by omega)] at h3
        rw [fT1, if_neg (by omega)] at h4
        have o1 := g.ord p h2 a y h3 hy
        have o2 := g.ord j hj y b (by rw [h1]; exact hy) h4
        exact le2_trans o1 o2
    have hsl : slotP s id < (roomP s id).1.length := by rw [e1, e2]; exact hpl'
    have hr2 : (roomP s id).2.length = s.2.length := by rw [e1]
    obtain ⟨r1, r2, r3, r4, r5, r6⟩ := settleP_spec (roomP s id) (slotP s id) (k, id) hsl (by rw [hr2]; exact hid) hw ha
    refine ⟨⟨r1, r2⟩, fun d => (r3 d).trans ?_, r5.trans hr2, hsl, hr2, r4, r6⟩
    by_cases h1 : d = id
    · subst h1
      rw [if_pos rfl, keyOf_at hw (i := p) (x := (k, d)) (by rw [fT1, if_pos rfl])]
    · rw [if_neg h1]
      unfold keyOf
      rw [fT2]
      split
      · rename_i q hq
        obtain ⟨z, hz, hzd⟩ := g.wf.b d q hq
        by_cases h2 : p = q
        · subst h2
          rw [hy] at hz
          obtain rfl : y = z := by simpa using hz
          exact absurd (hzd.symm.trans hyd) h1
        · rw [fT1, if_neg h2]
      · rfl

/-! ### a thing taken out -/
def lessP (s : HS) (id : Nat) : HS := (s.1.take (s.1.length - 1), s.2.set id 0)
def removeP (s : HS) (id : Nat) : HS :=
  if s.2.getD id 0 - 1 < s.1.length - 1 then settleP (lessP s id) (s.2.getD id 0 - 1) (itemAt s (s.1.length - 1)) else lessP s id

theorem removeP_spec {s : HS} (g : Good s) (id i : Nat) (hpl : s.2[id]? = some (i + 1)) :
    Good (removeP s id) ∧ (∀ d, keyOf (removeP s id) d = if d = id then none else keyOf s d) ∧ (removeP s id).2.length = s.2.length ∧ (removeP s id).1.length = s.1.length - 1 ∧ i < s.1.length ∧
      (i < s.1.length - 1 → ∃ x, s.1[s.1.length - 1]? = some x ∧ x.2 < s.2.length ∧ ∃ j, (upP (putP (lessP s id) i x) i x).2.getD x.2 0 = j + 1 ∧ (upP (putP (lessP s id) i x) i x).1[j]? = some x) := by
  obtain ⟨y, hy, hyd⟩ := g.wf.b id i hpl
  have hil := (List.getElem?_eq_some_iff.1 hy).1
  have hid := (List.getElem?_eq_some_iff.1 hpl).1
  have hgd := getD_some hpl
  have l1 : ∀ j, (lessP s id).1[j]? = if j < s.1.length - 1 then s.1[j]? else none := by
    intro j
    simp only [lessP, List.getElem?_take]
  have l2 : ∀ d, (lessP s id).2[d]? = if id = d then some 0 else s.2[d]? := by
    intro d
    simp only [lessP, List.getElem?_set]
    by_cases h1 : id = d
    · rw [if_pos h1, if_pos h1, if_pos hid]
    · rw [if_neg h1, if_neg h1]
  have len1 : (lessP s id).1.length = s.1.length - 1 := by simp [lessP]
  have len2 : (lessP s id).2.length = s.2.length := by simp [lessP]
  by_cases hlast : i < s.1.length - 1
  · obtain ⟨x, hx⟩ : ∃ x, s.1[s.1.length - 1]? = some x := ⟨_, List.getElem?_eq_getElem (by omega)⟩
    have hxp := g.wf.a _ x hx
    have hxl := (List.getElem?_eq_some_iff.1 hxp).1
    have hxid : x.2 ≠ id := by
      intro e
      rw [e, hpl] at hxp
      simp at hxp
      omega
    have e0 : removeP s id = settleP (lessP s id) i x := by
      simp only [removeP, hgd, Nat.add_sub_cancel, if_pos hlast, itemAt_eq hx]
    have fT1 : ∀ j, (putP (lessP s id) i x).1[j]? = if i = j then some x else if j < s.1.length - 1 then s.1[j]? else none := by
      intro j
      rw [put1, len1, if_pos hlast, l1]
    have fT2 : ∀ d, (putP (lessP s id) i x).2[d]? = if x.2 = d then some (i + 1) else if id = d then some 0 else s.2[d]? := by
      intro d
      rw [put2, len2, if_pos hxl, l2]
    have hw : WF (putP (lessP s id) i x) := by
      constructor
      · intro j z hz
        rw [fT1] at hz
        rw [fT2]
        by_cases h1 : i = j
        · rw [if_pos h1] at hz
          obtain rfl : x = z := by simpa using hz
          rw [if_pos rfl, h1]
        · rw [if_neg h1] at hz
          by_cases h2 : j < s.1.length - 1
          · rw [if_pos h2] at hz
            have h3 := g.wf.a j z hz
            by_cases h4 : x.2 = z.2
            · rw [← h4, hxp] at h3; simp at h3; omega
            · rw [if_neg h4]
              by_cases h5 : id = z.2
              · rw [← h5, hpl] at h3; simp at h3; omega
              · rw [if_neg h5]; exact h3
          · rw [if_neg h2] at hz; cases hz
      · intro d q hd
        rw [fT2] at hd
        by_cases h1 : x.2 = d
        · rw [if_pos h1] at hd
          obtain rfl : i = q := by simpa using hd
          exact ⟨x, by rw [fT1, if_pos rfl], h1⟩
        · rw [if_neg h1] at hd
          by_cases h2 : id = d
          · rw [if_pos h2] at hd; simp at hd
          · rw [if_neg h2] at hd
            obtain ⟨z, hz, hzd⟩ := g.wf.b d q hd
            have hql := (List.getElem?_eq_some_iff.1 hz).1
            by_cases h3 : i = q
            · subst h3
              rw [hy] at hz
              obtain rfl : y = z := by simpa using hz
              exact absurd (hyd.symm.trans hzd) h2
            · by_cases h4 : q = s.1.length - 1
              · subst h4
                rw [hx] at hz
                obtain rfl : x = z := by simpa using hz
                exact absurd hzd h1
              · exact ⟨z, by rw [fT1, if_neg h3, if_pos (by omega)]; exact hz, hzd⟩
    have ha : Almost (putP (lessP s id) i x) i := by
      constructor
      · intro j hj h1 h2 a b h3 h4
        have hp := par_lt hj
        rw [fT1, if_neg (fun e => h2 e.symm)] at h3
        rw [fT1, if_neg (fun e => h1 e.symm)] at h4
        by_cases h5 : j < s.1.length - 1
        · rw [if_pos (by omega)] at h3
          rw [if_pos h5] at h4
          exact g.ord j hj a b h3 h4
        · rw [if_neg h5] at h4; cases h4
      · intro j hj h1 h2 a b h3 h4
        have hp := par_lt h2
        have hp2 := par_lt hj
        rw [fT1, if_neg (by omega)] at h3
        rw [fT1, if_neg (by omega)] at h4
        by_cases h5 : j < s.1.length - 1
        · rw [if_pos (by omega)] at h3
          rw [if_pos h5] at h4
          exact le2_trans (g.ord i h2 a y h3 hy) (g.ord j hj y b (by rw [h1]; exact hy) h4)
        · rw [if_neg h5] at h4; cases h4
    obtain ⟨r1, r2, r3, r4, r5, r6⟩ := settleP_spec (lessP s id) i x (by rw [len1]; exact hlast) (by rw [len2]; exact hxl) hw ha
    rw [e0]
    refine ⟨⟨r1, r2⟩, fun d => (r3 d).trans ?_, r5.trans len2, r4.trans len1, hil, fun _ => ⟨x, hx, hxl, r6⟩⟩
    by_cases h1 : d = id
    · subst h1
      rw [if_pos rfl]
      unfold keyOf
      rw [fT2, if_neg hxid, if_pos rfl]
    · rw [if_neg h1]
      by_cases h2 : x.2 = d
      · subst h2
        rw [keyOf_at hw (i := i) (by rw [fT1, if_pos rfl]), keyOf_at g.wf hx]
      · unfold keyOf
        rw [fT2, if_neg h2, if_neg (fun e => h1 e.symm)]
        split
        · rename_i q hq
          obtain ⟨z, hz, hzd⟩ := g.wf.b d q hq
          have hql := (List.getElem?_eq_some_iff.1 hz).1
          have h3 : i ≠ q := by
            rintro rfl
            rw [hy] at hz
            obtain rfl : y = z := by simpa using hz
            exact h1 (hzd.symm.trans hyd)
          have h4 : q ≠ s.1.length - 1 := by
            rintro rfl
            rw [hx] at hz
            obtain rfl : x = z := by simpa using hz
            exact h2 hzd
          rw [fT1, if_neg h3, if_pos (by omega)]
        · rfl
  · have e0 : removeP s id = lessP s id := by simp only [removeP, hgd, Nat.add_sub_cancel, if_neg hlast]
    rw [e0]
    refine ⟨⟨⟨?_, ?_⟩, ?_⟩, ?_, len2, len1, hil, fun h => absurd h hlast⟩
    · intro j z hz
      rw [l1] at hz
      rw [l2]
      by_cases h2 : j < s.1.length - 1
      · rw [if_pos h2] at hz
        have h3 := g.wf.a j z hz
        by_cases h5 : id = z.2
        · rw [← h5, hpl] at h3; simp at h3; omega
        · rw [if_neg h5]; exact h3
      · rw [if_neg h2] at hz; cases hz
    · intro d q hd
      rw [l2] at hd
      by_cases h2 : id = d
      · rw [if_pos h2] at hd; simp at hd
      · rw [if_neg h2] at hd
        obtain ⟨z, hz, hzd⟩ := g.wf.b d q hd
        have hql := (List.getElem?_eq_some_iff.1 hz).1
        by_cases h3 : i = q
        · subst h3
          rw [hy] at hz
          obtain rfl : y = z := by simpa using hz
          exact absurd (hyd.symm.trans hzd) h2
        · exact ⟨z, by rw [l1, if_pos (by omega)]; exact hz, hzd⟩
    · intro j hj a b h3 h4
      have hp := par_lt hj
      rw [l1] at h3 h4
      by_cases h5 : j < s.1.length - 1
      · rw [if_pos (by omega)] at h3
        rw [if_pos h5] at h4
        exact g.ord j hj a b h3 h4
      · rw [if_neg h5] at h4; cases h4
    · intro d
      unfold keyOf
      rw [l2]
      by_cases h1 : d = id
      · subst h1; rw [if_pos rfl, if_pos rfl]
      · rw [if_neg (fun e => h1 e.symm), if_neg h1]
        split
        · rename_i q hq
          obtain ⟨z, hz, hzd⟩ := g.wf.b d q hq
          have hql := (List.getElem?_eq_some_iff.1 hz).1
          have h3 : q ≠ i := by
            rintro rfl
            rw [hy] at hz
            obtain rfl : y = z := by simpa using hz
            exact h1 (hzd.symm.trans hyd)
          rw [l1, if_pos (by omega)]
        · rfl

/-! ### the least thing -/
theorem top_least {s : HS} (o : Ord s) {x : Item} (hx : s.1[0]? = some x) : ∀ (n j : Nat) (y : Item), j = n → s.1[j]? = some y → le2 x y := by
  intro n
  induction n using Nat.strongRecOn with
  | _ n ih =>
    intro j y hj hy
    subst hj
    by_cases h0 : 0 < j
    · have hp := par_lt h0
      have hjl := (List.getElem?_eq_some_iff.1 hy).1
      obtain ⟨z, hz⟩ : ∃ z, s.1[par j]? = some z := ⟨_, List.getElem?_eq_getElem (by omega)⟩
      exact le2_trans (ih (par j) hp (par j) z rfl hz) (o j h0 z y hz hy)
    · obtain rfl : j = 0 := by omega
      rw [hx] at hy
      obtain rfl : x = y := by simpa using hy
      exact le2_refl _

/-- A heap of n things that holds those that m gives a key. -/
structure Holds (s : HS) (n : Nat) (m : Nat → Option Int) : Prop where
  good : Good s
  len : s.2.length = n
  key : ∀ d, keyOf s d = m d
/-- The least of what m gives a key, if there is one. -/
theorem Holds.top {s : HS} {n : Nat} {m : Nat → Option Int} (h : Holds s n m) {k : Int} {id : Nat} (hx : s.1[0]? = some (k, id)) : m id = some k ∧ id < n ∧ ∀ d v, m d = some v → le2 (k, id) (v, d) := by
  refine ⟨?_, ?_, ?_⟩
  · rw [← h.key, keyOf_at h.good.wf hx]
  · rw [← h.len]
    exact (List.getElem?_eq_some_iff.1 (h.good.wf.a 0 _ hx)).1
  · intro d v hd
    rw [← h.key] at hd
    obtain ⟨i, hi, _⟩ := keyOf_some h.good.wf hd
    exact top_least h.good.ord hx i i _ rfl hi
theorem Holds.empty {s : HS} {n : Nat} {m : Nat → Option Int} (h : Holds s n m) (h0 : s.1 = []) : ∀ d, m d = none := by
  intro d
  rw [← h.key]
  cases hk : keyOf s d with
  | none => rfl
  | some k =>
    obtain ⟨i, hi, _⟩ := keyOf_some h.good.wf hk
    rw [h0] at hi
    simp at hi
theorem Holds.new (n : Nat) : Holds ([], List.replicate n 0) n (fun _ => none) := by
  refine ⟨⟨⟨fun i x h => (by simp at h), fun id p h => ?_⟩, fun j _ a b h => (by simp at h)⟩, by simp, fun d => ?_⟩
  · have := List.mem_of_getElem? h
    simp at this
  · unfold keyOf
    split
    · rename_i p hp
      have := List.mem_of_getElem? hp
      simp at this
    · rfl
end Go.Proofs.Ytjbphoophgbmiaa
