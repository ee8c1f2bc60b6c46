/- The plain law of layer 16: turned about, a hierarchy is true just where it was. Closed questions. -/
import Derived.Test.YtjbphoophgbmiaaDoorSoundA
namespace Go.Proofs.YtjbphoophgbmiaaDoor
open Go.ChangeShapes Go.WideShapes Go.ChangeAt Go.RowKit Go.Joins Go.Deep

theorem Wk.cons {W : Nat → List (Nat × Nat)} {r : Int} {u v : Nat} {d : Int} (s : Nat × Nat) (hs : s ∈ W u) (hr : r < s.1) (h : Wk W r s.1 v d) : Wk W r u v (d + s.2) := by
  induction h with
  | nil =>
    have := Wk.snoc s (.nil : Wk W r u u 0) hs hr
    simpa using this
  | snoc t h ht htr ih =>
    have := Wk.snoc t ih ht htr
    rw [show ∀ a b c : Int, a + b + c = a + c + b from fun a b c => by omega]
    exact this
theorem Wk.gt {W : Nat → List (Nat × Nat)} {r : Int} {u v : Nat} {d : Int} (h : Wk W r u v d) (hu : r < u) : r < v := by
  cases h with
  | nil => exact hu
  | snoc s h hs hr => exact hr
theorem Wk.rev {W W' : Nat → List (Nat × Nat)} (hW : ∀ a s, s ∈ W a → (a, s.2) ∈ W' s.1) {r : Int} {u v : Nat} {d : Int} (h : Wk W r u v d) (hu : r < u) : Wk W' r v u d := by
  induction h with
  | nil => exact .nil
  | @snoc a d s h hs hr ih => exact Wk.cons (a, s.2) (hW a s hs) (h.gt hu) ih
theorem web_turn (h : HierD) (a : Nat) (s : Nat × Nat) : s ∈ webD (turnD h) a ↔ (a, s.2) ∈ webD h s.1 := by
  unfold webD
  rw [webTo_mem, webTo_mem]
  simp only [turnD]
  rw [seg_map, seg_map]
  simp only [List.mem_map]
  constructor
  · rintro (⟨h1, l, ⟨m, hm, rfl⟩, rfl⟩ | ⟨h1, l, ⟨m, hm, rfl⟩, rfl, h2⟩)
    · exact .inr ⟨h1, m, hm, rfl, rfl⟩
    · exact .inl ⟨h1, m, hm, by rw [h2]; rfl⟩
  · rintro (⟨h1, m, hm, e⟩ | ⟨h1, m, hm, e1, e2⟩)
    · simp only [Prod.mk.injEq] at e
      exact .inr ⟨h1, _, ⟨m, hm, rfl⟩, e.1, e.2⟩
    · exact .inl ⟨h1, _, ⟨m, hm, rfl⟩, Prod.ext e1 e2⟩
theorem walk_turn {h : HierD} {r : Int} {u v : Nat} {d : Int} (hw : Wk (webD h) r u v d) (hu : r < u) : Wk (webD (turnD h)) r v u d :=
  hw.rev (fun a s hs => (web_turn h s.1 (a, s.2)).2 hs) hu
theorem walk_back {h : HierD} {r : Int} {u v : Nat} {d : Int} (hw : Wk (webD (turnD h)) r u v d) (hu : r < u) : Wk (webD h) r v u d :=
  hw.rev (fun a s hs => (web_turn h a s).1 hs) hu
theorem holds_turn {h : HierD} (hc : checkErr h = .nil) {r : Nat} (hr : r < h.node.length) : HoldsD (turnD h) r ↔ HoldsD h r := by
  have ok := half_up hc
  have okd := half_dn hc
  constructor
  · intro hh a ha b hb hne
    have := hh (turnLink h.up.length h.dn.length b) (by simp only [turnD]; rw [seg_map]; exact List.mem_map_of_mem hb) (turnLink h.up.length h.dn.length a) (by simp only [turnD]; rw [seg_map]; exact List.mem_map_of_mem ha) (fun e => hne e.symm)
    obtain ⟨d, h1, h2⟩ := this
    have hgt := (ok.up r hr b hb).1
    have h2' : d ≤ (b.wt : Int) + (a.wt : Int) := h2
    exact ⟨d, walk_back (u := b.to) h1 (by omega), by omega⟩
  · intro hh a ha b hb hne
    simp only [turnD] at ha hb
    rw [seg_map] at ha hb
    obtain ⟨a0, ha0, rfl⟩ := List.mem_map.1 ha
    obtain ⟨b0, hb0, rfl⟩ := List.mem_map.1 hb
    obtain ⟨d, h1, h2⟩ := hh b0 hb0 a0 ha0 (fun e => hne e.symm)
    have hgt := (okd.up r hr b0 hb0).1
    refine ⟨d, walk_turn (u := b0.to) h1 (by omega), ?_⟩
    show d ≤ (a0.wt : Int) + (b0.wt : Int)
    omega
theorem SCheck.nil_iff {h : HierD} {x : EV} (s : SCheck h x) : x = .nil ↔ (checkErr h = .nil ∧ ∀ r, r < h.node.length → HoldsD h r) := by
  rcases s with ⟨h1, rfl⟩ | ⟨h1, h2, rfl⟩ | ⟨h1, r, h2, h3, h4, rfl⟩
  · exact ⟨fun e => absurd e h1, fun e => e.1⟩
  · exact ⟨fun _ => ⟨h1, h2⟩, fun _ => rfl⟩
  · exact ⟨fun e => (by cases e), fun e => absurd (e.2 r h2) h3⟩
theorem SCheck.turned {h : HierD} {x y : EV} (hc : checkErr h = .nil) (hct : checkErr (turnD h) = .nil) (a : SCheck h x) (b : SCheck (turnD h) y) : x = .nil ↔ y = .nil := by
  rw [a.nil_iff, b.nil_iff]
  constructor
  · rintro ⟨-, hh⟩
    exact ⟨hct, fun r hr => (holds_turn hc hr).2 (hh r hr)⟩
  · rintro ⟨-, hh⟩
    exact ⟨hc, fun r hr => (holds_turn hc hr).1 (hh r hr)⟩
theorem IsS.turned {h : HierD} {r : Int} {s t : Nat} {D E : Nat → Option Int} (a : IsS (webD h) r s D) (b : IsS (webD (turnD h)) r t E) (hs : r < s) (ht : r < t) : D t = E s := by
  cases hD : D t with
  | none =>
    cases hE : E s with
    | none => rfl
    | some e =>
      obtain ⟨d, h1, -⟩ := a.least t e (walk_back (b.walk s e hE) ht)
      rw [hD] at h1; cases h1
  | some d =>
    obtain ⟨e, h1, h2⟩ := b.least s d (walk_turn (a.walk t d hD) hs)
    obtain ⟨d', h3, h4⟩ := a.least t e (walk_back (b.walk s e h1) ht)
    rw [hD] at h3
    simp only [Option.some.injEq] at h3
    rw [h1]
    congr 1
    omega
theorem SAbove.turned {h : HierD} {r s t d d' : Int} {x x' : EV} (hc : checkErr h = .nil) (hct : checkErr (turnD h) = .nil) (a : SAbove h r s t d x) (b : SAbove (turnD h) r t s d' x') : d = d' ∧ (x = .nil ↔ x' = .nil) := by
  have hl : (turnD h).node.length = h.node.length := rfl
  cases a with
  | form e => exact absurd hc e
  | arg e a1 =>
    cases b with
    | form e => exact absurd hct e
    | arg e a2 => exact ⟨rfl, Iff.rfl⟩
    | node e a2 b2 => exact absurd a1 (by rw [hl] at a2; exact a2)
    | walk D d e a2 b2 i f => exact absurd a1 (by rw [hl] at a2; exact a2)
    | none D e a2 b2 i f => exact absurd a1 (by rw [hl] at a2; exact a2)
  | node e a1 b1 =>
    cases b with
    | form e => exact absurd hct e
    | arg e a2 => exact absurd (by rw [hl] at a2; exact a2) a1
    | node e a2 b2 => exact ⟨rfl, Iff.rfl⟩
    | walk D d e a2 b2 i f => rw [hl] at b2; omega
    | none D e a2 b2 i f => rw [hl] at b2; omega
  | walk D d e a1 b1 i f =>
    cases b with
    | form e => exact absurd hct e
    | arg e a2 => exact absurd (by rw [hl] at a2; exact a2) a1
    | node e a2 b2 => rw [hl] at b2; omega
    | walk E d2 e a2 b2 i2 f2 =>
      have := i.turned i2 (by omega) (by omega)
      rw [f, f2] at this
      simp only [Option.some.injEq] at this
      exact ⟨this, Iff.rfl⟩
    | none E e a2 b2 i2 f2 =>
      have := i.turned i2 (by omega) (by omega)
      rw [f, f2] at this
      cases this
  | none D e a1 b1 i f =>
    cases b with
    | form e => exact absurd hct e
    | arg e a2 => exact absurd (by rw [hl] at a2; exact a2) a1
    | node e a2 b2 => rw [hl] at b2; omega
    | walk E d2 e a2 b2 i2 f2 =>
      have := i.turned i2 (by omega) (by omega)
      rw [f, f2] at this
      cases this
    | none E e a2 b2 i2 f2 => exact ⟨rfl, Iff.rfl⟩

/-! ### closed questions -/
def relS (r : Int) (a : Nat) (s : Nat × Nat) (D : Nat → Option Int) : Nat → Option Int :=
  if r < s.1 then (match D a with | some x => (match D s.1 with | some y => if y ≤ x + s.2 then D else updD D s.1 (x + s.2) | none => updD D s.1 (x + s.2)) | none => D) else D
def relAll (W : Nat → List (Nat × Nat)) (r : Int) (n : Nat) (D : Nat → Option Int) : Nat → Option Int := (List.range n).foldl (fun D a => (W a).foldl (fun D s => relS r a s D) D) D
def bfD (W : Nat → List (Nat × Nat)) (r : Int) (n u : Nat) : Nat → Nat → Option Int
  | 0 => startD u
  | k + 1 => relAll W r n (bfD W r n u k)
def chk (W : Nat → List (Nat × Nat)) (r : Int) (n : Nat) (D : Nat → Option Int) : Bool :=
  (List.range n).all fun a => (W a).all fun s => decide (s.1 < n) && (!(decide (r < s.1)) || (match D a with | some x => (match D s.1 with | some y => decide (y ≤ x + s.2) | none => false) | none => true))
structure BfOk (W : Nat → List (Nat × Nat)) (r : Int) (u : Nat) (D : Nat → Option Int) : Prop where
  walk : ∀ v d, D v = some d → Wk W r u v d
  src : ∃ y, D u = some y ∧ y ≤ 0
theorem BfOk.rel {W : Nat → List (Nat × Nat)} {r : Int} {u a : Nat} {s : Nat × Nat} {D : Nat → Option Int} (h : BfOk W r u D) (hs : s ∈ W a) : BfOk W r u (relS r a s D) := by
  have upd : ∀ x, D a = some x → r < s.1 → (∀ y, D s.1 = some y → ¬ y ≤ x + s.2) → BfOk W r u (updD D s.1 (x + s.2)) := by
    intro x hx hr hy
    refine ⟨fun v d hv => ?_, ?_⟩
    · unfold updD at hv
      split at hv
      · rename_i e
        subst e
        simp only [Option.some.injEq] at hv
        subst hv
        exact (h.walk a x hx).snoc s hs hr
      · exact h.walk v d hv
    · obtain ⟨y, h1, h2⟩ := h.src
      by_cases e : u = s.1
      · refine ⟨x + s.2, by unfold updD; rw [if_pos e], ?_⟩
        have := hy y (by rw [← e]; exact h1)
        omega
      · exact ⟨y, by unfold updD; rw [if_neg e]; exact h1, h2⟩
  unfold relS
  split
  · rename_i hr
    cases hx : D a with
    | none => exact h
    | some x =>
      cases hy : D s.1 with
      | none => exact upd x hx hr (fun y e => by rw [hy] at e; cases e)
      | some y =>
        simp only
        split
        · exact h
        · rename_i hn
          exact upd x hx hr (fun y' e => by rw [hy] at e; simp only [Option.some.injEq] at e; subst e; exact hn)
  · exact h
theorem BfOk.fold {W : Nat → List (Nat × Nat)} {r : Int} {u a : Nat} : ∀ (l : List (Nat × Nat)) (D : Nat → Option Int), (∀ s ∈ l, s ∈ W a) → BfOk W r u D → BfOk W r u (l.foldl (fun D s => relS r a s D) D) := by
  intro l
  induction l with
  | nil => intro D _ h; exact h
  | cons s l ih => intro D hl h; exact ih _ (fun t ht => hl t (List.mem_cons_of_mem _ ht)) (h.rel (hl s (List.mem_cons_self ..)))
theorem BfOk.all {W : Nat → List (Nat × Nat)} {r : Int} {u : Nat} : ∀ (l : List Nat) (D : Nat → Option Int), BfOk W r u D → BfOk W r u (l.foldl (fun D a => (W a).foldl (fun D s => relS r a s D) D) D) := by
  intro l
  induction l with
  | nil => intro D h; exact h
  | cons a l ih => intro D h; exact ih _ (BfOk.fold _ _ (fun s hs => hs) h)
theorem bf_ok (W : Nat → List (Nat × Nat)) (r : Int) (n u : Nat) : ∀ k, BfOk W r u (bfD W r n u k) := by
  intro k
  induction k with
  | zero =>
    refine ⟨fun v d h => ?_, 0, by simp [bfD, startD], by omega⟩
    simp only [bfD, startD] at h
    split at h
    · rename_i e; subst e; simp only [Option.some.injEq] at h; subst h; exact .nil
    · cases h
  | succ k ih => exact BfOk.all _ _ ih
theorem bf_isS {W : Nat → List (Nat × Nat)} {r : Int} {n u k : Nat} (hu : u < n) (hc : chk W r n (bfD W r n u k) = true) : IsS W r u (bfD W r n u k) := by
  have ok := bf_ok W r n u k
  refine ⟨ok.walk, fun v d' hw => ?_⟩
  have key : v < n ∧ ∃ y, bfD W r n u k v = some y ∧ y ≤ d' := by
    induction hw with
    | nil => exact ⟨hu, ok.src⟩
    | snoc s hw hs hr ih =>
      obtain ⟨ha, x, hx, hxd⟩ := ih
      unfold chk at hc
      rw [List.all_eq_true] at hc
      have h1 := hc _ (List.mem_range.2 ha)
      rw [List.all_eq_true] at h1
      have h2 := h1 s hs
      simp only [Bool.and_eq_true, decide_eq_true_eq, Bool.or_eq_true, Bool.not_eq_true', decide_eq_false_iff_not] at h2
      refine ⟨h2.1, ?_⟩
      rcases h2.2 with h3 | h3
      · exact absurd hr h3
      · rw [hx] at h3
        cases hy : bfD W r n u k s.1 with
        | none => rw [hy] at h3; simp at h3
        | some y =>
          rw [hy] at h3
          simp only [decide_eq_true_eq] at h3
          exact ⟨y, rfl, by omega⟩
  exact key.2
/-- What is answered, reckoned. -/
theorem SAbove.is {h : HierD} {r s t d : Int} {x : EV} (k : Nat) (hc : checkErr h = .nil) (ha : ¬ (r < -1 ∨ (h.node.length : Int) ≤ r)) (hb : ¬ ((s ≤ r ∨ (h.node.length : Int) ≤ s) ∨ t ≤ r ∨ (h.node.length : Int) ≤ t))
    (hk : chk (webD h) r h.node.length (bfD (webD h) r h.node.length s.toNat k) = true) (a : SAbove h r s t d x) :
    (match bfD (webD h) r h.node.length s.toNat k t.toNat with | Option.some e => (e, EV.nil) | Option.none => (0, EV.code 16)) = (d, x) := by
  have hi := bf_isS (by omega) hk
  cases a with
  | form e => exact absurd hc e
  | arg e a1 => exact absurd a1 ha
  | node e a1 b1 => exact absurd b1 hb
  | walk D d e a1 b1 i f => rw [hi.unique i, f]
  | none D e a1 b1 i f => rw [hi.unique i, f]
def halfD : HierD := ⟨[1, 0, 2], [0, 1, 1, 1], [⟨2, 1, 4294967295, 4294967295⟩], [0, 1, 1, 1], [⟨1, 4, 4294967295, 4294967295⟩]⟩
theorem half_form : checkErr halfD = .nil := by decide +kernel
theorem above_three {d : Int} {x : EV} (a : SAbove threeD 0 1 2 d x) : d = 5 ∧ x = .nil := by
  have h := a.is 3 three_form (by decide +kernel) (by decide +kernel) (by decide +kernel)
  rw [show (match bfD (webD threeD) 0 threeD.node.length (1 : Int).toNat 3 (2 : Int).toNat with | some e => (e, EV.nil) | none => (0, .code 16)) = ((5 : Int), EV.nil) from by decide +kernel] at h
  simp only [Prod.mk.injEq] at h
  exact ⟨h.1.symm, h.2.symm⟩
theorem holds_empty {h : HierD} {r : Nat} (hd : seg h.dnF h.dn r = []) : HoldsD h r := fun a ha => by rw [hd] at ha; simp at ha
theorem three_true {x : EV} (a : SCheck threeD x) : x = .nil := by
  rw [a.nil_iff]
  refine ⟨three_form, fun r hr => ?_⟩
  have hr' : r < 3 := hr
  rcases r with - | r
  · intro a ha b hb _
    have e1 : seg threeD.dnF threeD.dn 0 = [⟨1, 4, 4294967295, 4294967295⟩] := by decide +kernel
    have e2 : seg threeD.upF threeD.up 0 = [⟨2, 1, 4294967295, 4294967295⟩] := by decide +kernel
    rw [e1] at ha
    rw [e2] at hb
    simp only [List.mem_singleton] at ha hb
    subst ha hb
    refine ⟨5, ?_, by simp⟩
    have hm : (2, 5) ∈ webD threeD 1 := by decide +kernel
    have := Wk.snoc (W := webD threeD) (r := ((0 : Nat) : Int)) (u := 1) (2, 5) .nil hm (by simp)
    simpa using this
  · refine holds_empty ?_
    rcases r with - | r
    · decide +kernel
    · obtain rfl : r = 0 := by omega
      decide +kernel
theorem half_false {x : EV} (a : SCheck halfD x) : x = .at 3 0 15 := by
  have hno : ¬ HoldsD halfD 0 := by
    intro hh
    have e1 : (⟨1, 4, 4294967295, 4294967295⟩ : LinkD) ∈ seg halfD.dnF halfD.dn 0 := by rw [show seg halfD.dnF halfD.dn 0 = [⟨1, 4, 4294967295, 4294967295⟩] from by decide +kernel]; simp
    have e2 : (⟨2, 1, 4294967295, 4294967295⟩ : LinkD) ∈ seg halfD.upF halfD.up 0 := by rw [show seg halfD.upF halfD.up 0 = [⟨2, 1, 4294967295, 4294967295⟩] from by decide +kernel]; simp
    obtain ⟨d, h1, -⟩ := hh _ e1 _ e2 (by simp)
    have hi := bf_isS (W := webD halfD) (r := ((0 : Nat) : Int)) (n := 3) (u := 1) (k := 3) (by omega) (by decide +kernel)
    obtain ⟨y, h2, -⟩ := hi.least 2 d h1
    rw [show bfD (webD halfD) ((0 : Nat) : Int) 3 1 3 2 = none from by decide +kernel] at h2
    cases h2
  rcases a with ⟨h1, -⟩ | ⟨h1, h2, -⟩ | ⟨h1, r, h2, h3, h4, rfl⟩
  · exact absurd half_form h1
  · exact absurd (h2 0 (by decide)) hno
  · rcases Nat.eq_zero_or_pos r with e | e
    · subst e; rfl
    · exact absurd (h4 0 e) hno
end Go.Proofs.YtjbphoophgbmiaaDoor
