/- The plain law of layer 16: turned about, a hierarchy is true just where it was. Closed questions. -/
import Derived.Test.YtblkkjfpggcgfaaGreatDoorH22
import Derived.Test.YtblkkjfpggcgfaaGreatDoorChecked
import Derived.Shelf.SlSortCmp.NoneTotal
import Derived.Test.YtblkkjfpggcgfaaGreatDoorH17
import Derived.Test.YtblkkjfpggcgfaaGreatDoorH14
import Derived.Test.YtblkkjfpggcgfaaGreatDoorH18
namespace Go.Proofs.YtblkkjfpggcgfaaGreatDoor
open Go.ChangeShapes Go.WideShapes Go.ChangeAt Go.RowKit Go.Joins Go.Deep
theorem Wk.cons {W : Nat → List (Nat × Nat)} {r : Int} {u v : Nat} {d : Int} (s : Nat × Nat) (hs : s ∈ W u) (hr : r < s.1) (h : Wk W r s.1 v d) : Wk W r u v (d + s.2) := by
  induction h with
  | nil =>
    have := Wk.snoc s (.nil : Wk W r u u 0) hs hr
    simpa using this
  | snoc t h ht htr ih =>
    have := Wk.snoc t ih ht htr
    rw [show ∀ a b c : Int, a + b + c = a + c + b from fun a b c => by omega]
    exact this
theorem Wk.gt {W : Nat → List (Nat × Nat)} {r : Int} {u v : Nat} {d : Int} (h : Wk W r u v d) (hu : r < u) : r < v := by
  cases h with
  | nil => exact hu
  | snoc s h hs hr => exact hr
theorem Wk.rev {W W' : Nat → List (Nat × Nat)} (hW : ∀ a s, s ∈ W a → (a, s.2) ∈ W' s.1) {r : Int} {u v : Nat} {d : Int} (h : Wk W r u v d) (hu : r < u) : Wk W' r v u d := by
  induction h with
  | nil => exact .nil
  | @snoc a d s h hs hr ih => exact Wk.cons (a, s.2) (hW a s hs) (h.gt hu) ih
theorem web_turn (h : HierD) (a : Nat) (s : Nat × Nat) : s ∈ webD (turnD h) a ↔ (a, s.2) ∈ webD h s.1 := by
  unfold webD
  rw [webTo_mem, webTo_mem]
  simp only [turnD]
  rw [seg_map, seg_map]
  simp only [List.mem_map]
  constructor
  · rintro (⟨h1, l, ⟨m, hm, rfl⟩, rfl⟩ | ⟨h1, l, ⟨m, hm, rfl⟩, rfl, h2⟩)
    · exact .inr ⟨h1, m, hm, rfl, rfl⟩
    · exact .inl ⟨h1, m, hm, by rw [h2]; rfl⟩
  · rintro (⟨h1, m, hm, e⟩ | ⟨h1, m, hm, e1, e2⟩)
    · simp only [Prod.mk.injEq] at e
      exact .inr ⟨h1, _, ⟨m, hm, rfl⟩, e.1, e.2⟩
    · exact .inl ⟨h1, _, ⟨m, hm, rfl⟩, Prod.ext e1 e2⟩
theorem walk_turn {h : HierD} {r : Int} {u v : Nat} {d : Int} (hw : Wk (webD h) r u v d) (hu : r < u) : Wk (webD (turnD h)) r v u d :=
  hw.rev (fun a s hs => (web_turn h s.1 (a, s.2)).2 hs) hu
theorem walk_back {h : HierD} {r : Int} {u v : Nat} {d : Int} (hw : Wk (webD (turnD h)) r u v d) (hu : r < u) : Wk (webD h) r v u d :=
  hw.rev (fun a s hs => (web_turn h a s).1 hs) hu
theorem holds_turn {h : HierD} (hc : checkErr h = .nil) {r : Nat} (hr : r < h.node.length) : HoldsD (turnD h) r ↔ HoldsD h r := by
  have ok := half_up hc
  have okd := half_dn hc
  constructor
  · intro hh a ha b hb hne
    have := hh (turnLink h.up.length h.dn.length b) (by simp only [turnD]; rw [seg_map]; exact List.mem_map_of_mem hb) (turnLink h.up.length h.dn.length a) (by simp only [turnD]; rw [seg_map]; exact List.mem_map_of_mem ha) (fun e => hne e.symm)
    obtain ⟨d, h1, h2⟩ := this
    have hgt := (ok.up r hr b hb).1
    have h2' : d ≤ (b.wt : Int) + (a.wt : Int) := h2
    exact ⟨d, walk_back (u := b.to) h1 (by omega), by omega⟩
  · intro hh a ha b hb hne
    simp only [turnD] at ha hb
    rw [seg_map] at ha hb
    obtain ⟨a0, ha0, rfl⟩ := List.mem_map.1 ha
    obtain ⟨b0, hb0, rfl⟩ := List.mem_map.1 hb
    obtain ⟨d, h1, h2⟩ := hh b0 hb0 a0 ha0 (fun e => hne e.symm)
    have hgt := (okd.up r hr b0 hb0).1
    refine ⟨d, walk_turn (u := b0.to) h1 (by omega), ?_⟩
    show d ≤ (a0.wt : Int) + (b0.wt : Int)
    omega
theorem SCheck.nil_iff {h : HierD} {x : EV} (s : SCheck h x) : x = .nil ↔ (checkErr h = .nil ∧ ∀ r, r < h.node.length → HoldsD h r) := by
  rcases s with ⟨h1, rfl⟩ | ⟨h1, h2, rfl⟩ | ⟨h1, r, h2, h3, h4, rfl⟩
  · exact ⟨fun e => absurd e h1, fun e => e.1⟩
  · exact ⟨fun _ => ⟨h1, h2⟩, fun _ => rfl⟩
  · exact ⟨fun e => (by cases e), fun e => absurd (e.2 r h2) h3⟩
theorem SCheck.turned {h : HierD} {x y : EV} (hc : checkErr h = .nil) (hct : checkErr (turnD h) = .nil) (a : SCheck h x) (b : SCheck (turnD h) y) : x = .nil ↔ y = .nil := by
  rw [a.nil_iff, b.nil_iff]
  constructor
  · rintro ⟨-, hh⟩
    exact ⟨hct, fun r hr => (holds_turn hc hr).2 (hh r hr)⟩
  · rintro ⟨-, hh⟩
    exact ⟨hc, fun r hr => (holds_turn hc hr).1 (hh r hr)⟩
theorem IsS.turned {h : HierD} {r : Int} {s t : Nat} {D E : Nat → Option Int} (a : IsS (webD h) r s D) (b : IsS (webD (turnD h)) r t E) (hs : r < s) (ht : r < t) : D t = E s := by
  cases hD : D t with
  | none =>
    cases hE : E s with
    | none => rfl
    | some e =>
      obtain ⟨d, h1, -⟩ := a.least t e (walk_back (b.walk s e hE) ht)
      rw [hD] at h1; cases h1
  | some d =>
    obtain ⟨e, h1, h2⟩ := b.least s d (walk_turn (a.walk t d hD) hs)
    obtain ⟨d', h3, h4⟩ := a.least t e (walk_back (b.walk s e h1) ht)
    rw [hD] at h3
    simp only [Option.some.injEq] at h3
    rw [h1]
    congr 1
    omega
theorem SAbove.turned {h : HierD} {r s t d d' : Int} {x x' : EV} (hc : checkErr h = .nil) (hct : checkErr (turnD h) = .nil) (a : SAbove h r s t d x) (b : SAbove (turnD h) r t s d' x') : d = d' ∧ (x = .nil ↔ x' = .nil) := by
  have hl : (turnD h).node.length = h.node.length := rfl
  cases a with
  | form e => exact absurd hc e
  | arg e a1 =>
    cases b with
    | form e => exact absurd hct e
    | arg e a2 => exact ⟨rfl, Iff.rfl⟩
    | node e a2 b2 => exact absurd a1 (by rw [hl] at a2; exact a2)
    | walk D d e a2 b2 i f => exact absurd a1 (by rw [hl] at a2; exact a2)
    | none D e a2 b2 i f => exact absurd a1 (by rw [hl] at a2; exact a2)
  | node e a1 b1 =>
    cases b with
    | form e => exact absurd hct e
    | arg e a2 => exact absurd (by rw [hl] at a2; exact a2) a1
    | node e a2 b2 => exact ⟨rfl, Iff.rfl⟩
    | walk D d e a2 b2 i f => rw [hl] at b2; omega
    | none D e a2 b2 i f => rw [hl] at b2; omega
  | walk D d e a1 b1 i f =>
    cases b with
    | form e => exact absurd hct e
    | arg e a2 => exact absurd (by rw [hl] at a2; exact a2) a1
    | node e a2 b2 => rw [hl] at b2; omega
    | walk E d2 e a2 b2 i2 f2 =>
      have := i.turned i2 (by omega) (by omega)
      rw [f, f2] at this
      simp only [Option.some.injEq] at this
      exact ⟨this, Iff.rfl⟩
    | none E e a2 b2 i2 f2 =>
      have := i.turned i2 (by omega) (by omega)
      rw [f, f2] at this
      cases this
  | none D e a1 b1 i f =>
    cases b with
    | form e => exact absurd hct e
    | arg e a2 => exact absurd (by rw [hl] at a2; exact a2) a1
    | node e a2 b2 => rw [hl] at b2; omega
    | walk E d2 e a2 b2 i2 f2 =>
      have := i.turned i2 (by omega) (by omega)
      rw [f, f2] at this
      cases this
    | none E e a2 b2 i2 f2 => exact ⟨rfl, Iff.rfl⟩
def relS (r : Int) (a : Nat) (s : Nat × Nat) (D : Nat → Option Int) : Nat → Option Int :=
  if r < s.1 then (match D a with | some x => (match D s.1 with | some y => if y ≤ x + s.2 then D else updD D s.1 (x + s.2) | none => updD D s.1 (x + s.2)) | none => D) else D
def relAll (W : Nat → List (Nat × Nat)) (r : Int) (n : Nat) (D : Nat → Option Int) : Nat → Option Int := (List.range n).foldl (fun D a => (W a).foldl (fun D s => relS r a s D) D) D
def bfD (W : Nat → List (Nat × Nat)) (r : Int) (n u : Nat) : Nat → Nat → Option Int
  | 0 => startD u
  | k + 1 => relAll W r n (bfD W r n u k)
def chk (W : Nat → List (Nat × Nat)) (r : Int) (n : Nat) (D : Nat → Option Int) : Bool :=
  (List.range n).all fun a => (W a).all fun s => decide (s.1 < n) && (!(decide (r < s.1)) || (match D a with | some x => (match D s.1 with | some y => decide (y ≤ x + s.2) | none => false) | none => true))
structure BfOk (W : Nat → List (Nat × Nat)) (r : Int) (u : Nat) (D : Nat → Option Int) : Prop where
  walk : ∀ v d, D v = some d → Wk W r u v d
  src : ∃ y, D u = some y ∧ y ≤ 0
theorem BfOk.rel {W : Nat → List (Nat × Nat)} {r : Int} {u a : Nat} {s : Nat × Nat} {D : Nat → Option Int} (h : BfOk W r u D) (hs : s ∈ W a) : BfOk W r u (relS r a s D) := by
  have upd : ∀ x, D a = some x → r < s.1 → (∀ y, D s.1 = some y → ¬ y ≤ x + s.2) → BfOk W r u (updD D s.1 (x + s.2)) := by
    intro x hx hr hy
    refine ⟨fun v d hv => ?_, ?_⟩
    · unfold updD at hv
      split at hv
      · rename_i e
        subst e
        simp only [Option.some.injEq] at hv
        subst hv
        exact (h.walk a x hx).snoc s hs hr
      · exact h.walk v d hv
    · obtain ⟨y, h1, h2⟩ := h.src
      by_cases e : u = s.1
      · refine ⟨x + s.2, by unfold updD; rw [if_pos e], ?_⟩
        have := hy y (by rw [← e]; exact h1)
        omega
      · exact ⟨y, by unfold updD; rw [if_neg e]; exact h1, h2⟩
  unfold relS
  split
  · rename_i hr
    cases hx : D a with
    | none => exact h
    | some x =>
      cases hy : D s.1 with
      | none => exact upd x hx hr (fun y e => by rw [hy] at e; cases e)
      | some y =>
        simp only
        split
        · exact h
        · rename_i hn
          exact upd x hx hr (fun y' e => by rw [hy] at e; simp only [Option.some.injEq] at e; subst e; exact hn)
  · exact h
theorem BfOk.fold {W : Nat → List (Nat × Nat)} {r : Int} {u a : Nat} : ∀ (l : List (Nat × Nat)) (D : Nat → Option Int), (∀ s ∈ l, s ∈ W a) → BfOk W r u D → BfOk W r u (l.foldl (fun D s => relS r a s D) D) := by
  intro l
  induction l with
  | nil => intro D _ h; exact h
  | cons s l ih => intro D hl h; exact ih _ (fun t ht => hl t (List.mem_cons_of_mem _ ht)) (h.rel (hl s (List.mem_cons_self ..)))
theorem BfOk.all {W : Nat → List (Nat × Nat)} {r : Int} {u : Nat} : ∀ (l : List Nat) (D : Nat → Option Int), BfOk W r u D → BfOk W r u (l.foldl (fun D a => (W a).foldl (fun D s => relS r a s D) D) D) := by
  intro l
  induction l with
  | nil => intro D h; exact h
  | cons a l ih => intro D h; exact ih _ (BfOk.fold _ _ (fun s hs => hs) h)
theorem bf_ok (W : Nat → List (Nat × Nat)) (r : Int) (n u : Nat) : ∀ k, BfOk W r u (bfD W r n u k) := by
  intro k
  induction k with
  | zero =>
    refine ⟨fun v d h => ?_, 0, by simp [bfD, startD], by omega⟩
    simp only [bfD, startD] at h
    split at h
    · rename_i e; subst e; simp only [Option.some.injEq] at h; subst h; exact .nil
    · cases h
  | succ k ih => exact BfOk.all _ _ ih
theorem bf_isS {W : Nat → List (Nat × Nat)} {r : Int} {n u k : Nat} (hu : u < n) (hc : chk W r n (bfD W r n u k) = true) : IsS W r u (bfD W r n u k) := by
  have ok := bf_ok W r n u k
  refine ⟨ok.walk, fun v d' hw => ?_⟩
  have key : v < n ∧ ∃ y, bfD W r n u k v = some y ∧ y ≤ d' := by
    induction hw with
    | nil => exact ⟨hu, ok.src⟩
    | snoc s hw hs hr ih =>
      obtain ⟨ha, x, hx, hxd⟩ := ih
      unfold chk at hc
      rw [List.all_eq_true] at hc
      have h1 := hc _ (List.mem_range.2 ha)
      rw [List.all_eq_true] at h1
      have h2 := h1 s hs
      simp only [Bool.and_eq_true, decide_eq_true_eq, Bool.or_eq_true, Bool.not_eq_true', decide_eq_false_iff_not] at h2
      refine ⟨h2.1, ?_⟩
      rcases h2.2 with h3 | h3
      · exact absurd hr h3
      · rw [hx] at h3
        cases hy : bfD W r n u k s.1 with
        | none => rw [hy] at h3; simp at h3
        | some y =>
          rw [hy] at h3
          simp only [decide_eq_true_eq] at h3
          exact ⟨y, rfl, by omega⟩
  exact key.2
theorem SAbove.is {h : HierD} {r s t d : Int} {x : EV} (k : Nat) (hc : checkErr h = .nil) (ha : ¬ (r < -1 ∨ (h.node.length : Int) ≤ r)) (hb : ¬ ((s ≤ r ∨ (h.node.length : Int) ≤ s) ∨ t ≤ r ∨ (h.node.length : Int) ≤ t))
    (hk : chk (webD h) r h.node.length (bfD (webD h) r h.node.length s.toNat k) = true) (a : SAbove h r s t d x) :
    (match bfD (webD h) r h.node.length s.toNat k t.toNat with | Option.some e => (e, EV.nil) | Option.none => (0, EV.code 16)) = (d, x) := by
  have hi := bf_isS (by omega) hk
  cases a with
  | form e => exact absurd hc e
  | arg e a1 => exact absurd a1 ha
  | node e a1 b1 => exact absurd b1 hb
  | walk D d e a1 b1 i f => rw [hi.unique i, f]
  | none D e a1 b1 i f => rw [hi.unique i, f]
theorem Wk.append {W : Nat → List (Nat × Nat)} {r : Int} {u v t : Nat} {d e : Int} (h : Wk W r u v d) (k : Wk W r v t e) : Wk W r u t (d + e) := by
  induction k with
  | nil => simpa using h
  | snoc s k hs hr ih =>
    have := Wk.snoc s ih hs hr
    rw [show d + (_ + (s.2 : Int)) = d + _ + (s.2 : Int) from (Int.add_assoc _ _ _).symm]
    exact this
theorem Wk.weaken {W : Nat → List (Nat × Nat)} {r q : Int} {u v : Nat} {d : Int} (h : Wk W r u v d) (hq : q ≤ r) : Wk W q u v d := by
  induction h with
  | nil => exact .nil
  | snoc s h hs hr ih => exact .snoc s ih hs (by omega)
theorem webD_mem {h : HierD} {a : Nat} {s : Nat × Nat} : s ∈ webD h a ↔ (a < h.node.length ∧ ∃ l ∈ seg h.upF h.up a, s = (l.to, l.wt)) ∨ (s.1 < h.node.length ∧ ∃ l ∈ seg h.dnF h.dn s.1, a = l.to ∧ s.2 = l.wt) := by
  unfold webD
  exact webTo_mem h _ a s
structure NoMid (h : HierD) (k u v : Nat) (x : Int) : Prop where
  hi : k < u → k < v → ∃ y, y ≤ x ∧ Wk (webD h) (k : Int) u v y
  dn : k < u → v = k → ∃ l ∈ seg h.dnF h.dn k, ∃ y, Wk (webD h) (k : Int) u l.to y ∧ y + l.wt ≤ x
  up : u = k → k < v → ∃ l ∈ seg h.upF h.up k, ∃ y, Wk (webD h) (k : Int) l.to v y ∧ l.wt + y ≤ x
theorem no_mid {h : HierD} (hc : checkErr h = .nil) {k : Nat} (hk : k < h.node.length) (hh : HoldsD h k) {u v : Nat} {x : Int} (hu : k ≤ u) (hw : Wk (webD h) ((k : Int) - 1) u v x) : NoMid h k u v x ∧ k ≤ v := by
  have ok := half_up hc
  have okd := half_dn hc
  induction hw with
  | nil => exact ⟨⟨fun h1 _ => ⟨0, by omega, .nil⟩, fun h1 h2 => by omega, fun h1 h2 => by omega⟩, hu⟩
  | @snoc v x s hw hs hr ih =>
    obtain ⟨ih, hv⟩ := ih
    have h0 := hw.nonneg
    refine ⟨⟨fun h1 h2 => ?_, fun h1 h2 => ?_, fun h1 h2 => ?_⟩, by omega⟩
    · by_cases e : v = k
      · obtain ⟨a, ha, y, hy, hle⟩ := ih.dn h1 e
        subst e
        rcases webD_mem.1 hs with ⟨g1, b, hb, rfl⟩ | ⟨g1, b, hb, g2, g3⟩
        · by_cases e : a.to = b.to
          · exact ⟨y, by dsimp only; omega, e ▸ hy⟩
          · obtain ⟨z, hz, hzl⟩ := hh a ha b hb e
            exact ⟨y + z, by dsimp only; omega, hy.append hz⟩
        · have := (okd.up _ g1 b hb).1
          omega
      · obtain ⟨y, hle, hy⟩ := ih.hi h1 (by omega)
        exact ⟨y + s.2, by omega, .snoc s hy hs (by omega)⟩
    · have hvk : k < v := by
        rcases webD_mem.1 hs with ⟨g1, b, hb, rfl⟩ | ⟨g1, b, hb, g2, g3⟩
        · have := (ok.up _ g1 b hb).1
          dsimp only at h2
          omega
        · have := (okd.up _ g1 b hb).1
          omega
      obtain ⟨y, hle, hy⟩ := ih.hi h1 hvk
      rcases webD_mem.1 hs with ⟨g1, b, hb, e⟩ | ⟨g1, b, hb, g2, g3⟩
      · have := (ok.up _ g1 b hb).1
        rw [e] at h2
        dsimp only at h2
        omega
      · rw [h2] at hb
        exact ⟨b, hb, y, g2 ▸ hy, by omega⟩
    · by_cases e : v = k
      · rw [e] at hs
        rcases webD_mem.1 hs with ⟨g1, b, hb, g2⟩ | ⟨g1, b, hb, g2, g3⟩
        · refine ⟨b, hb, 0, ?_, ?_⟩
          · rw [g2]; exact .nil
          · rw [g2]; dsimp only; omega
        · have := (okd.up _ g1 b hb).1
          omega
      · obtain ⟨l, hl, y, hy, hle⟩ := ih.up h1 (by omega)
        exact ⟨l, hl, y + s.2, .snoc s hy hs (by omega), by omega⟩
def UpW (first : List Nat) (links : List LinkD) (a : Nat) : List (Nat × Nat) := (seg first links a).map fun l => (l.to, l.wt)
def UpDn (h : HierD) (u v : Nat) (x : Int) : Prop := ∃ (m : Nat) (a b : Int), Wk (UpW h.upF h.up) (-1) u m a ∧ Wk (UpW h.dnF h.dn) (-1) v m b ∧ a + b ≤ x
theorem up_dn {h : HierD} (hc : checkErr h = .nil) (hh : ∀ r, r < h.node.length → HoldsD h r) : ∀ (j k u v : Nat) (x : Int), k + j = h.node.length → k ≤ u → u < h.node.length → v < h.node.length → Wk (webD h) ((k : Int) - 1) u v x → UpDn h u v x := by
  intro j
  induction j with
  | zero => intro k u v x hj hu hun hvn hw; omega
  | succ j ih =>
    intro k u v x hj hu hun hvn hw
    have hk : k < h.node.length := by omega
    obtain ⟨nm, hv⟩ := no_mid hc hk (hh k hk) hu hw
    have h0 := hw.nonneg
    have next : ∀ (a b : Nat) (y : Int), k < a → a < h.node.length → b < h.node.length → Wk (webD h) (k : Int) a b y → UpDn h a b y := by
      intro a b y ha han hbn hy
      refine ih (k + 1) a b y (by omega) ha han hbn ?_
      have e : ((k + 1 : Nat) : Int) - 1 = (k : Int) := by omega
      rw [e]
      exact hy
    have ok := half_up hc
    have okd := half_dn hc
    by_cases h1 : k < u
    · by_cases h2 : k < v
      · obtain ⟨y, hle, hy⟩ := nm.hi h1 h2
        obtain ⟨m, a, b, g1, g2, g3⟩ := next u v y h1 hun hvn hy
        exact ⟨m, a, b, g1, g2, by omega⟩
      · obtain rfl : v = k := by omega
        obtain ⟨l, hl, y, hy, hle⟩ := nm.dn h1 rfl
        obtain ⟨q1, q2, -⟩ := okd.up _ hk l hl
        obtain ⟨m, a, b, g1, g2, g3⟩ := next u l.to y h1 hun q2 hy
        refine ⟨m, a, b + l.wt, g1, Wk.cons (l.to, l.wt) (List.mem_map.2 ⟨l, hl, rfl⟩) (by dsimp only; omega) g2, by omega⟩
    · obtain rfl : u = k := by omega
      by_cases h2 : u < v
      · obtain ⟨l, hl, y, hy, hle⟩ := nm.up rfl h2
        obtain ⟨q1, q2, -⟩ := ok.up _ hk l hl
        obtain ⟨m, a, b, g1, g2, g3⟩ := next l.to v y q1 q2 hvn hy
        refine ⟨m, a + l.wt, b, Wk.cons (l.to, l.wt) (List.mem_map.2 ⟨l, hl, rfl⟩) (by dsimp only; omega) g1, g2, by omega⟩
      · obtain rfl : v = u := by omega
        exact ⟨v, 0, 0, .nil, .nil, by omega⟩
theorem IsD.least {n : Nat} {first : List Nat} {links : List LinkD} {s : Nat} {D : Nat → Option Int} (h : IsD n first links s D) {m : Nat} {a : Int} (hw : Wk (UpW first links) (-1) s m a) : ∃ e, D m = some e ∧ e ≤ a := by
  induction hw with
  | nil => exact ⟨0, h.src, by omega⟩
  | @snoc v x t hw hs hr ih =>
    obtain ⟨e, he, hle⟩ := ih
    obtain ⟨l, hl, rfl⟩ := List.mem_map.1 hs
    obtain ⟨e', h1, h2⟩ := h.fwd v e l (h.dom _ _ he) he hl
    exact ⟨e', h1, by dsimp only; omega⟩
theorem meet_le_sum {D E : Nat → Option Int} {k : Nat} {a b : Int} (ha : D k = some a) (hb : E k = some b) : ∀ m, k < m → (meetTo D E m).2 ≤ a + b := by
  intro m
  induction m with
  | zero => intro h; omega
  | succ m ih =>
    intro hk
    by_cases e : k = m
    · subst e
      unfold meetTo
      rw [ha, hb]
      dsimp only
      split
      · exact Int.le_refl _
      · omega
    · have := ih (by omega)
      unfold meetTo
      split
      · split
        · rename_i h
          exact Int.le_trans (Int.le_of_lt h) this
        · exact this
      · exact this
theorem true_le {h : HierD} (hc : checkErr h = .nil) (hh : ∀ r, r < h.node.length → HoldsD h r) {s t : Nat} (hs : s < h.node.length) (ht : t < h.node.length) {D E : Nat → Option Int} (hD : IsD h.node.length h.upF h.up s D) (hE : IsD h.node.length h.dnF h.dn t E) {x : Int} (hw : Wk (webD h) (-1) s t x) : (meetTo D E h.node.length).2 ≤ x := by
  obtain ⟨m, a, b, g1, g2, g3⟩ := up_dn hc hh h.node.length 0 s t x (by omega) (Nat.zero_le _) hs ht hw
  obtain ⟨a', h1, h2⟩ := hD.least g1
  obtain ⟨b', h3, h4⟩ := hE.least g2
  have := meet_le_sum h1 h3 h.node.length (hD.dom _ _ h1)
  omega
end Go.Proofs.YtblkkjfpggcgfaaGreatDoor
namespace Go.Proofs.YtblkkjfpggcgfaaGreatDoor
open Go.Shelf Go.RowKit Go.Lib Go.Sort
set_option maxRecDepth 100000 in
def sortArcs_ren : Go.Shelf.Ren := ⟨fun | 6 => 18 | 15 => 41 | 14 => 40 | 28 => 74 | 29 => 75 | 20 => 66 | 21 => 67 | 22 => 68 | 23 => 69 | 24 => 70 | 25 => 71 | 26 => 72 | 27 => 73 | 46 => 86 | 47 => 87 | 48 => 88 | 49 => 89 | 50 => 90 | 57 => 101 | n => n,
  fun | 22 => 28 | 24 => 68 | 25 => 70 | 3 => 3 | 39 => 110 | 0 => 0 | 53 => 61 | 55 => 35 | 4 => 4 | 46 => 158 | 45 => 157 | 50 => 162 | 5 => 5 | 9 => 9 | 66 => 201 | 70 => 205 | 76 => 216 | 77 => 217 | n => n,
  fun | n => n⟩
set_option maxRecDepth 100000 in
theorem sortArcs : SlLaysF0.n6 Tryz.prog sortArcs_ren := {
  mixed := by kernel_rfl,
  f6 := ⟨Tryz.f18.name, by decide, Tryz.func18.trans (congrArg some (by kernel_rfl))⟩,
  f14 := ⟨Tryz.f40.name, by decide, Tryz.func40.trans (congrArg some (by kernel_rfl))⟩,
  f15 := Tryz.func41.trans (congrArg some (by kernel_rfl)),
  f20 := ⟨Tryz.f66.name, by decide, Tryz.func66.trans (congrArg some (by kernel_rfl))⟩,
  f21 := ⟨Tryz.f67.name, by decide, Tryz.func67.trans (congrArg some (by kernel_rfl))⟩,
  f22 := ⟨Tryz.f68.name, by decide, Tryz.func68.trans (congrArg some (by kernel_rfl))⟩,
  f23 := ⟨Tryz.f69.name, by decide, Tryz.func69.trans (congrArg some (by kernel_rfl))⟩,
  f24 := ⟨Tryz.f70.name, by decide, Tryz.func70.trans (congrArg some (by kernel_rfl))⟩,
  f25 := ⟨Tryz.f71.name, by decide, Tryz.func71.trans (congrArg some (by kernel_rfl))⟩,
  f26 := ⟨Tryz.f72.name, by decide, Tryz.func72.trans (congrArg some (by kernel_rfl))⟩,
  f27 := ⟨Tryz.f73.name, by decide, Tryz.func73.trans (congrArg some (by kernel_rfl))⟩,
  f28 := Tryz.func74.trans (congrArg some (by kernel_rfl)),
  f29 := Tryz.func75.trans (congrArg some (by kernel_rfl)),
  f46 := ⟨Tryz.f86.name, by decide, Tryz.func86.trans (congrArg some (by kernel_rfl))⟩,
  f47 := Tryz.func87.trans (congrArg some (by kernel_rfl)),
  f48 := Tryz.func88.trans (congrArg some (by kernel_rfl)),
  f49 := ⟨Tryz.f89.name, by decide, Tryz.func89.trans (congrArg some (by kernel_rfl))⟩,
  f50 := ⟨Tryz.f90.name, by decide, Tryz.func90.trans (congrArg some (by kernel_rfl))⟩,
  f57 := ⟨Tryz.f101.name, by decide, Tryz.func101.trans (congrArg some (by kernel_rfl))⟩,
  t0 := Tryz.underlying0,
  a0 := Tryz.isAgg0,
  z0 := Tryz.sizeOf0,
  v0 := Tryz.zeroValue0,
  t3 := Tryz.underlying3,
  a3 := Tryz.isAgg3,
  z3 := Tryz.sizeOf3,
  v3 := Tryz.zeroValue3,
  t4 := Tryz.underlying4,
  a4 := Tryz.isAgg4,
  z4 := Tryz.sizeOf4,
  v4 := Tryz.zeroValue4,
  t5 := Tryz.underlying5,
  a5 := Tryz.isAgg5,
  z5 := Tryz.sizeOf5,
  v5 := Tryz.zeroValue5,
  t9 := Tryz.underlying9,
  a9 := Tryz.isAgg9,
  z9 := Tryz.sizeOf9,
  v9 := Tryz.zeroValue9,
  t22 := Tryz.underlying28,
  a22 := Tryz.isAgg28,
  z22 := Tryz.sizeOf28,
  v22 := Tryz.zeroValue28,
  t25 := Tryz.underlying70,
  a25 := Tryz.isAgg70,
  z25 := Tryz.sizeOf70,
  v25 := Tryz.zeroValue70,
  t39 := Tryz.underlying110,
  a39 := Tryz.isAgg110,
  z39 := Tryz.sizeOf110,
  v39 := Tryz.zeroValue110,
  t45 := Tryz.underlying157,
  a45 := Tryz.isAgg157,
  z45 := Tryz.sizeOf157,
  v45 := Tryz.zeroValue157,
  t46 := Tryz.underlying158,
  a46 := Tryz.isAgg158,
  z46 := Tryz.sizeOf158,
  v46 := Tryz.zeroValue158,
  t50 := Tryz.underlying162,
  a50 := Tryz.isAgg162,
  z50 := Tryz.sizeOf162,
  v50 := Tryz.zeroValue162,
  t53 := Tryz.underlying61,
  a53 := Tryz.isAgg61,
  z53 := Tryz.sizeOf61,
  v53 := Tryz.zeroValue61,
  t55 := Tryz.underlying35,
  a55 := Tryz.isAgg35,
  z55 := Tryz.sizeOf35,
  v55 := Tryz.zeroValue35,
  t66 := Tryz.underlying201,
  a66 := Tryz.isAgg201,
  z66 := Tryz.sizeOf201,
  v66 := Tryz.zeroValue201,
  t70 := Tryz.underlying205,
  a70 := Tryz.isAgg205,
  z70 := Tryz.sizeOf205,
  v70 := Tryz.zeroValue205,
  t76 := Tryz.underlying216,
  a76 := Tryz.isAgg216,
  z76 := Tryz.sizeOf216,
  v76 := Tryz.zeroValue216,
  t77 := Tryz.underlying217,
  a77 := Tryz.isAgg217,
  z77 := Tryz.sizeOf217,
  v77 := Tryz.zeroValue217 }
end Go.Proofs.YtblkkjfpggcgfaaGreatDoor
namespace Go.Proofs.YtblkkjfpggcgfaaGreatDoor
open Go.ChangeShapes Go.WideShapes Go.ChangeAt Go.RowKit Go.Joins Go.Deep
def cntOf (h : HierD) : Nat := h.up.length + h.dn.length
def endAt (h : HierD) (i : Nat) : EndD := (endsOf h).getD i default
def rkOf (h : HierD) (i : Nat) : Nat := (endAt h i).rank
theorem parts_firsts {h : HierD} (hc : checkErr h = .nil) : FirstsOk h.node.length h.upF h.up.length ∧ FirstsOk h.node.length h.dnF h.dn.length := by
  obtain ⟨f, e1, e2, -, -⟩ := checkErr_parts hc
  exact ⟨firsts_nil f.u e1, firsts_nil f.d e2⟩
theorem cnt_ends {h : HierD} (hc : checkErr h = .nil) : (endsOf h).length = cntOf h := by
  obtain ⟨u, d⟩ := parts_firsts hc
  exact endsOf_length u d
theorem endAt_link {h : HierD} (hc : checkErr h = .nil) {i : Nat} (hi : i < cntOf h) : (endAt h i).link = linkAt h i := by
  obtain ⟨u, d⟩ := parts_firsts hc
  exact ends_link u d i hi
structure Kids (h : HierD) (i a b : Nat) : Prop where
  la : (linkAt h i).left = a
  lb : (linkAt h i).right = b
  ha : a < cntOf h
  hb : b < cntOf h
  ra : rkOf h a < rkOf h i
  rb : rkOf h b = rkOf h a
  dn : h.up.length ≤ a
  up : b < h.up.length
  t : (endAt h a).tail = (endAt h i).tail
  d : (endAt h b).head = (endAt h i).head
  w : (linkAt h a).wt + (linkAt h b).wt = (linkAt h i).wt
theorem endAt_up {h : HierD} (hc : checkErr h = .nil) {i : Nat} (hi : i < h.up.length) : (endAt h i).tail = (endAt h i).rank ∧ (endAt h i).head = (endAt h i).link.to := by
  obtain ⟨u, d⟩ := parts_firsts hc
  have := ends_tail u d i (by omega)
  simp only [if_pos hi] at this
  exact this
theorem endAt_dn {h : HierD} (hc : checkErr h = .nil) {i : Nat} (h1 : h.up.length ≤ i) (hi : i < cntOf h) : (endAt h i).tail = (endAt h i).link.to ∧ (endAt h i).head = (endAt h i).rank := by
  obtain ⟨u, d⟩ := parts_firsts hc
  have := ends_tail u d i hi
  simp only [if_neg (Nat.not_lt.2 h1)] at this
  exact this
theorem kids {h : HierD} (hc : checkErr h = .nil) {i : Nat} (hi : i < cntOf h) (hp : (linkAt h i).plain = false) : Kids h i (linkAt h i).left (linkAt h i).right := by
  obtain ⟨f, -, -, -, hg⟩ := checkErr_parts hc
  have hn := cnt_ends hc
  obtain ⟨hs, hw⟩ := linksGo_nil hg i (by omega)
  have hl := endAt_link hc hi
  unfold endAt at hl
  unfold shapeB at hs
  unfold weightB at hw
  simp only [hl, hp, Bool.false_eq_true, if_false] at hs hw
  split at hs
  · cases hs
  rename_i h1
  split at hs
  · cases hs
  split at hs
  · cases hs
  rename_i h3
  have ha : (linkAt h i).left < cntOf h := by omega
  have hup : (linkAt h i).right < h.up.length := by omega
  have hb : (linkAt h i).right < cntOf h := by unfold cntOf; omega
  simp only [decide_eq_true_eq] at hs hw
  obtain ⟨ht, hd, hr⟩ := hs
  have la := endAt_link hc ha
  have lb := endAt_link hc hb
  unfold endAt at la lb
  rw [la, lb] at hw
  have ga := endAt_dn hc (i := (linkAt h i).left) (by omega) ha
  have gb := endAt_up hc hup
  have hall := end_facts hg
  have mi : endAt h i ∈ endsOf h := by
    unfold endAt
    rw [List.getD_eq_getElem?_getD, List.getElem?_eq_getElem (by omega), Option.getD_some]
    exact List.getElem_mem _
  have ma : endAt h (linkAt h i).left ∈ endsOf h := by
    unfold endAt
    rw [List.getD_eq_getElem?_getD, List.getElem?_eq_getElem (by omega), Option.getD_some]
    exact List.getElem_mem _
  have mb : endAt h (linkAt h i).right ∈ endsOf h := by
    unfold endAt
    rw [List.getD_eq_getElem?_getD, List.getElem?_eq_getElem (by omega), Option.getD_some]
    exact List.getElem_mem _
  have fa := hall _ ma
  have fb := hall _ mb
  refine ⟨rfl, rfl, ha, hb, ?_, hr.symm, by omega, hup, ht, hd, hw.2.2.2⟩
  unfold rkOf
  by_cases hiu : i < h.up.length
  · have gi := endAt_up hc hiu
    have e1 : (endAt h (linkAt h i).left).tail = (endAt h i).tail := ht
    omega
  · have gi := endAt_dn hc (i := i) (by omega) hi
    have e1 : (endAt h (linkAt h i).right).head = (endAt h i).head := hd
    have e2 : (endAt h (linkAt h i).left).rank = (endAt h (linkAt h i).right).rank := hr
    omega
def lays (h : HierD) : Nat → Nat → List Nat
  | 0, _ => []
  | k + 1, i => if (linkAt h i).plain then [i] else lays h k (linkAt h i).left ++ lays h k (linkAt h i).right
theorem lays_stable {h : HierD} (hc : checkErr h = .nil) : ∀ k k' i, i < cntOf h → rkOf h i < k → rkOf h i < k' → lays h k i = lays h k' i := by
  intro k
  induction k with
  | zero => intro k' i _ h1; omega
  | succ k ih =>
    intro k' i hi h1 h2
    cases k' with
    | zero => omega
    | succ k' =>
      unfold lays
      cases hp : (linkAt h i).plain with
      | true => rfl
      | false =>
        have q := kids hc hi hp
        have := q.ra
        have := q.rb
        rw [if_neg (by simp), if_neg (by simp), ih k' _ q.ha (by omega) (by omega), ih k' _ q.hb (by omega) (by omega)]
def laysOf (h : HierD) (i : Nat) : List Nat := lays h (rkOf h i + 1) i
theorem laysOf_plain {h : HierD} {i : Nat} (hp : (linkAt h i).plain = true) : laysOf h i = [i] := by
  unfold laysOf lays
  rw [if_pos hp]
theorem laysOf_two {h : HierD} (hc : checkErr h = .nil) {i : Nat} (hi : i < cntOf h) (hp : (linkAt h i).plain = false) : laysOf h i = laysOf h (linkAt h i).left ++ laysOf h (linkAt h i).right := by
  have q := kids hc hi hp
  have := q.ra
  have := q.rb
  conv => lhs; unfold laysOf lays
  rw [if_neg (by simp [hp]), lays_stable hc _ (rkOf h (linkAt h i).left + 1) _ q.ha (by omega) (by omega), lays_stable hc _ (rkOf h (linkAt h i).right + 1) _ q.hb (by omega) (by omega)]
  rfl
theorem link_ind {h : HierD} (hc : checkErr h = .nil) {C : Nat → Prop} (h1 : ∀ i, i < cntOf h → (linkAt h i).plain = true → C i) (h2 : ∀ i, i < cntOf h → (linkAt h i).plain = false → Kids h i (linkAt h i).left (linkAt h i).right → C (linkAt h i).left → C (linkAt h i).right → C i) : ∀ i, i < cntOf h → C i := by
  have key : ∀ k i, i < cntOf h → rkOf h i < k → C i := by
    intro k
    induction k with
    | zero => intro i _ h; omega
    | succ k ih =>
      intro i hi hk
      cases hp : (linkAt h i).plain with
      | true => exact h1 i hi hp
      | false =>
        have q := kids hc hi hp
        have := q.ra
        have := q.rb
        exact h2 i hi hp q (ih _ q.ha (by omega)) (ih _ q.hb (by omega))
  exact fun i hi => key (rkOf h i + 1) i hi (by omega)
theorem laysOf_mem {h : HierD} (hc : checkErr h = .nil) : ∀ i, i < cntOf h → ∀ x ∈ laysOf h i, x < cntOf h ∧ (linkAt h x).plain = true := by
  refine link_ind hc (fun i hi hp x hx => ?_) (fun i hi hp q ha hb x hx => ?_)
  · rw [laysOf_plain hp, List.mem_singleton] at hx
    subst hx
    exact ⟨hi, hp⟩
  · rw [laysOf_two hc hi hp, List.mem_append] at hx
    exact hx.elim (ha x) (hb x)
theorem laysOf_wt {h : HierD} (hc : checkErr h = .nil) : ∀ i, i < cntOf h → ((laysOf h i).map fun x => (linkAt h x).wt).sum = (linkAt h i).wt := by
  refine link_ind hc (fun i _ hp => by rw [laysOf_plain hp]; simp) (fun i hi hp q ha hb => ?_)
  rw [laysOf_two hc hi hp, List.map_append, List.sum_append, ha, hb]
  exact q.w
def Chain (h : HierD) : List Nat → Nat → Nat → Prop
  | [], s, t => s = t
  | x :: l, s, t => (endAt h x).tail = s ∧ Chain h l (endAt h x).head t
theorem Chain.app {h : HierD} {l m : List Nat} {s u t : Nat} (a : Chain h l s u) (b : Chain h m u t) : Chain h (l ++ m) s t := by
  induction l generalizing s with
  | nil => have e : s = u := a; subst e; exact b
  | cons x l ih => exact ⟨a.1, ih a.2⟩
theorem laysOf_chain {h : HierD} (hc : checkErr h = .nil) : ∀ i, i < cntOf h → Chain h (laysOf h i) (endAt h i).tail (endAt h i).head := by
  refine link_ind hc (fun i _ hp => by rw [laysOf_plain hp]; exact ⟨rfl, rfl⟩) (fun i hi hp q ha hb => ?_)
  rw [laysOf_two hc hi hp, ← q.t, ← q.d]
  have e1 := (endAt_dn hc q.dn q.ha).2
  have e2 := (endAt_up hc q.up).1
  have e3 : (endAt h (linkAt h i).right).rank = (endAt h (linkAt h i).left).rank := q.rb
  rw [show (endAt h (linkAt h i).right).tail = (endAt h (linkAt h i).left).head by rw [e1, e2, e3]] at hb
  exact ha.app hb
def stackOut (h : HierD) (S : List Nat) : List Nat := S.flatMap (laysOf h)
def StackOk (h : HierD) (B : Nat) : List Nat → Prop
  | [] => True
  | x :: l => x < cntOf h ∧ l.length + 1 + rkOf h x ≤ B ∧ StackOk h B l
theorem StackOk.push {h : HierD} (hc : checkErr h = .nil) {B i : Nat} {l : List Nat} (g : StackOk h B (i :: l)) (hp : (linkAt h i).plain = false) : StackOk h B ((linkAt h i).left :: (linkAt h i).right :: l) := by
  obtain ⟨hi, hB, hl⟩ := g
  have q := kids hc hi hp
  have := q.ra
  have := q.rb
  exact ⟨q.ha, by simp only [List.length_cons]; omega, q.hb, by omega, hl⟩
theorem StackOk.len {h : HierD} {B : Nat} {l : List Nat} (g : StackOk h B l) : l.length ≤ B := by
  cases l with
  | nil => simp
  | cons x l => have := g.2.1; simp only [List.length_cons]; omega
structure Nats (B : Nat) (w' : World) (v : Value) (l : List Nat) : Prop where
  own : w'.ownsRow 0 3 1 v l.length (l.flatMap i64Cells)
  new : ∀ k, v.ownBlock = some k → B ≤ k
theorem Nats.nil (B : Nat) (w : World) : Nats B w (.slice none 0 0) [] := ⟨World.ownsRow_nil _ _ _ _, by simp [Value.ownBlock]⟩
theorem Nats.kept {B : Nat} {w w' : World} {v : Value} {l : List Nat} {bs : List Nat} (n : Nats B w v l) (o : Only bs w w') (hn : ∀ k, v.ownBlock = some k → k ∉ bs) : Nats B w' v l := ⟨own_kept n.own o hn, n.new⟩
theorem Nats.below {B : Nat} {w w' : World} {v : Value} {l : List Nat} (n : Nats B w v l) (o : Below w.heap.size w w') : Nats B w' v l := n.kept (bs := []) (Only.of_below o) (fun _ _ => by simp)
theorem Nats.form {B : Nat} {w : World} {v : Value} {l : List Nat} (n : Nats B w v l) : ∃ ao cap, v = .slice ao l.length cap := own_form' n.own
theorem Nats.mono {B C : Nat} {w : World} {v : Value} {l : List Nat} (n : Nats B w v l) (h : C ≤ B) : Nats C w v l := ⟨n.own, fun k hk => Nat.le_trans h (n.new k hk)⟩
theorem Nats.see {B : Nat} {w : World} {ao : Option Addr} {n cap : Nat} {l : List Nat} (h : Nats B w (.slice ao n cap) l) : See w ao cap i64Cells 1 l ∧ n = l.length := by
  obtain ⟨ao2, cap2, e⟩ := h.form
  simp only [Value.slice.injEq] at e
  obtain ⟨rfl, rfl, rfl⟩ := e
  exact ⟨(See.of_own i64Cells_len h.own (by omega)).1, rfl⟩
theorem Nats.block {B : Nat} {w : World} {v : Value} {l : List Nat} (n : Nats B w v l) (hl : 0 < l.length) : ∃ g cap, v = .slice (some ⟨g, 0, none⟩) l.length cap ∧ B ≤ g ∧ g < w.heap.size ∧ ∀ (i x : Nat), l[i]? = some x → w.cell? ⟨g, i, none⟩ = some (.int .i64 (x : Int)) := by
  obtain ⟨g, cap, rfl, -, hg⟩ := own_form n.own hl
  refine ⟨g, cap, rfl, n.new g rfl, hg, fun i x hx => ?_⟩
  obtain ⟨b, o, e, hc⟩ := n.see.1.cell i x hx
  simp only [Option.some.injEq, Addr.mk.injEq, and_true] at e
  obtain ⟨rfl, rfl⟩ := e
  have := hc 0 _ rfl
  rwa [Nat.mul_one, Nat.add_zero, Nat.zero_add] at this
theorem Nats.cap {B : Nat} {w : World} {ao : Option Addr} {n cap : Nat} {l : List Nat} (h : Nats B w (.slice ao n cap) l) : l.length ≤ cap ∧ cap ≤ maxLen := ⟨h.see.1.hcap, h.see.1.hmax⟩
theorem Nats.app {B : Nat} {w w5 : World} {v : Value} {l : List Nat} (n : Nats B w v l) {ao : Option Addr} {cap : Nat} {m : Nat} (news : List Nat) (hm : news.length = m)
    (ho : w5.ownsRow 0 3 1 (.slice ao (l.length + m) cap) (l.length + m) (l.flatMap i64Cells ++ news.flatMap i64Cells)) (hk : ∀ k, (Value.slice ao (l.length + m) cap).ownBlock = some k → v.ownBlock = some k ∨ w.heap.size ≤ k) (hB : B ≤ w.heap.size) :
    Nats B w5 (.slice ao (l.length + m) cap) (l ++ news) := by
  subst hm
  refine ⟨by rw [List.flatMap_append, List.length_append]; exact ho, fun k h => ?_⟩
  rcases hk k h with h1 | h1
  · exact n.new k h1
  · omega
theorem Nats.take {B : Nat} {w : World} {g cap : Nat} {l : List Nat} {n m : Nat} (h : Nats B w (.slice (some ⟨g, 0, none⟩) n cap) l) (hm : m ≤ l.length) : Nats B w (.slice (some ⟨g, 0, none⟩) m cap) (l.take m) := by
  obtain ⟨-, rfl⟩ := h.see
  have ho := own_take h.own hm
  rw [← flat_take i64Cells_len] at ho
  have e : (l.take m).length = m := by simp; omega
  exact ⟨by rw [e]; exact ho, h.new⟩
theorem rkOf_lt {h : HierD} (hc : checkErr h = .nil) {i : Nat} (hi : i < cntOf h) : rkOf h i < h.node.length := by
  obtain ⟨f, -, -, -, hg⟩ := checkErr_parts hc
  have hn := cnt_ends hc
  have mi : endAt h i ∈ endsOf h := by
    unfold endAt
    rw [List.getD_eq_getElem?_getD, List.getElem?_eq_getElem (by omega), Option.getD_some]
    exact List.getElem_mem _
  have := end_facts hg _ mi
  unfold rkOf
  omega
theorem StackOk.start {h : HierD} (hc : checkErr h = .nil) : ∀ l : List Nat, (∀ x ∈ l, x < cntOf h) → ∀ B, l.length + h.node.length ≤ B → StackOk h B l
  | [], _, _, _ => trivial
  | x :: l, hl, B, hB => by
    have h1 := rkOf_lt hc (hl x (by simp))
    simp only [List.length_cons] at hB
    exact ⟨hl x (by simp), by omega, StackOk.start hc l (fun y hy => hl y (by simp [hy])) B (by omega)⟩
theorem own_mem {v : Value} {k : Nat} (h : k ∈ v.ownBlock.toList) : v.ownBlock = some k := by
  cases hv : v.ownBlock with
  | none => rw [hv] at h; simp at h
  | some a => rw [hv] at h; simp at h; rw [h]
end Go.Proofs.YtblkkjfpggcgfaaGreatDoor
