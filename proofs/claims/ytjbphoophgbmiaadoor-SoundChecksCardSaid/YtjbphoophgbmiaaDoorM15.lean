/- The plain law of layer 16: turned about, a hierarchy is true just where it was. Closed questions. -/
import Derived.Test.YtjbphoophgbmiaaDoorM14
import Derived.Test.YtjbphoophgbmiaaDoorM7
import Derived.Test.YtjbphoophgbmiaaDoorM6
import Derived.Deep.RegionHeld3
import Derived.Laws.EntriesVeiled
import Derived.Sort.AtCall
namespace Go.Proofs.YtjbphoophgbmiaaDoor
open Go.ChangeShapes Go.WideShapes Go.ChangeAt Go.RowKit Go.Joins Go.Deep

theorem Wk.cons {W : Nat → List (Nat × Nat)} {r : Int} {u v : Nat} {d : Int} (s : Nat × Nat) (hs : s ∈ W u) (hr : r < s.1) (h : Wk W r s.1 v d) : Wk W r u v (d + s.2) := by
  induction h with
  | nil =>
    have := Wk.snoc s (.nil : Wk W r u u 0) hs hr
    simpa using this
  | snoc t h ht htr ih =>
    have := Wk.snoc t ih ht htr
    rw [show ∀ a b c : Int, a + b + c = a + c + b from fun a b c => by omega]
    exact this
theorem Wk.gt {W : Nat → List (Nat × Nat)} {r : Int} {u v : Nat} {d : Int} (h : Wk W r u v d) (hu : r < u) : r < v := by
  cases h with
  | nil => exact hu
  | snoc s h hs hr => exact hr
theorem Wk.rev {W W' : Nat → List (Nat × Nat)} (hW : ∀ a s, s ∈ W a → (a, s.2) ∈ W' s.1) {r : Int} {u v : Nat} {d : Int} (h : Wk W r u v d) (hu : r < u) : Wk W' r v u d := by
  induction h with
  | nil => exact .nil
  | @snoc a d s h hs hr ih => exact Wk.cons (a, s.2) (hW a s hs) (h.gt hu) ih
theorem web_turn (h : HierD) (a : Nat) (s : Nat × Nat) : s ∈ webD (turnD h) a ↔ (a, s.2) ∈ webD h s.1 := by
  unfold webD
  rw [webTo_mem, webTo_mem]
  simp only [turnD]
  rw [seg_map, seg_map]
  simp only [List.mem_map]
  constructor
  · rintro (⟨h1, l, ⟨m, hm, rfl⟩, rfl⟩ | ⟨h1, l, ⟨m, hm, rfl⟩, rfl, h2⟩)
    · exact .inr ⟨h1, m, hm, rfl, rfl⟩
    · exact .inl ⟨h1, m, hm, by rw [h2]; rfl⟩
  · rintro (⟨h1, m, hm, e⟩ | ⟨h1, m, hm, e1, e2⟩)
    · simp only [Prod.mk.injEq] at e
      exact .inr ⟨h1, _, ⟨m, hm, rfl⟩, e.1, e.2⟩
    · exact .inl ⟨h1, _, ⟨m, hm, rfl⟩, Prod.ext e1 e2⟩
theorem walk_turn {h : HierD} {r : Int} {u v : Nat} {d : Int} (hw : Wk (webD h) r u v d) (hu : r < u) : Wk (webD (turnD h)) r v u d :=
  hw.rev (fun a s hs => (web_turn h s.1 (a, s.2)).2 hs) hu
theorem walk_back {h : HierD} {r : Int} {u v : Nat} {d : Int} (hw : Wk (webD (turnD h)) r u v d) (hu : r < u) : Wk (webD h) r v u d :=
  hw.rev (fun a s hs => (web_turn h a s).1 hs) hu
theorem holds_turn {h : HierD} (hc : checkErr h = .nil) {r : Nat} (hr : r < h.node.length) : HoldsD (turnD h) r ↔ HoldsD h r := by
  have ok := half_up hc
  have okd := half_dn hc
  constructor
  · intro hh a ha b hb hne
    have := hh (turnLink h.up.length h.dn.length b) (by simp only [turnD]; rw [seg_map]; exact List.mem_map_of_mem hb) (turnLink h.up.length h.dn.length a) (by simp only [turnD]; rw [seg_map]; exact List.mem_map_of_mem ha) (fun e => hne e.symm)
    obtain ⟨d, h1, h2⟩ := this
    have hgt := (ok.up r hr b hb).1
    have h2' : d ≤ (b.wt : Int) + (a.wt : Int) := h2
    exact ⟨d, walk_back (u := b.to) h1 (by omega), by omega⟩
  · intro hh a ha b hb hne
    simp only [turnD] at ha hb
    rw [seg_map] at ha hb
    obtain ⟨a0, ha0, rfl⟩ := List.mem_map.1 ha
    obtain ⟨b0, hb0, rfl⟩ := List.mem_map.1 hb
    obtain ⟨d, h1, h2⟩ := hh b0 hb0 a0 ha0 (fun e => hne e.symm)
    have hgt := (okd.up r hr b0 hb0).1
    refine ⟨d, walk_turn (u := b0.to) h1 (by omega), ?_⟩
    show d ≤ (a0.wt : Int) + (b0.wt : Int)
    omega
theorem SCheck.nil_iff {h : HierD} {x : EV} (s : SCheck h x) : x = .nil ↔ (checkErr h = .nil ∧ ∀ r, r < h.node.length → HoldsD h r) := by
  rcases s with ⟨h1, rfl⟩ | ⟨h1, h2, rfl⟩ | ⟨h1, r, h2, h3, h4, rfl⟩
  · exact ⟨fun e => absurd e h1, fun e => e.1⟩
  · exact ⟨fun _ => ⟨h1, h2⟩, fun _ => rfl⟩
  · exact ⟨fun e => (by cases e), fun e => absurd (e.2 r h2) h3⟩
theorem SCheck.turned {h : HierD} {x y : EV} (hc : checkErr h = .nil) (hct : checkErr (turnD h) = .nil) (a : SCheck h x) (b : SCheck (turnD h) y) : x = .nil ↔ y = .nil := by
  rw [a.nil_iff, b.nil_iff]
  constructor
  · rintro ⟨-, hh⟩
    exact ⟨hct, fun r hr => (holds_turn hc hr).2 (hh r hr)⟩
  · rintro ⟨-, hh⟩
    exact ⟨hc, fun r hr => (holds_turn hc hr).1 (hh r hr)⟩
theorem IsS.turned {h : HierD} {r : Int} {s t : Nat} {D E : Nat → Option Int} (a : IsS (webD h) r s D) (b : IsS (webD (turnD h)) r t E) (hs : r < s) (ht : r < t) : D t = E s := by
  cases hD : D t with
  | none =>
    cases hE : E s with
    | none => rfl
    | some e =>
      obtain ⟨d, h1, -⟩ := a.least t e (walk_back (b.walk s e hE) ht)
      rw [hD] at h1; cases h1
  | some d =>
    obtain ⟨e, h1, h2⟩ := b.least s d (walk_turn (a.walk t d hD) hs)
    obtain ⟨d', h3, h4⟩ := a.least t e (walk_back (b.walk s e h1) ht)
    rw [hD] at h3
    simp only [Option.some.injEq] at h3
    rw [h1]
    congr 1
    omega
theorem SAbove.turned {h : HierD} {r s t d d' : Int} {x x' : EV} (hc : checkErr h = .nil) (hct : checkErr (turnD h) = .nil) (a : SAbove h r s t d x) (b : SAbove (turnD h) r t s d' x') : d = d' ∧ (x = .nil ↔ x' = .nil) := by
  have hl : (turnD h).node.length = h.node.length := rfl
  cases a with
  | form e => exact absurd hc e
  | arg e a1 =>
    cases b with
    | form e => exact absurd hct e
    | arg e a2 => exact ⟨rfl, Iff.rfl⟩
    | node e a2 b2 => exact absurd a1 (by rw [hl] at a2; exact a2)
    | walk D d e a2 b2 i f => exact absurd a1 (by rw [hl] at a2; exact a2)
    | none D e a2 b2 i f => exact absurd a1 (by rw [hl] at a2; exact a2)
  | node e a1 b1 =>
    cases b with
    | form e => exact absurd hct e
    | arg e a2 => exact absurd (by rw [hl] at a2; exact a2) a1
    | node e a2 b2 => exact ⟨rfl, Iff.rfl⟩
    | walk D d e a2 b2 i f => rw [hl] at b2; omega
    | none D e a2 b2 i f => rw [hl] at b2; omega
  | walk D d e a1 b1 i f =>
    cases b with
    | form e => exact absurd hct e
    | arg e a2 => exact absurd (by rw [hl] at a2; exact a2) a1
    | node e a2 b2 => rw [hl] at b2; omega
    | walk E d2 e a2 b2 i2 f2 =>
      have := i.turned i2 (by omega) (by omega)
      rw [f, f2] at this
      simp only [Option.some.injEq] at this
      exact ⟨this, Iff.rfl⟩
    | none E e a2 b2 i2 f2 =>
      have := i.turned i2 (by omega) (by omega)
      rw [f, f2] at this
      cases this
  | none D e a1 b1 i f =>
    cases b with
    | form e => exact absurd hct e
    | arg e a2 => exact absurd (by rw [hl] at a2; exact a2) a1
    | node e a2 b2 => rw [hl] at b2; omega
    | walk E d2 e a2 b2 i2 f2 =>
      have := i.turned i2 (by omega) (by omega)
      rw [f, f2] at this
      cases this
    | none E e a2 b2 i2 f2 => exact ⟨rfl, Iff.rfl⟩

/-! ### closed questions -/
def relS (r : Int) (a : Nat) (s : Nat × Nat) (D : Nat → Option Int) : Nat → Option Int :=
  if r < s.1 then (match D a with | some x => (match D s.1 with | some y => if y ≤ x + s.2 then D else updD D s.1 (x + s.2) | none => updD D s.1 (x + s.2)) | none => D) else D
def relAll (W : Nat → List (Nat × Nat)) (r : Int) (n : Nat) (D : Nat → Option Int) : Nat → Option Int := (List.range n).foldl (fun D a => (W a).foldl (fun D s => relS r a s D) D) D
def bfD (W : Nat → List (Nat × Nat)) (r : Int) (n u : Nat) : Nat → Nat → Option Int
  | 0 => startD u
  | k + 1 => relAll W r n (bfD W r n u k)
def chk (W : Nat → List (Nat × Nat)) (r : Int) (n : Nat) (D : Nat → Option Int) : Bool :=
  (List.range n).all fun a => (W a).all fun s => decide (s.1 < n) && (!(decide (r < s.1)) || (match D a with | some x => (match D s.1 with | some y => decide (y ≤ x + s.2) | none => false) | none => true))
structure BfOk (W : Nat → List (Nat × Nat)) (r : Int) (u : Nat) (D : Nat → Option Int) : Prop where
  walk : ∀ v d, D v = some d → Wk W r u v d
  src : ∃ y, D u = some y ∧ y ≤ 0
theorem BfOk.rel {W : Nat → List (Nat × Nat)} {r : Int} {u a : Nat} {s : Nat × Nat} {D : Nat → Option Int} (h : BfOk W r u D) (hs : s ∈ W a) : BfOk W r u (relS r a s D) := by
  have upd : ∀ x, D a = some x → r < s.1 → (∀ y, D s.1 = some y → ¬ y ≤ x + s.2) → BfOk W r u (updD D s.1 (x + s.2)) := by
    intro x hx hr hy
    refine ⟨fun v d hv => ?_, ?_⟩
    · unfold updD at hv
      split at hv
      · rename_i e
        subst e
        simp only [Option.some.injEq] at hv
        subst hv
        exact (h.walk a x hx).snoc s hs hr
      · exact h.walk v d hv
    · obtain ⟨y, h1, h2⟩ := h.src
      by_cases e : u = s.1
      · refine ⟨x + s.2, by unfold updD; rw [if_pos e], ?_⟩
        have := hy y (by rw [← e]; exact h1)
        omega
      · exact ⟨y, by unfold updD; rw [if_neg e]; exact h1, h2⟩
  unfold relS
  split
  · rename_i hr
    cases hx : D a with
    | none => exact h
    | some x =>
      cases hy : D s.1 with
      | none => exact upd x hx hr (fun y e => by rw [hy] at e; cases e)
      | some y =>
        simp only
        split
        · exact h
        · rename_i hn
          exact upd x hx hr (fun y' e => by rw [hy] at e; simp only [Option.some.injEq] at e; subst e; exact hn)
  · exact h
theorem BfOk.fold {W : Nat → List (Nat × Nat)} {r : Int} {u a : Nat} : ∀ (l : List (Nat × Nat)) (D : Nat → Option Int), (∀ s ∈ l, s ∈ W a) → BfOk W r u D → BfOk W r u (l.foldl (fun D s => relS r a s D) D) := by
  intro l
  induction l with
  | nil => intro D _ h; exact h
  | cons s l ih => intro D hl h; exact ih _ (fun t ht => hl t (List.mem_cons_of_mem _ ht)) (h.rel (hl s (List.mem_cons_self ..)))
theorem BfOk.all {W : Nat → List (Nat × Nat)} {r : Int} {u : Nat} : ∀ (l : List Nat) (D : Nat → Option Int), BfOk W r u D → BfOk W r u (l.foldl (fun D a => (W a).foldl (fun D s => relS r a s D) D) D) := by
  intro l
  induction l with
  | nil => intro D h; exact h
  | cons a l ih => intro D h; exact ih _ (BfOk.fold _ _ (fun s hs => hs) h)
theorem bf_ok (W : Nat → List (Nat × Nat)) (r : Int) (n u : Nat) : ∀ k, BfOk W r u (bfD W r n u k) := by
  intro k
  induction k with
  | zero =>
    refine ⟨fun v d h => ?_, 0, by simp [bfD, startD], by omega⟩
    simp only [bfD, startD] at h
    split at h
    · rename_i e; subst e; simp only [Option.some.injEq] at h; subst h; exact .nil
    · cases h
  | succ k ih => exact BfOk.all _ _ ih
theorem bf_isS {W : Nat → List (Nat × Nat)} {r : Int} {n u k : Nat} (hu : u < n) (hc : chk W r n (bfD W r n u k) = true) : IsS W r u (bfD W r n u k) := by
  have ok := bf_ok W r n u k
  refine ⟨ok.walk, fun v d' hw => ?_⟩
  have key : v < n ∧ ∃ y, bfD W r n u k v = some y ∧ y ≤ d' := by
    induction hw with
    | nil => exact ⟨hu, ok.src⟩
    | snoc s hw hs hr ih =>
      obtain ⟨ha, x, hx, hxd⟩ := ih
      unfold chk at hc
      rw [List.all_eq_true] at hc
      have h1 := hc _ (List.mem_range.2 ha)
      rw [List.all_eq_true] at h1
      have h2 := h1 s hs
      simp only [Bool.and_eq_true, decide_eq_true_eq, Bool.or_eq_true, Bool.not_eq_true', decide_eq_false_iff_not] at h2
      refine ⟨h2.1, ?_⟩
      rcases h2.2 with h3 | h3
      · exact absurd hr h3
      · rw [hx] at h3
        cases hy : bfD W r n u k s.1 with
        | none => rw [hy] at h3; simp at h3
        | some y =>
          rw [hy] at h3
          simp only [decide_eq_true_eq] at h3
          exact ⟨y, rfl, by omega⟩
  exact key.2
/-- What is answered, reckoned. -/
theorem SAbove.is {h : HierD} {r s t d : Int} {x : EV} (k : Nat) (hc : checkErr h = .nil) (ha : ¬ (r < -1 ∨ (h.node.length : Int) ≤ r)) (hb : ¬ ((s ≤ r ∨ (h.node.length : Int) ≤ s) ∨ t ≤ r ∨ (h.node.length : Int) ≤ t))
    (hk : chk (webD h) r h.node.length (bfD (webD h) r h.node.length s.toNat k) = true) (a : SAbove h r s t d x) :
    (match bfD (webD h) r h.node.length s.toNat k t.toNat with | Option.some e => (e, EV.nil) | Option.none => (0, EV.code 16)) = (d, x) := by
  have hi := bf_isS (by omega) hk
  cases a with
  | form e => exact absurd hc e
  | arg e a1 => exact absurd a1 ha
  | node e a1 b1 => exact absurd b1 hb
  | walk D d e a1 b1 i f => rw [hi.unique i, f]
  | none D e a1 b1 i f => rw [hi.unique i, f]
def halfD : HierD := ⟨[1, 0, 2], [0, 1, 1, 1], [⟨2, 1, 4294967295, 4294967295⟩], [0, 1, 1, 1], [⟨1, 4, 4294967295, 4294967295⟩]⟩
theorem half_form : checkErr halfD = .nil := by decide +kernel
theorem above_three {d : Int} {x : EV} (a : SAbove threeD 0 1 2 d x) : d = 5 ∧ x = .nil := by
  have h := a.is 3 three_form (by decide +kernel) (by decide +kernel) (by decide +kernel)
  rw [show (match bfD (webD threeD) 0 threeD.node.length (1 : Int).toNat 3 (2 : Int).toNat with | some e => (e, EV.nil) | none => (0, .code 16)) = ((5 : Int), EV.nil) from by decide +kernel] at h
  simp only [Prod.mk.injEq] at h
  exact ⟨h.1.symm, h.2.symm⟩
theorem holds_empty {h : HierD} {r : Nat} (hd : seg h.dnF h.dn r = []) : HoldsD h r := fun a ha => by rw [hd] at ha; simp at ha
theorem three_true {x : EV} (a : SCheck threeD x) : x = .nil := by
  rw [a.nil_iff]
  refine ⟨three_form, fun r hr => ?_⟩
  have hr' : r < 3 := hr
  rcases r with - | r
  · intro a ha b hb _
    have e1 : seg threeD.dnF threeD.dn 0 = [⟨1, 4, 4294967295, 4294967295⟩] := by decide +kernel
    have e2 : seg threeD.upF threeD.up 0 = [⟨2, 1, 4294967295, 4294967295⟩] := by decide +kernel
    rw [e1] at ha
    rw [e2] at hb
    simp only [List.mem_singleton] at ha hb
    subst ha hb
    refine ⟨5, ?_, by simp⟩
    have hm : (2, 5) ∈ webD threeD 1 := by decide +kernel
    have := Wk.snoc (W := webD threeD) (r := ((0 : Nat) : Int)) (u := 1) (2, 5) .nil hm (by simp)
    simpa using this
  · refine holds_empty ?_
    rcases r with - | r
    · decide +kernel
    · obtain rfl : r = 0 := by omega
      decide +kernel
theorem half_false {x : EV} (a : SCheck halfD x) : x = .at 3 0 15 := by
  have hno : ¬ HoldsD halfD 0 := by
    intro hh
    have e1 : (⟨1, 4, 4294967295, 4294967295⟩ : LinkD) ∈ seg halfD.dnF halfD.dn 0 := by rw [show seg halfD.dnF halfD.dn 0 = [⟨1, 4, 4294967295, 4294967295⟩] from by decide +kernel]; simp
    have e2 : (⟨2, 1, 4294967295, 4294967295⟩ : LinkD) ∈ seg halfD.upF halfD.up 0 := by rw [show seg halfD.upF halfD.up 0 = [⟨2, 1, 4294967295, 4294967295⟩] from by decide +kernel]; simp
    obtain ⟨d, h1, -⟩ := hh _ e1 _ e2 (by simp)
    have hi := bf_isS (W := webD halfD) (r := ((0 : Nat) : Int)) (n := 3) (u := 1) (k := 3) (by omega) (by decide +kernel)
    obtain ⟨y, h2, -⟩ := hi.least 2 d h1
    rw [show bfD (webD halfD) ((0 : Nat) : Int) 3 1 3 2 = none from by decide +kernel] at h2
    cases h2
  rcases a with ⟨h1, -⟩ | ⟨h1, h2, -⟩ | ⟨h1, r, h2, h3, h4, rfl⟩
  · exact absurd half_form h1
  · exact absurd (h2 0 (by decide)) hno
  · rcases Nat.eq_zero_or_pos r with e | e
    · subst e; rfl
    · exact absurd (h4 0 e) hno
end Go.Proofs.YtjbphoophgbmiaaDoor

/- The laws of layer 16: half, awake, few. -/
namespace Go.Proofs.YtjbphoophgbmiaaDoor
open Go.ChangeShapes Go.WideShapes Go.ChangeAt Go.RowKit Go.Joins Go.Deep

theorem run_sub_to {P : Program} (t e : TypeId) (sz : Nat) (ht : P.underlying t = some (.slice e)) (hs : ∀ w, (sizeOf e).run P w = .ok sz w) (ao : Option Addr) (n cap hi : Nat) (kh : IntKind) (h2 : hi ≤ cap) (w : World) :
    (Instr.slice t (.slice ao n cap) none (some (.int kh (hi : Int))) none).run P w = .ok (.slice (slBase ao 0 cap sz) hi cap) w := by
  have he : P.elem t = e := by simp [Program.elem, ht]
  have h := run_slice_h (P := P) (w := w) t ao n cap (by rw [ht, he]) kh (hi : Int) (by omega) (by omega)
  rw [h, he, hs]
  simp [Result.andThen, sliced, slBase]
def HierSee (h : HierD) (w : World) (e : Ending) (w' : World) : Prop := ∃ A, e = .returned (hierVal A h) ∧ HSee w' A h ∧ Below w.heap.size w w'
set_option linter.unusedSimpArgs false in
set_option maxRecDepth 100000 in
set_option maxHeartbeats 8000000 in
theorem few_any (A : HA) (h : HierD) (w : World) : Calls Tryd.prog 13 #[hierVal A h] w (BoolNew w) := by
  have HX := Lib.hid (Cells.new w 25 (hierCells A h))
  have HB := Lib.hid ((Below.refl w.heap.size w).alloc (Nat.le_refl _) (.cells (hierCells A h).toArray 25))
  obtain ⟨k0, k1, k2, k3, k4⟩ := hier_five HX.out
  unfold hierVal
  by_cases hf : h.node.length ≤ 14
  · have d1 : decide (h.node.length ≤ 14) = true := by simpa using hf
    have d2 : decide ((h.node.length : Int) ≤ 14) = true := by simp; omega
    clear hf
    go_enter Tryd.func13, Tryd.ntmps13
    go_wp2_with fail
    refine (count_any A h _).mono ?_
    rintro e w1 ⟨c, rfl, -, hb⟩
    have HB1 := Lib.hid (HB.out.trans (hb.mono HB.out.size))
    clear hb k0 k1 k2 k3 k4
    go_wp2
    go_returns
    exact ⟨_, rfl, HB1.out⟩
  · have d1 : decide (h.node.length ≤ 14) = false := by simpa using hf
    have d2 : decide ((h.node.length : Int) ≤ 14) = false := by simp; omega
    clear hf
    go_enter Tryd.func13, Tryd.ntmps13
    go_wp2
    go_returns
    exact ⟨_, rfl, HB.out⟩
theorem See.ne_block {α : Type} {w : World} {ao : Option Addr} {cap sz B : Nat} {f : α → List Value} {l : List α} {t : TypeId} {L : List Value} (see : See w ao cap f sz l) {x : α} (hx : l[0]? = some x) {u : Value} (hu : (f x)[0]? = some u) (hc : Cells w B t L) (hL : ∀ v ∈ L, v ≠ u) : ∀ b off, ao = some ⟨b, off, none⟩ → b ≠ B := by
  rintro b off e rfl
  obtain ⟨b', off', e', hcell⟩ := see.cell 0 x hx
  rw [e] at e'
  simp only [Option.some.injEq, Addr.mk.injEq, and_true] at e'
  obtain ⟨rfl, rfl⟩ := e'
  have h1 := hcell 0 u hu
  rw [cell_of_row w b _ L.toArray t (0, 0) hc] at h1
  have h2 : u ∈ L := List.mem_of_getElem? (by simpa using h1)
  exact hL u h2 rfl
set_option linter.unusedSimpArgs false in
set_option maxRecDepth 100000 in
set_option maxHeartbeats 8000000 in
theorem half_any (w : World) : Calls Tryd.prog 40 #[] w (HierSee halfD w) := by
  have hz := Cells.new w 25 [.slice none 0 0, .slice none 0 0, .slice none 0 0, .slice none 0 0, .slice none 0 0]
  have HZ := Lib.hid hz
  have HB := Lib.hid ((Below.refl w.heap.size w).alloc (Nat.le_refl _) (.cells #[.slice none 0 0, .slice none 0 0, .slice none 0 0, .slice none 0 0, .slice none 0 0] 25))
  clear hz
  go_enter Tryd.func40, Tryd.ntmps40
  apply wp_seq_k
  intro K0 hK
  have HK0 := Lib.hid hK
  clear hK
  go_wp2_with fail
  refine HK0.out _ _ ?_
  clear HK0
  apply wp_seq_k
  intro K1 hK
  have HK1 := Lib.hid hK
  clear hK
  go_wp2_with fail
  refine (three_any _).mono ?_
  rintro e w1 ⟨A, rfl, see, -, hb⟩
  have HS := Lib.hid see
  have hc2 : 2 ≤ A.c2 := see.up.hcap
  have HZ1 := Lib.hid ((HZ.out.below hb HZ.out.lt).alloc (.cells (hierCells A threeD).toArray 25))
  have HX1 := Lib.hid (Cells.new w1 25 (hierCells A threeD))
  have HB1 := Lib.hid ((HB.out.trans (hb.mono HB.out.size)).alloc (HB.out.trans (hb.mono HB.out.size)).size (.cells (hierCells A threeD).toArray 25))
  have HO1 := Lib.hid ((Below.refl w1.heap.size w1).alloc (Nat.le_refl _) (.cells (hierCells A threeD).toArray 25))
  have lz : w.heap.size < w1.heap.size := by have := hb.size; simp at this; omega
  clear see hb HZ HB
  unfold hierVal
  go_wp2_with fail
  obtain ⟨wx, hwx⟩ : ∃ wx, w1.alloc (.cells (hierCells A threeD).toArray 25) = wx := ⟨_, rfl⟩
  have hz1 := HZ1.out
  have hx1 := HX1.out
  have hb1 := HB1.out
  have ho1 := HO1.out
  rw [hwx] at hz1 hx1 hb1 ho1
  try rw [show w1.alloc (.cells #[.slice A.a0 threeD.node.length A.c0, .slice A.a1 threeD.upF.length A.c1, .slice A.a2 threeD.up.length A.c2, .slice A.a3 threeD.dnF.length A.c3, .slice A.a4 threeD.dn.length A.c4] 25) = wx from hwx]
  refine HK1.out _ _ ?_
  obtain ⟨bX, hbX⟩ : ∃ bX, w1.heap.size = bX := ⟨_, rfl⟩
  rw [hbX] at hx1 lz ⊢
  have hsl : ∀ W, (Instr.slice 23 (.slice A.a2 threeD.up.length A.c2) none (some (.int .i64 1)) none).run Tryd.prog W = .ok (.slice (slBase A.a2 0 A.c2 4) 1 A.c2) W := fun W => run_sub_to (P := Tryd.prog) 23 39 4 Tryd.underlying23 Tryd.sizeLink A.a2 threeD.up.length A.c2 1 .i64 (by omega) W
  obtain ⟨k0, k1, k2, k3, k4⟩ := hier_five hx1
  have g0 := hx1.frozen 1
  have g1 := hx1.frozen 2
  have lx := hx1.lt
  have z0 : wx.cell? ⟨w.heap.size, 0, none⟩ = some (.slice none 0 0) := hz1.cell rfl
  have z1 : wx.cell? ⟨w.heap.size, 1, none⟩ = some (.slice none 0 0) := hz1.cell rfl
  have z2 : wx.cell? ⟨w.heap.size, 2, none⟩ = some (.slice none 0 0) := hz1.cell rfl
  have z3 : wx.cell? ⟨w.heap.size, 3, none⟩ = some (.slice none 0 0) := hz1.cell rfl
  have z4 : wx.cell? ⟨w.heap.size, 4, none⟩ = some (.slice none 0 0) := hz1.cell rfl
  have f0 := hz1.frozen 0
  have f1 := hz1.frozen 1
  have f2 := hz1.frozen 2
  have f3 := hz1.frozen 3
  have f4 := hz1.frozen 4
  have lzz := hz1.lt
  have lbx := hx1.lt
  have q1 : ¬ w.heap.size = bX := by omega
  have q2 : ¬ bX = w.heap.size := by omega
  have HZX := Lib.hid hz1
  have HBX := Lib.hid hb1
  have HXX := Lib.hid hx1
  have HOX := Lib.hid ho1
  clear HK1 hx1 hz1 hb1 ho1 hwx HZ1 HX1 HB1 HO1 hc2
  apply wp_seq_k
  intro K2 hK
  have HK2 := Lib.hid hK
  clear hK
  go_wp2_with fail
  have hx2 := (HXX.out.set 1 (.slice (some ⟨wx.heap.size, 0, none⟩) 4 4)).alloc (.cells #[.int .u32 0, .int .u32 1, .int .u32 1, .int .u32 1] 36)
  have hz2 := (HZX.out.other (a := ⟨bX, 1, none⟩) q1 (.slice (some ⟨wx.heap.size, 0, none⟩) 4 4)).alloc (.cells #[.int .u32 0, .int .u32 1, .int .u32 1, .int .u32 1] 36)
  have hl2 : Cells ((wx.setCell ⟨bX, 1, none⟩ (.slice (some ⟨wx.heap.size, 0, none⟩) 4 4)).alloc (.cells #[.int .u32 0, .int .u32 1, .int .u32 1, .int .u32 1] 36)) wx.heap.size 36 [.int .u32 0, .int .u32 1, .int .u32 1, .int .u32 1] := cells_at (by simp) _ _
  have hb2 := (HBX.out.setCell (p := ⟨bX, 1, none⟩) (Nat.le_of_lt lz) (.slice (some ⟨wx.heap.size, 0, none⟩) 4 4)).alloc (by simp; exact HBX.out.size) (.cells #[.int .u32 0, .int .u32 1, .int .u32 1, .int .u32 1] 36)
  have ho2 := (HOX.out.setCell (p := ⟨bX, 1, none⟩) (Nat.le_of_eq hbX) (.slice (some ⟨wx.heap.size, 0, none⟩) 4 4)).alloc (by simp; exact HOX.out.size) (.cells #[.int .u32 0, .int .u32 1, .int .u32 1, .int .u32 1] 36)
  obtain ⟨w2, hw2⟩ : ∃ w2, (wx.setCell ⟨bX, 1, none⟩ (.slice (some ⟨wx.heap.size, 0, none⟩) 4 4)).alloc (.cells #[.int .u32 0, .int .u32 1, .int .u32 1, .int .u32 1] 36) = w2 := ⟨_, rfl⟩
  rw [hw2] at hx2 hz2 hl2 hb2 ho2 ⊢
  have HX2 := Lib.hid hx2
  have HZ2 := Lib.hid hz2
  have HL2 := Lib.hid hl2
  have HB2 := Lib.hid hb2
  have HO2 := Lib.hid ho2
  clear k0 k1 k2 k3 k4 g0 g1 lx z0 z1 z2 z3 z4 f0 f1 f2 f3 f4 lzz HXX HZX HBX HOX hw2
  refine HK2.out _ _ ?_
  clear HK2
  apply wp_seq_k
  intro K3 hK
  have HK3 := Lib.hid hK
  clear hK
  have k2 : w2.cell? ⟨bX, 2, none⟩ = some (.slice A.a2 threeD.up.length A.c2) := hx2.cell rfl
  have g1 := hx2.frozen 2
  have lx := hx2.lt
  clear hx2 hz2 hl2 hb2 ho2
  go_wp2_with fail
  have hx3 := HX2.out.set 2 (.slice (slBase A.a2 0 A.c2 4) 1 A.c2)
  have hz3 := HZ2.out.other (a := ⟨bX, 2, none⟩) q1 (.slice (slBase A.a2 0 A.c2 4) 1 A.c2)
  have hl3 := HL2.out.other (a := ⟨bX, 2, none⟩) (by show wx.heap.size ≠ bX; omega) (.slice (slBase A.a2 0 A.c2 4) 1 A.c2)
  have hb3 := HB2.out.setCell (p := ⟨bX, 2, none⟩) (Nat.le_of_lt lz) (.slice (slBase A.a2 0 A.c2 4) 1 A.c2)
  have ho3 := HO2.out.setCell (p := ⟨bX, 2, none⟩) (Nat.le_of_eq hbX) (.slice (slBase A.a2 0 A.c2 4) 1 A.c2)
  obtain ⟨w3, hw3⟩ : ∃ w3, w2.setCell ⟨bX, 2, none⟩ (.slice (slBase A.a2 0 A.c2 4) 1 A.c2) = w3 := ⟨_, rfl⟩
  rw [hw3] at hx3 hz3 hl3 hb3 ho3 ⊢
  have HX3 := Lib.hid hx3
  have HZ3 := Lib.hid hz3
  have HL3 := Lib.hid hl3
  have HB3 := Lib.hid hb3
  have HO3 := Lib.hid ho3
  clear k2 g1 lx HX2 HZ2 HL2 HB2 HO2 hw3 hsl
  refine HK3.out _ _ ?_
  clear HK3
  have x0 : w3.cell? ⟨bX, 0, none⟩ = some (.slice A.a0 threeD.node.length A.c0) := hx3.cell rfl
  have x1 : w3.cell? ⟨bX, 1, none⟩ = some (.slice (some ⟨wx.heap.size, 0, none⟩) 4 4) := hx3.cell rfl
  have x2 : w3.cell? ⟨bX, 2, none⟩ = some (.slice (slBase A.a2 0 A.c2 4) 1 A.c2) := hx3.cell rfl
  have x3 : w3.cell? ⟨bX, 3, none⟩ = some (.slice A.a3 threeD.dnF.length A.c3) := hx3.cell rfl
  have x4 : w3.cell? ⟨bX, 4, none⟩ = some (.slice A.a4 threeD.dn.length A.c4) := hx3.cell rfl
  have z0 : w3.cell? ⟨w.heap.size, 0, none⟩ = some (.slice none 0 0) := hz3.cell rfl
  have f0 := hz3.frozen 0
  have z1 : w3.cell? ⟨w.heap.size, 1, none⟩ = some (.slice none 0 0) := hz3.cell rfl
  have f1 := hz3.frozen 1
  have z2 : w3.cell? ⟨w.heap.size, 2, none⟩ = some (.slice none 0 0) := hz3.cell rfl
  have f2 := hz3.frozen 2
  have z3 : w3.cell? ⟨w.heap.size, 3, none⟩ = some (.slice none 0 0) := hz3.cell rfl
  have f3 := hz3.frozen 3
  have z4 : w3.cell? ⟨w.heap.size, 4, none⟩ = some (.slice none 0 0) := hz3.cell rfl
  have f4 := hz3.frozen 4
  have lzz := hz3.lt
  have lx := hx3.lt
  clear hx3 hz3 hl3 hb3 ho3
  go_wp2
  have hsz5 : (Tryd.prog.info? 25).map (·.size) = some 5 := by kernel_rfl
  refine bodyPost_ret (results_c rfl _ _ w.heap.size 25 [.slice A.a0 threeD.node.length A.c0, .slice (some ⟨wx.heap.size, 0, none⟩) 4 4, .slice (slBase A.a2 0 A.c2 4) 1 A.c2, .slice A.a3 threeD.dnF.length A.c3, .slice A.a4 threeD.dn.length A.c4] _ rfl (((((HZ3.out.set 0 _).set 1 _).set 2 _).set 3 _).set 4 _) Tryd.underlying25 rfl (by rw [hsz5]; rfl)) rfl ?_
  have hs3 := HS.out.below HO3.out
  have hup := hs3.up.sub 0 1 (by decide)
  have hz := HZ3.out
  have hne : ∀ v ∈ ([.slice none 0 0, .slice none 0 0, .slice none 0 0, .slice none 0 0, .slice none 0 0] : List Value), ∀ k n, v ≠ .int k n := by
    intro v hv k n
    simp only [List.mem_cons, List.not_mem_nil, or_false] at hv
    rcases hv with rfl | rfl | rfl | rfl | rfl <;> simp
  have hl := See.of_cells (l := halfD.upF) u32Cells_len HL3.out (by decide)
  have n0 := hs3.node.ne_block (x := 1) rfl (u := .int .u32 1) rfl hz (fun v hv => hne v hv _ _)
  have n1 := hl.ne_block (x := 0) rfl (u := .int .u32 0) rfl hz (fun v hv => hne v hv _ _)
  have n2 := hup.ne_block (x := ⟨2, 1, 4294967295, 4294967295⟩) rfl (u := .int .u32 2) rfl hz (fun v hv => hne v hv _ _)
  have n3 := hs3.dnF.ne_block (x := 0) rfl (u := .int .u32 0) rfl hz (fun v hv => hne v hv _ _)
  have n4 := hs3.dn.ne_block (x := ⟨1, 4, 4294967295, 4294967295⟩) rfl (u := .int .u32 1) rfl hz (fun v hv => hne v hv _ _)
  have ho : ∀ v0 v1 v2 v3 v4, Only [w.heap.size] w3 (((((w3.setCell ⟨w.heap.size, 0, none⟩ v0).setCell ⟨w.heap.size, 1, none⟩ v1).setCell ⟨w.heap.size, 2, none⟩ v2).setCell ⟨w.heap.size, 3, none⟩ v3).setCell ⟨w.heap.size, 4, none⟩ v4) := fun v0 v1 v2 v3 v4 =>
    (((((Only.refl [w.heap.size] w3).setCell (p := ⟨w.heap.size, 0, none⟩) (.inl (by simp)) v0).setCell (p := ⟨w.heap.size, 1, none⟩) (.inl (by simp)) v1).setCell (p := ⟨w.heap.size, 2, none⟩) (.inl (by simp)) v2).setCell (p := ⟨w.heap.size, 3, none⟩) (.inl (by simp)) v3).setCell (p := ⟨w.heap.size, 4, none⟩) (.inl (by simp)) v4
  have nm : ∀ {ao : Option Addr}, (∀ b off, ao = some ⟨b, off, none⟩ → b ≠ w.heap.size) → ∀ b off, ao = some ⟨b, off, none⟩ → b ∉ [w.heap.size] := fun h b off e hm => h b off e (by simpa using hm)
  exact ⟨⟨A.a0, some ⟨wx.heap.size, 0, none⟩, slBase A.a2 0 A.c2 4, A.a3, A.a4, A.c0, 4, A.c2, A.c3, A.c4⟩, rfl,
    ⟨hs3.node.kept (ho _ _ _ _ _) (nm n0), hl.kept (ho _ _ _ _ _) (nm n1), hup.kept (ho _ _ _ _ _) (nm n2), hs3.dnF.kept (ho _ _ _ _ _) (nm n3), hs3.dn.kept (ho _ _ _ _ _) (nm n4), by decide, by decide, by decide, fun l hl => hs3.bup l (by simp only [halfD, List.mem_singleton] at hl; subst hl; simp [threeD]), hs3.bdn⟩,
    ((((HB3.out.setCell (p := ⟨w.heap.size, 0, none⟩) (Nat.le_refl _) _).setCell (p := ⟨w.heap.size, 1, none⟩) (Nat.le_refl _) _).setCell (p := ⟨w.heap.size, 2, none⟩) (Nat.le_refl _) _).setCell (p := ⟨w.heap.size, 3, none⟩) (Nat.le_refl _) _).setCell (p := ⟨w.heap.size, 4, none⟩) (Nat.le_refl _) _⟩
set_option linter.unusedSimpArgs false in
set_option maxRecDepth 100000 in
set_option maxHeartbeats 8000000 in
theorem awake16_any (w : World) (hg : EVar w) : Calls Tryd.prog 12 #[] w (BoolIs true w) := by
  have HG := Lib.hid hg
  have HB0 := Lib.hid (Below.refl w.heap.size w)
  clear hg
  go_enter Tryd.func12, Tryd.ntmps12
  go_wp2_with fail
  refine (three_any _).mono ?_
  rintro e w1 ⟨A1, rfl, s1, -, hb⟩
  have HB1 := Lib.hid (HB0.out.trans (hb.mono HB0.out.size))
  have S1 := Lib.hid s1
  clear hb s1 HB0
  go_wp2_with fail
  refine (above_any A1 threeD 0 1 2 _ S1.out).mono ?_
  rintro e w2 ⟨d, v, x, rfl, hv, hm, hb⟩
  obtain ⟨rfl, rfl⟩ := above_three hm
  obtain rfl := hv.nilv rfl
  have HB2 := Lib.hid (HB1.out.trans (hb.mono HB1.out.size))
  clear hb hv hm S1 HB1
  go_wp2_with fail
  refine (three_any _).mono ?_
  rintro e w3 ⟨A2, rfl, s2, -, hb⟩
  have HB3 := Lib.hid (HB2.out.trans (hb.mono HB2.out.size))
  have S2 := Lib.hid s2
  clear hb s2 HB2
  go_wp2_with fail
  refine (scheck_any A2 threeD _ S2.out).mono ?_
  rintro e w4 ⟨v, x, rfl, hv, hm, hb⟩
  obtain rfl := three_true hm
  obtain rfl := hv.nilv rfl
  have HB4 := Lib.hid (HB3.out.trans (hb.mono HB3.out.size))
  clear hb hv hm S2 HB3
  go_wp2_with fail
  refine (half_any _).mono ?_
  rintro e w5 ⟨A3, rfl, s3, hb⟩
  have HB5 := Lib.hid (HB4.out.trans (hb.mono HB4.out.size))
  have S3 := Lib.hid s3
  clear hb s3 HB4
  go_wp2_with fail
  refine (scheck_any A3 halfD _ S3.out).mono ?_
  rintro e w6 ⟨v, x, rfl, hv, hm, hb⟩
  obtain rfl := half_false hm
  have HB6 := Lib.hid (HB5.out.trans (hb.mono HB5.out.size))
  have HV6 := Lib.hid hv
  clear hb hv hm S3 HB5
  go_wp2_with fail
  refine (e_any 15 _).mono ?_
  rintro e w7 ⟨u, rfl, hu, hb⟩
  obtain rfl : u = _ := hu
  have HB7 := Lib.hid (HB6.out.trans (hb.mono HB6.out.size))
  have HV7 := Lib.hid (HV6.out.below hb)
  clear hb HB6 HV6
  go_wp2_with fail
  refine (rat_any 3 0 15 _).mono ?_
  rintro e w8 ⟨u, rfl, hu, hb⟩
  have HB8 := Lib.hid (HB7.out.trans (hb.mono HB7.out.size))
  have HV8 := Lib.hid (HV7.out.below hb)
  have HU8 := Lib.hid hu
  clear hb HB7 HV7 hu
  go_wp2_with fail
  refine (same_any (.at 3 0 15) v u _ ⟨by omega, by omega⟩ (HG.out.below HB8.out) HV8.out HU8.out).mono ?_
  rintro e w9 ⟨rfl, hb⟩
  have HB9 := Lib.hid (HB8.out.trans (hb.mono HB8.out.size))
  clear hb HB8
  go_wp2
  go_returns
  exact ⟨rfl, HB9.out⟩
end Go.Proofs.YtjbphoophgbmiaaDoor

/- The contract of hier's Turn. -/
namespace Go.Proofs.YtjbphoophgbmiaaDoor
open Go.ChangeShapes Go.WideShapes Go.ChangeAt Go.RowKit Go.Joins Go.Deep

def zeroHier : Value := .agg #[.slice none 0 0, .slice none 0 0, .slice none 0 0, .slice none 0 0, .slice none 0 0]
def TurnPost (h : HierD) (w : World) (e : Ending) (w' : World) : Prop :=
  (∃ v, e = .returned (.tuple #[zeroHier, v]) ∧ ErrIs w' v (checkErr h) ∧ checkErr h ≠ .nil ∧ Below w.heap.size w w') ∨
  (∃ A', e = .returned (.tuple #[hierVal A' (turnD h), .nilIface]) ∧ checkErr h = .nil ∧ HSee w' A' (turnD h) ∧ HForm A' ∧ Below w.heap.size w w')
theorem Tryd.sizeHier : (Tryd.prog.info? 25).map (·.size) = some 5 := by kernel_rfl
theorem turnLink_ok {ups downs : Nat} {l : LinkD} (h : l.ok) (hud : ups + downs ≤ 1048576) : (turnLink ups downs l).ok := by
  obtain ⟨h1, h2, h3, h4⟩ := h
  refine ⟨h1, h2, ?_, ?_⟩
  · simp only [turnLink, childOf]; split <;> (try split) <;> omega
  · simp only [turnLink, childOf]; split <;> (try split) <;> omega

/-- What lies there when the hierarchy has been turned about. -/
theorem turn_end {A : HA} {w0 : World} (h : HierD) (B : Nat) (see : HSee w0 A h) (htot : h.up.length + h.dn.length ≤ 1048576) {wz wm wn wp wq wr : World} {am an ap aq ar : Option Addr} {cm cn cp cq cr : Nat} (lk : B < wz.heap.size)
    (sm : See wm am cm u32Cells 1 h.node) (gm : SForm am cm ∧ ∀ b o, am = some ⟨b, o, none⟩ → wz.drew.heap.size ≤ b) (lm : B < wm.heap.size)
    (sn : See wn an cn u32Cells 1 h.dnF) (gn : SForm an cn ∧ ∀ b o, an = some ⟨b, o, none⟩ → wm.heap.size ≤ b) (ln : B < wn.heap.size)
    (sp : wp.ownsRow 0 39 4 (.slice ap (h.dn.map (turnLink h.up.length h.dn.length)).length cp) (h.dn.map (turnLink h.up.length h.dn.length)).length ((h.dn.map (turnLink h.up.length h.dn.length)).flatMap linkCells))
    (gp : ∀ k, (Value.slice ap (h.dn.map (turnLink h.up.length h.dn.length)).length cp).ownBlock = some k → wn.heap.size ≤ k) (lp : B < wp.heap.size)
    (sq : See wq aq cq u32Cells 1 h.upF) (gq : SForm aq cq ∧ ∀ b o, aq = some ⟨b, o, none⟩ → wp.heap.size ≤ b) (lq : B < wq.heap.size)
    (sr : wr.ownsRow 0 39 4 (.slice ar (h.up.map (turnLink h.up.length h.dn.length)).length cr) (h.up.map (turnLink h.up.length h.dn.length)).length ((h.up.map (turnLink h.up.length h.dn.length)).flatMap linkCells))
    (gr : ∀ k, (Value.slice ar (h.up.map (turnLink h.up.length h.dn.length)).length cr).ownBlock = some k → wq.heap.size ≤ k)
    (bn : Below wm.heap.size wm wn) (bp : Below wn.heap.size wn wp) (bq : Below wp.heap.size wp wq) (br : Below wq.heap.size wq wr) (wf : World) (ho : Only [B] wr wf) :
    HSee wf ⟨am, an, ap, aq, ar, cm, cn, cp, cq, cr⟩ (turnD h) ∧ HForm ⟨am, an, ap, aq, ar, cm, cn, cp, cq, cr⟩ := by
  have p := (See.of_own linkCells_len sp (by omega)).1
  have r := (See.of_own linkCells_len sr (by omega)).1
  have lk' : B < wz.drew.heap.size := lk
  refine ⟨⟨?_, ?_, ?_, ?_, ?_, see.bn, see.bd, see.bu, ?_, ?_⟩, gm.1, gn.1, own_form2 sp, gq.1, own_form2 sr⟩
  · refine ((((sm.below bn).below bp).below bq).below br).kept ho (fun b off e => ?_)
    have := gm.2 b off e
    simp only [List.mem_singleton]
    omega
  · refine (((sn.below bp).below bq).below br).kept ho (fun b off e => ?_)
    have := gn.2 b off e
    simp only [List.mem_singleton]
    omega
  · refine ((p.below bq).below br).kept ho (fun b off e => ?_)
    subst e
    have := gp b rfl
    simp only [List.mem_singleton]
    omega
  · refine (sq.below br).kept ho (fun b off e => ?_)
    have := gq.2 b off e
    simp only [List.mem_singleton]
    omega
  · refine r.kept ho (fun b off e => ?_)
    subst e
    have := gr b rfl
    simp only [List.mem_singleton]
    omega
  · intro l hl
    simp only [turnD, List.mem_map] at hl
    obtain ⟨x, hx, rfl⟩ := hl
    exact turnLink_ok (see.bdn x hx) htot
  · intro l hl
    simp only [turnD, List.mem_map] at hl
    obtain ⟨x, hx, rfl⟩ := hl
    exact turnLink_ok (see.bup x hx) htot

/-- An error stays while another block is written. -/
theorem ErrIs.setH {w : World} {v : Value} {x : EV} {B o : Nat} {l : List Value} {a : Value} (h : ErrIs w v x) (hc : Cells w B 25 l) : ErrIs (w.setCell ⟨B, o, none⟩ a) v x := by
  cases x with
  | nil => exact h
  | code n => exact h
  | «at» k i n =>
    obtain ⟨g, e, hg⟩ := h
    have hne : g ≠ B := by
      rintro rfl
      have := (show w.heap[g]? = _ from hg).symm.trans hc
      simp at this
    exact ⟨g, e, hg.other (a := ⟨B, o, none⟩) hne _⟩
theorem turn_err {w : World} {v : Value} {x : EV} {B : Nat} {l : List Value} {a b c d e : Value} (h : ErrIs w v x) (hc : Cells w B 25 l) :
    ErrIs (((((w.setCell ⟨B, 0, none⟩ a).setCell ⟨B, 1, none⟩ b).setCell ⟨B, 2, none⟩ c).setCell ⟨B, 3, none⟩ d).setCell ⟨B, 4, none⟩ e) v x :=
  ((((h.setH hc).setH (hc.set 0 a)).setH ((hc.set 0 a).set 1 b)).setH (((hc.set 0 a).set 1 b).set 2 c)).setH ((((hc.set 0 a).set 1 b).set 2 c).set 3 d)

set_option maxRecDepth 100000 in
set_option maxHeartbeats 4000000 in
theorem turn_any (A : HA) (h : HierD) (w : World) (see : HSee w A h) (form : HForm A) : Calls Tryd.prog 28 #[hierVal A h] w (TurnPost h w) := by
  have SEE := Lib.hid see
  have FORM := Lib.hid form
  clear see form
  unfold hierVal
  go_enter Tryd.func28, Tryd.ntmps28
  go_wp2_with fail
  refine (hcheck_any A h _ (SEE.out.below (((Below.refl _ _).alloc (Nat.le_refl _) _).alloc (by simp) _))).mono ?_
  rintro e w1 ⟨v, rfl, hv, hb⟩
  have hcs0 := ((Cells.new w 25 (hierCells A h)).alloc (.cells #[.slice none 0 0, .slice none 0 0, .slice none 0 0, .slice none 0 0, .slice none 0 0] 25)).below hb (by simp; omega)
  have hcs := (Cells.new (w.alloc (.cells (hierCells A h).toArray 25)) 25 [.slice none 0 0, .slice none 0 0, .slice none 0 0, .slice none 0 0, .slice none 0 0]).below hb (by simp)
  rw [World.size_alloc] at hcs
  have lb := hcs.lt
  have HCS0 := Lib.hid hcs0
  have HCS := Lib.hid hcs
  have HB := Lib.hid ((((Below.refl w.heap.size w).alloc (Nat.le_refl _) _).alloc (by simp) _).trans (hb.mono (by simp; omega)))
  have HV := Lib.hid hv
  by_cases hc : checkErr h = .nil
  · obtain rfl := hv.nilv hc
    obtain ⟨f, e1, e2, -, -⟩ := checkErr_parts hc
    have htot := f.total SEE.out (firsts_nil f.u e1) (firsts_nil f.d e2)
    have hnl := f.n
    have F := Lib.hid f
    have HC := Lib.hid hc
    have k0 : w1.cell? ⟨w.heap.size, 0, none⟩ = some (.slice A.a0 h.node.length A.c0) := hcs0.cell rfl
    have k1 : w1.cell? ⟨w.heap.size, 1, none⟩ = some (.slice A.a1 h.upF.length A.c1) := hcs0.cell rfl
    have k2 : w1.cell? ⟨w.heap.size, 2, none⟩ = some (.slice A.a2 h.up.length A.c2) := hcs0.cell rfl
    have k3 : w1.cell? ⟨w.heap.size, 3, none⟩ = some (.slice A.a3 h.dnF.length A.c3) := hcs0.cell rfl
    have k4 : w1.cell? ⟨w.heap.size, 4, none⟩ = some (.slice A.a4 h.dn.length A.c4) := hcs0.cell rfl
    have lb0 : w.heap.size < w1.heap.size := by omega
    have hup : h.up.length ≤ 1048576 := by omega
    have hdn : h.dn.length ≤ 1048576 := by omega
    clear hb hcs hcs0 hv f e1 e2 hc
    go_wp2_with fail
    go_region
    all_goals
      dsimp only [Exit.then]
    · obtain ⟨wq, hwq⟩ : ∃ wq, ((w1.alloc (.cells #[.int .u32 h.up.length] 36)).alloc (.cells #[.int .u32 h.dn.length] 36)).drew = wq := ⟨_, rfl⟩
      have z1 : Cells wq w1.heap.size 36 [.int .u32 h.up.length] := by
        rw [← hwq]
        exact ((Cells.new w1 36 [.int .u32 h.up.length]).alloc _).drew
      have z2 : Cells wq (w1.heap.size + 1) 36 [.int .u32 h.dn.length] := by
        rw [← hwq]
        have := Cells.new (w1.alloc (.cells #[.int .u32 h.up.length] 36)) 36 [.int .u32 h.dn.length]
        rw [World.size_alloc] at this
        exact this.drew
      have zb : Below w1.heap.size w1 wq := by
        rw [← hwq]
        exact (((Below.refl _ _).alloc (Nat.le_refl _) _).alloc (by simp) _).drew
      have zs : wq.heap.size = w1.heap.size + 2 := by
        rw [← hwq]
        simp [World.drew]
      rw [hwq]
      clear hwq
      have hf : Cells (wq.alloc (.cells #[.func (.func 58) #[] #[.pointer (some ⟨w1.heap.size, 0, none⟩), .pointer (some ⟨w1.heap.size + 1, 0, none⟩)]] 101)) wq.heap.size 101 [.func (.func 58) #[] #[.pointer (some ⟨w1.heap.size, 0, none⟩), .pointer (some ⟨w1.heap.size + 1, 0, none⟩)]] := Cells.new wq 101 [.func (.func 58) #[] #[.pointer (some ⟨w1.heap.size, 0, none⟩), .pointer (some ⟨w1.heap.size + 1, 0, none⟩)]]
      have hzq : Below w1.heap.size w1 (wq.alloc (.cells #[.func (.func 58) #[] #[.pointer (some ⟨w1.heap.size, 0, none⟩), .pointer (some ⟨w1.heap.size + 1, 0, none⟩)]] 101)) := zb.alloc (by omega) _
      have hy1 := z1.alloc (.cells #[.func (.func 58) #[] #[.pointer (some ⟨w1.heap.size, 0, none⟩), .pointer (some ⟨w1.heap.size + 1, 0, none⟩)]] 101)
      have hy2 := z2.alloc (.cells #[.func (.func 58) #[] #[.pointer (some ⟨w1.heap.size, 0, none⟩), .pointer (some ⟨w1.heap.size + 1, 0, none⟩)]] 101)
      have ZS := Lib.hid zs
      clear zs
      go_wp2_with fail
      obtain ⟨wz, hwz⟩ : ∃ wz, wq.alloc (.cells #[.func (.func 58) #[] #[.pointer (some ⟨w1.heap.size, 0, none⟩), .pointer (some ⟨w1.heap.size + 1, 0, none⟩)]] 101) = wz := ⟨_, rfl⟩
      rw [hwz] at hf hzq hy1 hy2 ⊢
      have HZ := Lib.hid (HB.out.trans (hzq.mono HB.out.size))
      replace k0 := ck hzq k0
      replace k1 := ck hzq k1
      replace k2 := ck hzq k2
      replace k3 := ck hzq k3
      replace k4 := ck hzq k4
      have k5 := hy1.cell (i := 0) rfl
      have k6 := hy2.cell (i := 0) rfl
      have k7 := hf.cell (i := 0) rfl
      have HR := Lib.hid (HCS.out.below hzq (by omega))
      clear hf hzq hy1 hy2 hwz z1 z2 zb
      have fzk0 := HR.out.frozen 0
      have czk0 : wz.cell? ⟨w.heap.size + 1, 0, none⟩ = some (.slice none 0 0) := HR.out.cell (i := 0) rfl
      have fzk1 := HR.out.frozen 1
      have czk1 : wz.cell? ⟨w.heap.size + 1, 1, none⟩ = some (.slice none 0 0) := HR.out.cell (i := 1) rfl
      have fzk2 := HR.out.frozen 2
      have czk2 : wz.cell? ⟨w.heap.size + 1, 2, none⟩ = some (.slice none 0 0) := HR.out.cell (i := 2) rfl
      have fzk3 := HR.out.frozen 3
      have czk3 : wz.cell? ⟨w.heap.size + 1, 3, none⟩ = some (.slice none 0 0) := HR.out.cell (i := 3) rfl
      have fzk4 := HR.out.frozen 4
      have czk4 : wz.cell? ⟨w.heap.size + 1, 4, none⟩ = some (.slice none 0 0) := HR.out.cell (i := 4) rfl
      have nr5 : ¬ w.heap.size + 1 = w1.heap.size := by omega
      have nr6 : ¬ w.heap.size + 1 = w1.heap.size + 1 := by omega
      have nr6b : ¬ w.heap.size = w1.heap.size := by omega
      have nr7 : ¬ w.heap.size + 1 = wq.heap.size := by have := ZS.out; omega
      have ne5 : ¬ w1.heap.size = w.heap.size + 1 := by omega
      have ne6 : ¬ w1.heap.size + 1 = w.heap.size + 1 := by omega
      have ne6b : ¬ w1.heap.size = w.heap.size := by omega
      have ne7 : ¬ wq.heap.size = w.heap.size + 1 := by have := ZS.out; omega
      have lk : w.heap.size + 1 < wz.heap.size := HR.out.lt
      go_region_held3 (fun W => W.cell? ⟨w.heap.size, 0, none⟩ = some (.slice A.a0 h.node.length A.c0) ∧ W.cell? ⟨w.heap.size, 1, none⟩ = some (.slice A.a1 h.upF.length A.c1) ∧ W.cell? ⟨w.heap.size, 2, none⟩ = some (.slice A.a2 h.up.length A.c2) ∧ W.cell? ⟨w.heap.size, 3, none⟩ = some (.slice A.a3 h.dnF.length A.c3) ∧ W.cell? ⟨w.heap.size, 4, none⟩ = some (.slice A.a4 h.dn.length A.c4) ∧ W.cell? ⟨w1.heap.size, 0, none⟩ = some (.int .u32 h.up.length) ∧ W.cell? ⟨w1.heap.size + 1, 0, none⟩ = some (.int .u32 h.dn.length) ∧ W.cell? ⟨wq.heap.size, 0, none⟩ = some (.func (.func 58) #[] #[.pointer (some ⟨w1.heap.size, 0, none⟩), .pointer (some ⟨w1.heap.size + 1, 0, none⟩)]) ∧ W.frozen? ⟨w.heap.size + 1, 0, none⟩ = false ∧ W.frozen? ⟨w.heap.size + 1, 1, none⟩ = false ∧ W.frozen? ⟨w.heap.size + 1, 2, none⟩ = false ∧ W.frozen? ⟨w.heap.size + 1, 3, none⟩ = false ∧ W.frozen? ⟨w.heap.size + 1, 4, none⟩ = false) (go_keep)
        (first
          | (go_at_call_has 60 h.node; refine (clone_any h.node A.a0 A.c0 _ (SEE.out.node.below (HZ.out.drew)) FORM.out.f0 (by omega)).mono ?_; rintro e wm ⟨am, cm, rfl, sm, gm, bm⟩; (have Bm := Lib.hid ((HZ.out.drew).trans (bm.mono (HZ.out.drew).size))); (have m0 := ck bm k0); (have m1 := ck bm k1); (have m2 := ck bm k2); (have m3 := ck bm k3); (have m4 := ck bm k4); (have m5 := ck bm k5); (have m6 := ck bm k6); (have m7 := ck bm k7); (have lm := Nat.lt_of_lt_of_le lk bm.size); (have fzm0 := (bm.frozen (p := ⟨w.heap.size + 1, 0, none⟩) lk).trans fzk0); (have czm0 := ck bm czk0); (have fzm1 := (bm.frozen (p := ⟨w.heap.size + 1, 1, none⟩) lk).trans fzk1); (have czm1 := ck bm czk1); (have fzm2 := (bm.frozen (p := ⟨w.heap.size + 1, 2, none⟩) lk).trans fzk2); (have czm2 := ck bm czk2); (have fzm3 := (bm.frozen (p := ⟨w.heap.size + 1, 3, none⟩) lk).trans fzk3); (have czm3 := ck bm czk3); (have fzm4 := (bm.frozen (p := ⟨w.heap.size + 1, 4, none⟩) lk).trans fzk4); (have czm4 := ck bm czk4))
          | (go_at_call_has 60 h.dnF; refine (clone_any h.dnF A.a3 A.c3 _ (SEE.out.dnF.below (Bm.out)) FORM.out.f3 (by have := F.out.d; omega)).mono ?_; rintro e wn ⟨an, cn, rfl, sn, gn, bn⟩; (have Bn := Lib.hid ((Bm.out).trans (bn.mono (Bm.out).size))); (have n0 := ck bn m0); (have n1 := ck bn m1); (have n2 := ck bn m2); (have n3 := ck bn m3); (have n4 := ck bn m4); (have n5 := ck bn m5); (have n6 := ck bn m6); (have n7 := ck bn m7); (have ln := Nat.lt_of_lt_of_le lm bn.size); (have fzn0 := (bn.frozen (p := ⟨w.heap.size + 1, 0, none⟩) lm).trans fzm0); (have czn0 := ck bn czm0); (have fzn1 := (bn.frozen (p := ⟨w.heap.size + 1, 1, none⟩) lm).trans fzm1); (have czn1 := ck bn czm1); (have fzn2 := (bn.frozen (p := ⟨w.heap.size + 1, 2, none⟩) lm).trans fzm2); (have czn2 := ck bn czm2); (have fzn3 := (bn.frozen (p := ⟨w.heap.size + 1, 3, none⟩) lm).trans fzm3); (have czn3 := ck bn czm3); (have fzn4 := (bn.frozen (p := ⟨w.heap.size + 1, 4, none⟩) lm).trans fzm4); (have czn4 := ck bn czm4))
          | (go_at_call_has 59 h.dn; refine (turned_any h.up.length h.dn.length _ _ _ h.dn A.a4 A.c4 _ (SEE.out.dn.below (Bn.out)) n5 n6 n7 SEE.out.bdn htot hdn).mono ?_; rintro e wp ⟨ap, cp, rfl, sp, gp, bp⟩; (have Bp := Lib.hid ((Bn.out).trans (bp.mono (Bn.out).size))); (have p0 := ck bp n0); (have p1 := ck bp n1); (have p2 := ck bp n2); (have p3 := ck bp n3); (have p4 := ck bp n4); (have p5 := ck bp n5); (have p6 := ck bp n6); (have p7 := ck bp n7); (have lp := Nat.lt_of_lt_of_le ln bp.size); (have fzp0 := (bp.frozen (p := ⟨w.heap.size + 1, 0, none⟩) ln).trans fzn0); (have czp0 := ck bp czn0); (have fzp1 := (bp.frozen (p := ⟨w.heap.size + 1, 1, none⟩) ln).trans fzn1); (have czp1 := ck bp czn1); (have fzp2 := (bp.frozen (p := ⟨w.heap.size + 1, 2, none⟩) ln).trans fzn2); (have czp2 := ck bp czn2); (have fzp3 := (bp.frozen (p := ⟨w.heap.size + 1, 3, none⟩) ln).trans fzn3); (have czp3 := ck bp czn3); (have fzp4 := (bp.frozen (p := ⟨w.heap.size + 1, 4, none⟩) ln).trans fzn4); (have czp4 := ck bp czn4))
          | (go_at_call_has 60 h.upF; refine (clone_any h.upF A.a1 A.c1 _ (SEE.out.upF.below (Bp.out)) FORM.out.f1 (by have := F.out.u; omega)).mono ?_; rintro e wq ⟨aq, cq, rfl, sq, gq, bq⟩; (have Bq := Lib.hid ((Bp.out).trans (bq.mono (Bp.out).size))); (have q0 := ck bq p0); (have q1 := ck bq p1); (have q2 := ck bq p2); (have q3 := ck bq p3); (have q4 := ck bq p4); (have q5 := ck bq p5); (have q6 := ck bq p6); (have q7 := ck bq p7); (have lq := Nat.lt_of_lt_of_le lp bq.size); (have fzq0 := (bq.frozen (p := ⟨w.heap.size + 1, 0, none⟩) lp).trans fzp0); (have czq0 := ck bq czp0); (have fzq1 := (bq.frozen (p := ⟨w.heap.size + 1, 1, none⟩) lp).trans fzp1); (have czq1 := ck bq czp1); (have fzq2 := (bq.frozen (p := ⟨w.heap.size + 1, 2, none⟩) lp).trans fzp2); (have czq2 := ck bq czp2); (have fzq3 := (bq.frozen (p := ⟨w.heap.size + 1, 3, none⟩) lp).trans fzp3); (have czq3 := ck bq czp3); (have fzq4 := (bq.frozen (p := ⟨w.heap.size + 1, 4, none⟩) lp).trans fzp4); (have czq4 := ck bq czp4))
          | (go_at_call_has 59 h.up; refine (turned_any h.up.length h.dn.length _ _ _ h.up A.a2 A.c2 _ (SEE.out.up.below (Bq.out)) q5 q6 q7 SEE.out.bup htot hup).mono ?_; rintro e wr ⟨ar, cr, rfl, sr, gr, br⟩; (have Br := Lib.hid ((Bq.out).trans (br.mono (Bq.out).size))); (have r0 := ck br q0); (have r1 := ck br q1); (have r2 := ck br q2); (have r3 := ck br q3); (have r4 := ck br q4); (have r5 := ck br q5); (have r6 := ck br q6); (have r7 := ck br q7); (have lr := Nat.lt_of_lt_of_le lq br.size); (have fzr0 := (br.frozen (p := ⟨w.heap.size + 1, 0, none⟩) lq).trans fzq0); (have czr0 := ck br czq0); (have fzr1 := (br.frozen (p := ⟨w.heap.size + 1, 1, none⟩) lq).trans fzq1); (have czr1 := ck br czq1); (have fzr2 := (br.frozen (p := ⟨w.heap.size + 1, 2, none⟩) lq).trans fzq2); (have czr2 := ck br czq2); (have fzr3 := (br.frozen (p := ⟨w.heap.size + 1, 3, none⟩) lq).trans fzq3); (have czr3 := ck br czq3); (have fzr4 := (br.frozen (p := ⟨w.heap.size + 1, 4, none⟩) lq).trans fzq4); (have czr4 := ck br czq4)))
      dsimp only [Exit.then]
      go_wp2_with fail
      have hres := (((((HR.out.drew).below bm lk).below bn lm).below bp ln).below bq lp).below br lq
      refine bodyPost_ret (results_ct rfl _ _ (w.heap.size + 1) 25 [.slice am h.node.length cm, .slice an h.dnF.length cn, .slice ap h.dn.length cp, .slice aq h.upF.length cq, .slice ar h.up.length cr] _ rfl (((((hres.set 0 _).set 1 _).set 2 _).set 3 _).set 4 _) Tryd.underlying25 rfl (by rw [Tryd.sizeHier]; rfl)) rfl ?_
      obtain ⟨hs, hf⟩ := turn_end h (w.heap.size + 1) SEE.out htot lk sm gm lm sn gn ln sp gp lp sq gq lq sr gr bn bp bq br _ (((((Only.refl [w.heap.size + 1] wr).setCell (p := ⟨w.heap.size + 1, 0, none⟩) (.inl (by simp)) (.slice am h.node.length cm)).setCell (p := ⟨w.heap.size + 1, 1, none⟩) (.inl (by simp)) (.slice an h.dnF.length cn)).setCell (p := ⟨w.heap.size + 1, 2, none⟩) (.inl (by simp)) (.slice ap h.dn.length cp)).setCell (p := ⟨w.heap.size + 1, 3, none⟩) (.inl (by simp)) (.slice aq h.upF.length cq) |>.setCell (p := ⟨w.heap.size + 1, 4, none⟩) (.inl (by simp)) (.slice ar h.up.length cr))
      exact .inr ⟨⟨am, an, ap, aq, ar, cm, cn, cp, cq, cr⟩, by simp [hierVal, turnD], HC.out, hs, hf, (((((Br.out.setCell (p := ⟨w.heap.size + 1, 0, none⟩) (by simp) _).setCell (p := ⟨w.heap.size + 1, 1, none⟩) (by simp) _).setCell (p := ⟨w.heap.size + 1, 2, none⟩) (by simp) _).setCell (p := ⟨w.heap.size + 1, 3, none⟩) (by simp) _).setCell (p := ⟨w.heap.size + 1, 4, none⟩) (by simp) _)⟩
    · obtain ⟨wq, hwq⟩ : ∃ wq, ((w1.alloc (.cells #[.int .u32 h.dn.length] 36)).alloc (.cells #[.int .u32 h.up.length] 36)).drew = wq := ⟨_, rfl⟩
      have z1 : Cells wq (w1.heap.size + 1) 36 [.int .u32 h.up.length] := by
        rw [← hwq]
        have := Cells.new (w1.alloc (.cells #[.int .u32 h.dn.length] 36)) 36 [.int .u32 h.up.length]
        rw [World.size_alloc] at this
        exact this.drew
      have z2 : Cells wq w1.heap.size 36 [.int .u32 h.dn.length] := by
        rw [← hwq]
        exact ((Cells.new w1 36 [.int .u32 h.dn.length]).alloc _).drew
      have zb : Below w1.heap.size w1 wq := by
        rw [← hwq]
        exact (((Below.refl _ _).alloc (Nat.le_refl _) _).alloc (by simp) _).drew
      have zs : wq.heap.size = w1.heap.size + 2 := by
        rw [← hwq]
        simp [World.drew]
      rw [hwq]
      clear hwq
      have hf : Cells (wq.alloc (.cells #[.func (.func 58) #[] #[.pointer (some ⟨w1.heap.size + 1, 0, none⟩), .pointer (some ⟨w1.heap.size, 0, none⟩)]] 101)) wq.heap.size 101 [.func (.func 58) #[] #[.pointer (some ⟨w1.heap.size + 1, 0, none⟩), .pointer (some ⟨w1.heap.size, 0, none⟩)]] := Cells.new wq 101 [.func (.func 58) #[] #[.pointer (some ⟨w1.heap.size + 1, 0, none⟩), .pointer (some ⟨w1.heap.size, 0, none⟩)]]
      have hzq : Below w1.heap.size w1 (wq.alloc (.cells #[.func (.func 58) #[] #[.pointer (some ⟨w1.heap.size + 1, 0, none⟩), .pointer (some ⟨w1.heap.size, 0, none⟩)]] 101)) := zb.alloc (by omega) _
      have hy1 := z1.alloc (.cells #[.func (.func 58) #[] #[.pointer (some ⟨w1.heap.size + 1, 0, none⟩), .pointer (some ⟨w1.heap.size, 0, none⟩)]] 101)
      have hy2 := z2.alloc (.cells #[.func (.func 58) #[] #[.pointer (some ⟨w1.heap.size + 1, 0, none⟩), .pointer (some ⟨w1.heap.size, 0, none⟩)]] 101)
      have ZS := Lib.hid zs
      clear zs
      go_wp2_with fail
      obtain ⟨wz, hwz⟩ : ∃ wz, wq.alloc (.cells #[.func (.func 58) #[] #[.pointer (some ⟨w1.heap.size + 1, 0, none⟩), .pointer (some ⟨w1.heap.size, 0, none⟩)]] 101) = wz := ⟨_, rfl⟩
      rw [hwz] at hf hzq hy1 hy2 ⊢
      have HZ := Lib.hid (HB.out.trans (hzq.mono HB.out.size))
      replace k0 := ck hzq k0
      replace k1 := ck hzq k1
      replace k2 := ck hzq k2
      replace k3 := ck hzq k3
      replace k4 := ck hzq k4
      have k5 := hy1.cell (i := 0) rfl
      have k6 := hy2.cell (i := 0) rfl
      have k7 := hf.cell (i := 0) rfl
      have HR := Lib.hid (HCS.out.below hzq (by omega))
      clear hf hzq hy1 hy2 hwz z1 z2 zb
      have fzk0 := HR.out.frozen 0
      have czk0 : wz.cell? ⟨w.heap.size + 1, 0, none⟩ = some (.slice none 0 0) := HR.out.cell (i := 0) rfl
      have fzk1 := HR.out.frozen 1
      have czk1 : wz.cell? ⟨w.heap.size + 1, 1, none⟩ = some (.slice none 0 0) := HR.out.cell (i := 1) rfl
      have fzk2 := HR.out.frozen 2
      have czk2 : wz.cell? ⟨w.heap.size + 1, 2, none⟩ = some (.slice none 0 0) := HR.out.cell (i := 2) rfl
      have fzk3 := HR.out.frozen 3
      have czk3 : wz.cell? ⟨w.heap.size + 1, 3, none⟩ = some (.slice none 0 0) := HR.out.cell (i := 3) rfl
      have fzk4 := HR.out.frozen 4
      have czk4 : wz.cell? ⟨w.heap.size + 1, 4, none⟩ = some (.slice none 0 0) := HR.out.cell (i := 4) rfl
      have nr5 : ¬ w.heap.size + 1 = w1.heap.size := by omega
      have nr6 : ¬ w.heap.size + 1 = w1.heap.size + 1 := by omega
      have nr6b : ¬ w.heap.size = w1.heap.size := by omega
      have nr7 : ¬ w.heap.size + 1 = wq.heap.size := by have := ZS.out; omega
      have ne5 : ¬ w1.heap.size = w.heap.size + 1 := by omega
      have ne6 : ¬ w1.heap.size + 1 = w.heap.size + 1 := by omega
      have ne6b : ¬ w1.heap.size = w.heap.size := by omega
      have ne7 : ¬ wq.heap.size = w.heap.size + 1 := by have := ZS.out; omega
      have lk : w.heap.size + 1 < wz.heap.size := HR.out.lt
      go_region_held3 (fun W => W.cell? ⟨w.heap.size, 0, none⟩ = some (.slice A.a0 h.node.length A.c0) ∧ W.cell? ⟨w.heap.size, 1, none⟩ = some (.slice A.a1 h.upF.length A.c1) ∧ W.cell? ⟨w.heap.size, 2, none⟩ = some (.slice A.a2 h.up.length A.c2) ∧ W.cell? ⟨w.heap.size, 3, none⟩ = some (.slice A.a3 h.dnF.length A.c3) ∧ W.cell? ⟨w.heap.size, 4, none⟩ = some (.slice A.a4 h.dn.length A.c4) ∧ W.cell? ⟨w1.heap.size + 1, 0, none⟩ = some (.int .u32 h.up.length) ∧ W.cell? ⟨w1.heap.size, 0, none⟩ = some (.int .u32 h.dn.length) ∧ W.cell? ⟨wq.heap.size, 0, none⟩ = some (.func (.func 58) #[] #[.pointer (some ⟨w1.heap.size + 1, 0, none⟩), .pointer (some ⟨w1.heap.size, 0, none⟩)]) ∧ W.frozen? ⟨w.heap.size + 1, 0, none⟩ = false ∧ W.frozen? ⟨w.heap.size + 1, 1, none⟩ = false ∧ W.frozen? ⟨w.heap.size + 1, 2, none⟩ = false ∧ W.frozen? ⟨w.heap.size + 1, 3, none⟩ = false ∧ W.frozen? ⟨w.heap.size + 1, 4, none⟩ = false) (go_keep)
        (first
          | (go_at_call_has 60 h.node; refine (clone_any h.node A.a0 A.c0 _ (SEE.out.node.below (HZ.out.drew)) FORM.out.f0 (by omega)).mono ?_; rintro e wm ⟨am, cm, rfl, sm, gm, bm⟩; (have Bm := Lib.hid ((HZ.out.drew).trans (bm.mono (HZ.out.drew).size))); (have m0 := ck bm k0); (have m1 := ck bm k1); (have m2 := ck bm k2); (have m3 := ck bm k3); (have m4 := ck bm k4); (have m5 := ck bm k5); (have m6 := ck bm k6); (have m7 := ck bm k7); (have lm := Nat.lt_of_lt_of_le lk bm.size); (have fzm0 := (bm.frozen (p := ⟨w.heap.size + 1, 0, none⟩) lk).trans fzk0); (have czm0 := ck bm czk0); (have fzm1 := (bm.frozen (p := ⟨w.heap.size + 1, 1, none⟩) lk).trans fzk1); (have czm1 := ck bm czk1); (have fzm2 := (bm.frozen (p := ⟨w.heap.size + 1, 2, none⟩) lk).trans fzk2); (have czm2 := ck bm czk2); (have fzm3 := (bm.frozen (p := ⟨w.heap.size + 1, 3, none⟩) lk).trans fzk3); (have czm3 := ck bm czk3); (have fzm4 := (bm.frozen (p := ⟨w.heap.size + 1, 4, none⟩) lk).trans fzk4); (have czm4 := ck bm czk4))
          | (go_at_call_has 60 h.dnF; refine (clone_any h.dnF A.a3 A.c3 _ (SEE.out.dnF.below (Bm.out)) FORM.out.f3 (by have := F.out.d; omega)).mono ?_; rintro e wn ⟨an, cn, rfl, sn, gn, bn⟩; (have Bn := Lib.hid ((Bm.out).trans (bn.mono (Bm.out).size))); (have n0 := ck bn m0); (have n1 := ck bn m1); (have n2 := ck bn m2); (have n3 := ck bn m3); (have n4 := ck bn m4); (have n5 := ck bn m5); (have n6 := ck bn m6); (have n7 := ck bn m7); (have ln := Nat.lt_of_lt_of_le lm bn.size); (have fzn0 := (bn.frozen (p := ⟨w.heap.size + 1, 0, none⟩) lm).trans fzm0); (have czn0 := ck bn czm0); (have fzn1 := (bn.frozen (p := ⟨w.heap.size + 1, 1, none⟩) lm).trans fzm1); (have czn1 := ck bn czm1); (have fzn2 := (bn.frozen (p := ⟨w.heap.size + 1, 2, none⟩) lm).trans fzm2); (have czn2 := ck bn czm2); (have fzn3 := (bn.frozen (p := ⟨w.heap.size + 1, 3, none⟩) lm).trans fzm3); (have czn3 := ck bn czm3); (have fzn4 := (bn.frozen (p := ⟨w.heap.size + 1, 4, none⟩) lm).trans fzm4); (have czn4 := ck bn czm4))
          | (go_at_call_has 59 h.dn; refine (turned_any h.up.length h.dn.length _ _ _ h.dn A.a4 A.c4 _ (SEE.out.dn.below (Bn.out)) n5 n6 n7 SEE.out.bdn htot hdn).mono ?_; rintro e wp ⟨ap, cp, rfl, sp, gp, bp⟩; (have Bp := Lib.hid ((Bn.out).trans (bp.mono (Bn.out).size))); (have p0 := ck bp n0); (have p1 := ck bp n1); (have p2 := ck bp n2); (have p3 := ck bp n3); (have p4 := ck bp n4); (have p5 := ck bp n5); (have p6 := ck bp n6); (have p7 := ck bp n7); (have lp := Nat.lt_of_lt_of_le ln bp.size); (have fzp0 := (bp.frozen (p := ⟨w.heap.size + 1, 0, none⟩) ln).trans fzn0); (have czp0 := ck bp czn0); (have fzp1 := (bp.frozen (p := ⟨w.heap.size + 1, 1, none⟩) ln).trans fzn1); (have czp1 := ck bp czn1); (have fzp2 := (bp.frozen (p := ⟨w.heap.size + 1, 2, none⟩) ln).trans fzn2); (have czp2 := ck bp czn2); (have fzp3 := (bp.frozen (p := ⟨w.heap.size + 1, 3, none⟩) ln).trans fzn3); (have czp3 := ck bp czn3); (have fzp4 := (bp.frozen (p := ⟨w.heap.size + 1, 4, none⟩) ln).trans fzn4); (have czp4 := ck bp czn4))
          | (go_at_call_has 60 h.upF; refine (clone_any h.upF A.a1 A.c1 _ (SEE.out.upF.below (Bp.out)) FORM.out.f1 (by have := F.out.u; omega)).mono ?_; rintro e wq ⟨aq, cq, rfl, sq, gq, bq⟩; (have Bq := Lib.hid ((Bp.out).trans (bq.mono (Bp.out).size))); (have q0 := ck bq p0); (have q1 := ck bq p1); (have q2 := ck bq p2); (have q3 := ck bq p3); (have q4 := ck bq p4); (have q5 := ck bq p5); (have q6 := ck bq p6); (have q7 := ck bq p7); (have lq := Nat.lt_of_lt_of_le lp bq.size); (have fzq0 := (bq.frozen (p := ⟨w.heap.size + 1, 0, none⟩) lp).trans fzp0); (have czq0 := ck bq czp0); (have fzq1 := (bq.frozen (p := ⟨w.heap.size + 1, 1, none⟩) lp).trans fzp1); (have czq1 := ck bq czp1); (have fzq2 := (bq.frozen (p := ⟨w.heap.size + 1, 2, none⟩) lp).trans fzp2); (have czq2 := ck bq czp2); (have fzq3 := (bq.frozen (p := ⟨w.heap.size + 1, 3, none⟩) lp).trans fzp3); (have czq3 := ck bq czp3); (have fzq4 := (bq.frozen (p := ⟨w.heap.size + 1, 4, none⟩) lp).trans fzp4); (have czq4 := ck bq czp4))
          | (go_at_call_has 59 h.up; refine (turned_any h.up.length h.dn.length _ _ _ h.up A.a2 A.c2 _ (SEE.out.up.below (Bq.out)) q5 q6 q7 SEE.out.bup htot hup).mono ?_; rintro e wr ⟨ar, cr, rfl, sr, gr, br⟩; (have Br := Lib.hid ((Bq.out).trans (br.mono (Bq.out).size))); (have r0 := ck br q0); (have r1 := ck br q1); (have r2 := ck br q2); (have r3 := ck br q3); (have r4 := ck br q4); (have r5 := ck br q5); (have r6 := ck br q6); (have r7 := ck br q7); (have lr := Nat.lt_of_lt_of_le lq br.size); (have fzr0 := (br.frozen (p := ⟨w.heap.size + 1, 0, none⟩) lq).trans fzq0); (have czr0 := ck br czq0); (have fzr1 := (br.frozen (p := ⟨w.heap.size + 1, 1, none⟩) lq).trans fzq1); (have czr1 := ck br czq1); (have fzr2 := (br.frozen (p := ⟨w.heap.size + 1, 2, none⟩) lq).trans fzq2); (have czr2 := ck br czq2); (have fzr3 := (br.frozen (p := ⟨w.heap.size + 1, 3, none⟩) lq).trans fzq3); (have czr3 := ck br czq3); (have fzr4 := (br.frozen (p := ⟨w.heap.size + 1, 4, none⟩) lq).trans fzq4); (have czr4 := ck br czq4)))
      dsimp only [Exit.then]
      go_wp2_with fail
      have hres := (((((HR.out.drew).below bm lk).below bn lm).below bp ln).below bq lp).below br lq
      refine bodyPost_ret (results_ct rfl _ _ (w.heap.size + 1) 25 [.slice am h.node.length cm, .slice an h.dnF.length cn, .slice ap h.dn.length cp, .slice aq h.upF.length cq, .slice ar h.up.length cr] _ rfl (((((hres.set 0 _).set 1 _).set 2 _).set 3 _).set 4 _) Tryd.underlying25 rfl (by rw [Tryd.sizeHier]; rfl)) rfl ?_
      obtain ⟨hs, hf⟩ := turn_end h (w.heap.size + 1) SEE.out htot lk sm gm lm sn gn ln sp gp lp sq gq lq sr gr bn bp bq br _ (((((Only.refl [w.heap.size + 1] wr).setCell (p := ⟨w.heap.size + 1, 0, none⟩) (.inl (by simp)) (.slice am h.node.length cm)).setCell (p := ⟨w.heap.size + 1, 1, none⟩) (.inl (by simp)) (.slice an h.dnF.length cn)).setCell (p := ⟨w.heap.size + 1, 2, none⟩) (.inl (by simp)) (.slice ap h.dn.length cp)).setCell (p := ⟨w.heap.size + 1, 3, none⟩) (.inl (by simp)) (.slice aq h.upF.length cq) |>.setCell (p := ⟨w.heap.size + 1, 4, none⟩) (.inl (by simp)) (.slice ar h.up.length cr))
      exact .inr ⟨⟨am, an, ap, aq, ar, cm, cn, cp, cq, cr⟩, by simp [hierVal, turnD], HC.out, hs, hf, (((((Br.out.setCell (p := ⟨w.heap.size + 1, 0, none⟩) (by simp) _).setCell (p := ⟨w.heap.size + 1, 1, none⟩) (by simp) _).setCell (p := ⟨w.heap.size + 1, 2, none⟩) (by simp) _).setCell (p := ⟨w.heap.size + 1, 3, none⟩) (by simp) _).setCell (p := ⟨w.heap.size + 1, 4, none⟩) (by simp) _)⟩
  · obtain ⟨tt, u, rfl⟩ := hv.iface hc
    have c0 : w1.cell? ⟨w.heap.size + 1, 0, none⟩ = some (.slice none 0 0) := hcs.cell rfl
    have c1 : w1.cell? ⟨w.heap.size + 1, 1, none⟩ = some (.slice none 0 0) := hcs.cell rfl
    have c2 : w1.cell? ⟨w.heap.size + 1, 2, none⟩ = some (.slice none 0 0) := hcs.cell rfl
    have c3 : w1.cell? ⟨w.heap.size + 1, 3, none⟩ = some (.slice none 0 0) := hcs.cell rfl
    have c4 : w1.cell? ⟨w.heap.size + 1, 4, none⟩ = some (.slice none 0 0) := hcs.cell rfl
    have f0 := hcs.frozen 0
    have f1 := hcs.frozen 1
    have f2 := hcs.frozen 2
    have f3 := hcs.frozen 3
    have f4 := hcs.frozen 4
    have HC := Lib.hid hc
    have HR := Lib.hid hcs
    clear hb hcs hcs0 hv hc
    go_wp2
    refine bodyPost_ret (results_ct rfl _ _ (w.heap.size + 1) 25 [.slice none 0 0, .slice none 0 0, .slice none 0 0, .slice none 0 0, .slice none 0 0] _ rfl (((((HR.out.set 0 _).set 1 _).set 2 _).set 3 _).set 4 _) Tryd.underlying25 rfl (by rw [Tryd.sizeHier]; rfl)) rfl ?_
    have hB5 := ((((HB.out.setCell (p := ⟨w.heap.size + 1, 0, none⟩) (by simp) (.slice none 0 0)).setCell (p := ⟨w.heap.size + 1, 1, none⟩) (by simp) (.slice none 0 0)).setCell (p := ⟨w.heap.size + 1, 2, none⟩) (by simp) (.slice none 0 0)).setCell (p := ⟨w.heap.size + 1, 3, none⟩) (by simp) (.slice none 0 0)).setCell (p := ⟨w.heap.size + 1, 4, none⟩) (by simp) (.slice none 0 0)
    exact .inl ⟨_, rfl, turn_err HV.out HR.out, HC.out, hB5⟩
end Go.Proofs.YtjbphoophgbmiaaDoor

/- The law SoundTurns: its walk. -/
namespace Go.Proofs.YtjbphoophgbmiaaDoor
open Go.ChangeShapes Go.WideShapes Go.ChangeAt Go.RowKit Go.Joins Go.Deep

noncomputable def turnsBody : Code := Tryd.f6.body.getD .skip
/-- What has been laid and is kept. -/
structure TK (A B : HA) (h : HierD) (w : World) (b9 : Nat) (wx : World) : Prop where
  x : Cells wx w.heap.size 25 (hierCells A h)
  y : Cells wx b9 25 (hierCells B (turnD h))
  s : HSee wx B (turnD h)
  b : Below w.heap.size w wx
theorem TK.below {A B : HA} {h : HierD} {w wx wy : World} {b9 : Nat} (k : TK A B h w b9 wx) (o : Below wx.heap.size wx wy) : TK A B h w b9 wy := ⟨k.x.below o k.x.lt, k.y.below o k.y.lt, k.s.below o, k.b.trans (o.mono k.b.size)⟩
theorem ErrIs.form {w : World} {v : Value} {x : EV} (h : ErrIs w v x) : (x = .nil ∧ v = .nilIface) ∨ (x ≠ .nil ∧ ∃ t u, v = .iface t u) := by
  by_cases hx : x = .nil
  · exact .inl ⟨hx, h.nilv hx⟩
  · exact .inr ⟨hx, h.iface hx⟩
set_option linter.unusedSimpArgs false in
set_option maxRecDepth 100000 in
set_option maxHeartbeats 8000000 in
theorem turns_asks {s0 s5 s6 s7 s8 s10 s11 s12 s13 s14 s15 s16 s17 s18 s19 s20 s21 s22 s23 s24 s25 s26 s27 s28 s29 s30 s31 s32 s33 s34 s35 s36 s37 s38 s39 s40 s41 s42 s43 s44 s45 s46 s47 s48 s49 s50 s51 s52 s53 s54 s55 s56 s57 s58 s59 s60 s61 : Value} {A B : HA} {h : HierD} {r s t : Int} {w wx : World} {b9 : Nat} (k : TK A B h w b9 wx) (see : HSee w A h) (hc : checkErr h = .nil) (hct : checkErr (turnD h) = .nil) : Code.wp Tryd.prog (tailAt 6 turnsBody) (bodyPost Tryd.prog Tryd.f6 (BoolIs true w)) ⟨#[s0, .int .i64 r, .int .i64 s, .int .i64 t, .pointer (some ⟨w.heap.size, 0, none⟩), s5, s6, s7, s8, .pointer (some ⟨b9, 0, none⟩), s10, s11, s12, s13, s14, s15, s16, s17, s18, s19, s20, s21, s22, s23, s24, s25, s26, s27, s28, s29, s30, s31, s32, s33, s34, s35, s36, s37, s38, s39, s40, s41, s42, s43, s44, s45, s46, s47, s48, s49, s50, s51, s52, s53, s54, s55, s56, s57, s58, s59, s60, s61], []⟩ wx := by
  have K := Lib.hid k
  have SEE := Lib.hid see
  have HC := Lib.hid hc
  have HCT := Lib.hid hct
  obtain ⟨k0, k1, k2, k3, k4⟩ := hier_five k.x
  clear k see hc hct
  conv => arg 2; whnf
  apply wp_seq_k
  intro K0 hK
  have HK0 := Lib.hid hK
  clear hK
  go_wp2_with fail
  refine (above_any A h r s t _ (SEE.out.below K.out.b)).mono ?_
  rintro e w1 ⟨d, v, x, rfl, hv, hm, hb⟩
  have K1 := Lib.hid (K.out.below hb)
  have HM := Lib.hid hm
  have HV := Lib.hid hv
  obtain ⟨j0, j1, j2, j3, j4⟩ := hier_five K1.out.y
  clear hb hm hv K k0 k1 k2 k3 k4
  go_wp2_with fail
  refine HK0.out _ _ ?_
  clear HK0
  apply wp_seq_k
  intro K2 hK
  have HK2 := Lib.hid hK
  clear hK
  go_wp2_with fail
  refine (above_any B (turnD h) r t s _ K1.out.s).mono ?_
  rintro e w2 ⟨d2, v2, x2, rfl, hv2, hm2, hb⟩
  obtain ⟨rfl, hxx⟩ := HM.out.turned HC.out HCT.out hm2
  have HB2 := Lib.hid (K1.out.b.trans (hb.mono K1.out.b.size))
  have h1 := (HV.out.below hb).form
  have h2 := hv2.form
  clear hb hm2 hv2 K1 HV HM j0 j1 j2 j3 j4
  rcases h1 with ⟨hx, rfl⟩ | ⟨hx, t1, u1, rfl⟩
  · obtain rfl : v2 = .nilIface := by
      rcases h2 with ⟨-, e⟩ | ⟨hx2, -⟩
      · exact e
      · exact absurd (hxx.1 hx) hx2
    clear h2 hxx hx
    go_wp2_with fail
    refine HK2.out _ _ ?_
    conv => arg 2; whnf
    go_wp2_with fail
    go_quiet (fail)
    go_wp2
    go_returns
    exact ⟨rfl, below_drewN HB2.out _⟩
  · obtain ⟨t2, u2, rfl⟩ : ∃ t2 u2, v2 = .iface t2 u2 := by
      rcases h2 with ⟨hx2, -⟩ | ⟨-, e⟩
      · exact absurd (hxx.2 hx2) hx
      · exact e
    clear h2 hxx hx
    go_wp2_with fail
    refine HK2.out _ _ ?_
    conv => arg 2; whnf
    go_wp2_with fail
    go_quiet (fail)
    go_wp2
    go_returns
    exact ⟨rfl, below_drewN HB2.out _⟩
def GoodS (h : HierD) : Prop := checkErr h = .nil ∧ ∀ r, r < h.node.length → HoldsD h r
def NilNew (w : World) (e : Ending) (w' : World) : Prop := e = .returned .nilIface ∧ Below w.heap.size w w'
def SomeNew (w : World) (e : Ending) (w' : World) : Prop := ∃ t u, e = .returned (.iface t u) ∧ Below w.heap.size w w'
theorem scheck_good (A : HA) (h : HierD) (w : World) (see : HSee w A h) (hg : GoodS h) : Calls Tryd.prog 17 #[.agg #[.slice A.a0 h.node.length A.c0, .slice A.a1 h.upF.length A.c1, .slice A.a2 h.up.length A.c2, .slice A.a3 h.dnF.length A.c3, .slice A.a4 h.dn.length A.c4]] w (NilNew w) := (scheck_any A h w see).mono (by
  rintro e w1 ⟨v, x, rfl, hv, hm, hb⟩
  exact ⟨by rw [hv.nilv (hm.nil_iff.2 hg)], hb⟩)
theorem scheck_bad (A : HA) (h : HierD) (w : World) (see : HSee w A h) (hg : ¬ GoodS h) : Calls Tryd.prog 17 #[.agg #[.slice A.a0 h.node.length A.c0, .slice A.a1 h.upF.length A.c1, .slice A.a2 h.up.length A.c2, .slice A.a3 h.dnF.length A.c3, .slice A.a4 h.dn.length A.c4]] w (SomeNew w) := (scheck_any A h w see).mono (by
  rintro e w1 ⟨v, x, rfl, hv, hm, hb⟩
  obtain ⟨t, u, rfl⟩ := hv.iface (fun hx => hg (hm.nil_iff.1 hx))
  exact ⟨t, u, rfl, hb⟩)
theorem scheck_goodT (B : HA) (h : HierD) (w : World) (see : HSee w B (turnD h)) (hg : GoodS (turnD h)) : Calls Tryd.prog 17 #[.agg #[.slice B.a0 (turnD h).node.length B.c0, .slice B.a1 (turnD h).upF.length B.c1, .slice B.a2 (turnD h).up.length B.c2, .slice B.a3 (turnD h).dnF.length B.c3, .slice B.a4 (turnD h).dn.length B.c4]] w (NilNew w) := scheck_good B (turnD h) w see hg
theorem scheck_badT (B : HA) (h : HierD) (w : World) (see : HSee w B (turnD h)) (hg : ¬ GoodS (turnD h)) : Calls Tryd.prog 17 #[.agg #[.slice B.a0 (turnD h).node.length B.c0, .slice B.a1 (turnD h).upF.length B.c1, .slice B.a2 (turnD h).up.length B.c2, .slice B.a3 (turnD h).dnF.length B.c3, .slice B.a4 (turnD h).dn.length B.c4]] w (SomeNew w) := scheck_bad B (turnD h) w see hg
theorem GoodS.turned {h : HierD} (hc : checkErr h = .nil) (hct : checkErr (turnD h) = .nil) : GoodS (turnD h) ↔ GoodS h :=
  ⟨fun g => ⟨hc, fun r hr => (holds_turn hc hr).1 (g.2 r hr)⟩, fun g => ⟨hct, fun r hr => (holds_turn hc hr).2 (g.2 r hr)⟩⟩
set_option linter.unusedSimpArgs false in
set_option maxRecDepth 100000 in
set_option maxHeartbeats 8000000 in
theorem turns_good {s0 s5 s6 s7 s8 s10 s11 s12 s13 s14 s15 s16 s17 s18 s19 s20 s21 s22 s23 s24 s25 s26 s27 s28 s29 s30 s31 s32 s33 s34 s35 s36 s37 s38 s39 s40 s41 s42 s43 s44 s45 s46 s47 s48 s49 s50 s51 s52 s53 s54 s55 s56 s57 s58 s59 s60 s61 : Value} {A B : HA} {h : HierD} {r s t : Int} {w wx : World} {b9 : Nat} (k : TK A B h w b9 wx) (see : HSee w A h) (hc : checkErr h = .nil) (hct : checkErr (turnD h) = .nil) (hg : GoodS h) : Code.wp Tryd.prog (tailAt 5 turnsBody) (bodyPost Tryd.prog Tryd.f6 (BoolIs true w)) ⟨#[s0, .int .i64 r, .int .i64 s, .int .i64 t, .pointer (some ⟨w.heap.size, 0, none⟩), s5, s6, s7, s8, .pointer (some ⟨b9, 0, none⟩), s10, s11, s12, s13, s14, s15, s16, s17, s18, s19, s20, s21, s22, s23, s24, s25, s26, s27, s28, s29, s30, s31, s32, s33, s34, s35, s36, s37, s38, s39, s40, s41, s42, s43, s44, s45, s46, s47, s48, s49, s50, s51, s52, s53, s54, s55, s56, s57, s58, s59, s60, s61], []⟩ wx := by
  have K := Lib.hid k
  have SEE := Lib.hid see
  have HC := Lib.hid hc
  have HCT := Lib.hid hct
  have HG := Lib.hid hg
  have HGT : RowKit.Hid (GoodS (turnD h)) := Lib.hid ((GoodS.turned hc hct).2 hg)
  obtain ⟨k0, k1, k2, k3, k4⟩ := hier_five k.x
  obtain ⟨j0, j1, j2, j3, j4⟩ := hier_five k.y
  clear k see hc hct hg
  conv => arg 2; whnf
  apply wp_seq_k
  intro KK hK
  have HKK := Lib.hid hK
  clear hK
  go_upto_region 8 with fail
  go_region_held3 (fun W => W.cell? ⟨w.heap.size, 0, none⟩ = some (.slice A.a0 h.node.length A.c0) ∧ W.cell? ⟨w.heap.size, 1, none⟩ = some (.slice A.a1 h.upF.length A.c1) ∧ W.cell? ⟨w.heap.size, 2, none⟩ = some (.slice A.a2 h.up.length A.c2) ∧ W.cell? ⟨w.heap.size, 3, none⟩ = some (.slice A.a3 h.dnF.length A.c3) ∧ W.cell? ⟨w.heap.size, 4, none⟩ = some (.slice A.a4 h.dn.length A.c4) ∧ W.cell? ⟨b9, 0, none⟩ = some (.slice B.a0 (turnD h).node.length B.c0) ∧ W.cell? ⟨b9, 1, none⟩ = some (.slice B.a1 (turnD h).upF.length B.c1) ∧ W.cell? ⟨b9, 2, none⟩ = some (.slice B.a2 (turnD h).up.length B.c2) ∧ W.cell? ⟨b9, 3, none⟩ = some (.slice B.a3 (turnD h).dnF.length B.c3) ∧ W.cell? ⟨b9, 4, none⟩ = some (.slice B.a4 (turnD h).dn.length B.c4)) (go_keep)
    (first
    | (go_at_call 17; (with_reducible refine (scheck_good A h _ (SEE.out.below K.out.b.drew) HG.out).mono ?_); rintro e w1 ⟨rfl, hb⟩; (have a0 := ck hb k0); (have a1 := ck hb k1); (have a2 := ck hb k2); (have a3 := ck hb k3); (have a4 := ck hb k4); (have c0 := ck hb j0); (have c1 := ck hb j1); (have c2 := ck hb j2); (have c3 := ck hb j3); (have c4 := ck hb j4); (have K1 := Lib.hid ((K.out.below (Below.refl _ _).drew).below hb)))
    | (go_at_call 17; (with_reducible refine (scheck_goodT B h _ K1.out.s HGT.out).mono ?_); rintro e w2 ⟨rfl, hb2⟩; (have d0 := ck hb2 a0); (have d1 := ck hb2 a1); (have d2 := ck hb2 a2); (have d3 := ck hb2 a3); (have d4 := ck hb2 a4); (have f0 := ck hb2 c0); (have f1 := ck hb2 c1); (have f2 := ck hb2 c2); (have f3 := ck hb2 c3); (have f4 := ck hb2 c4); (have K2 := Lib.hid (K1.out.below hb2))))
  go_wp2_with fail
  refine HKK.out _ _ ?_
  clear HKK
  change Code.wp _ (tailAt 6 turnsBody) _ _ _
  exact turns_asks K2.out SEE.out HC.out HCT.out
set_option linter.unusedSimpArgs false in
set_option maxRecDepth 100000 in
set_option maxHeartbeats 8000000 in
theorem turns_bad {s0 s5 s6 s7 s8 s10 s11 s12 s13 s14 s15 s16 s17 s18 s19 s20 s21 s22 s23 s24 s25 s26 s27 s28 s29 s30 s31 s32 s33 s34 s35 s36 s37 s38 s39 s40 s41 s42 s43 s44 s45 s46 s47 s48 s49 s50 s51 s52 s53 s54 s55 s56 s57 s58 s59 s60 s61 : Value} {A B : HA} {h : HierD} {r s t : Int} {w wx : World} {b9 : Nat} (k : TK A B h w b9 wx) (see : HSee w A h) (hc : checkErr h = .nil) (hct : checkErr (turnD h) = .nil) (hg : ¬ GoodS h) : Code.wp Tryd.prog (tailAt 5 turnsBody) (bodyPost Tryd.prog Tryd.f6 (BoolIs true w)) ⟨#[s0, .int .i64 r, .int .i64 s, .int .i64 t, .pointer (some ⟨w.heap.size, 0, none⟩), s5, s6, s7, s8, .pointer (some ⟨b9, 0, none⟩), s10, s11, s12, s13, s14, s15, s16, s17, s18, s19, s20, s21, s22, s23, s24, s25, s26, s27, s28, s29, s30, s31, s32, s33, s34, s35, s36, s37, s38, s39, s40, s41, s42, s43, s44, s45, s46, s47, s48, s49, s50, s51, s52, s53, s54, s55, s56, s57, s58, s59, s60, s61], []⟩ wx := by
  have K := Lib.hid k
  have SEE := Lib.hid see
  have HC := Lib.hid hc
  have HCT := Lib.hid hct
  have HG := Lib.hid hg
  have HGT : RowKit.Hid (¬ GoodS (turnD h)) := Lib.hid (fun g => hg ((GoodS.turned hc hct).1 g))
  obtain ⟨k0, k1, k2, k3, k4⟩ := hier_five k.x
  obtain ⟨j0, j1, j2, j3, j4⟩ := hier_five k.y
  clear k see hc hct hg
  conv => arg 2; whnf
  apply wp_seq_k
  intro KK hK
  have HKK := Lib.hid hK
  clear hK
  go_upto_region 8 with fail
  go_region_held3 (fun W => W.cell? ⟨w.heap.size, 0, none⟩ = some (.slice A.a0 h.node.length A.c0) ∧ W.cell? ⟨w.heap.size, 1, none⟩ = some (.slice A.a1 h.upF.length A.c1) ∧ W.cell? ⟨w.heap.size, 2, none⟩ = some (.slice A.a2 h.up.length A.c2) ∧ W.cell? ⟨w.heap.size, 3, none⟩ = some (.slice A.a3 h.dnF.length A.c3) ∧ W.cell? ⟨w.heap.size, 4, none⟩ = some (.slice A.a4 h.dn.length A.c4) ∧ W.cell? ⟨b9, 0, none⟩ = some (.slice B.a0 (turnD h).node.length B.c0) ∧ W.cell? ⟨b9, 1, none⟩ = some (.slice B.a1 (turnD h).upF.length B.c1) ∧ W.cell? ⟨b9, 2, none⟩ = some (.slice B.a2 (turnD h).up.length B.c2) ∧ W.cell? ⟨b9, 3, none⟩ = some (.slice B.a3 (turnD h).dnF.length B.c3) ∧ W.cell? ⟨b9, 4, none⟩ = some (.slice B.a4 (turnD h).dn.length B.c4)) (go_keep)
    (first
    | (go_at_call 17; (with_reducible refine (scheck_bad A h _ (SEE.out.below K.out.b.drew) HG.out).mono ?_); rintro e w1 ⟨t1, u1, rfl, hb⟩; (have a0 := ck hb k0); (have a1 := ck hb k1); (have a2 := ck hb k2); (have a3 := ck hb k3); (have a4 := ck hb k4); (have c0 := ck hb j0); (have c1 := ck hb j1); (have c2 := ck hb j2); (have c3 := ck hb j3); (have c4 := ck hb j4); (have K1 := Lib.hid ((K.out.below (Below.refl _ _).drew).below hb)))
    | (go_at_call 17; (with_reducible refine (scheck_badT B h _ K1.out.s HGT.out).mono ?_); rintro e w2 ⟨t2, u2, rfl, hb2⟩; (have d0 := ck hb2 a0); (have d1 := ck hb2 a1); (have d2 := ck hb2 a2); (have d3 := ck hb2 a3); (have d4 := ck hb2 a4); (have f0 := ck hb2 c0); (have f1 := ck hb2 c1); (have f2 := ck hb2 c2); (have f3 := ck hb2 c3); (have f4 := ck hb2 c4); (have K2 := Lib.hid (K1.out.below hb2))))
  go_wp2_with fail
  refine HKK.out _ _ ?_
  clear HKK
  change Code.wp _ (tailAt 6 turnsBody) _ _ _
  exact turns_asks K2.out SEE.out HC.out HCT.out
set_option linter.unusedSimpArgs false in
set_option maxRecDepth 100000 in
set_option maxHeartbeats 8000000 in
theorem turns_fail {s0 s5 s6 s7 s8 s11 s12 s13 s14 s15 s16 s17 s18 s19 s20 s21 s22 s23 s24 s25 s26 s27 s28 s29 s30 s31 s32 s33 s34 s35 s36 s37 s38 s39 s40 s41 s42 s43 s44 s45 s46 s47 s48 s49 s50 s51 s52 s53 s54 s55 s56 s57 s58 s59 s60 s61 : Value} {A : HA} {h : HierD} {r s t : Int} {w wx : World} {b9 : Nat} {t1 : TypeId} {u1 : Value} (k : Cells wx w.heap.size 25 (hierCells A h)) (hb : Below w.heap.size w wx) (see : HSee w A h) (hc : checkErr h ≠ .nil) : Code.wp Tryd.prog (tailAt 4 turnsBody) (bodyPost Tryd.prog Tryd.f6 (BoolIs true w)) ⟨#[s0, .int .i64 r, .int .i64 s, .int .i64 t, .pointer (some ⟨w.heap.size, 0, none⟩), s5, s6, s7, s8, .pointer (some ⟨b9, 0, none⟩), .iface t1 u1, s11, s12, s13, s14, s15, s16, s17, s18, s19, s20, s21, s22, s23, s24, s25, s26, s27, s28, s29, s30, s31, s32, s33, s34, s35, s36, s37, s38, s39, s40, s41, s42, s43, s44, s45, s46, s47, s48, s49, s50, s51, s52, s53, s54, s55, s56, s57, s58, s59, s60, s61], []⟩ wx := by
  have SEE := Lib.hid see
  have HB := Lib.hid hb
  have HC := Lib.hid (fun g : GoodS h => hc g.1)
  obtain ⟨k0, k1, k2, k3, k4⟩ := hier_five k
  clear k see hc hb
  conv => arg 2; whnf
  go_wp2_with fail
  refine (scheck_bad A h _ (SEE.out.below HB.out) HC.out).mono ?_
  rintro e w1 ⟨t2, u2, rfl, hb⟩
  have HB1 := Lib.hid (HB.out.trans (hb.mono HB.out.size))
  clear hb
  go_wp2
  go_returns
  exact ⟨rfl, HB1.out⟩
set_option linter.unusedSimpArgs false in
set_option maxRecDepth 100000 in
set_option maxHeartbeats 8000000 in
theorem turns_ok {s0 s5 s6 s7 s8 s11 s12 s13 s14 s15 s16 s17 s18 s19 s20 s21 s22 s23 s24 s25 s26 s27 s28 s29 s30 s31 s32 s33 s34 s35 s36 s37 s38 s39 s40 s41 s42 s43 s44 s45 s46 s47 s48 s49 s50 s51 s52 s53 s54 s55 s56 s57 s58 s59 s60 s61 : Value} {A B : HA} {h : HierD} {r s t : Int} {w wx : World} {b9 : Nat} (k : TK A B h w b9 wx) (see : HSee w A h) (hc : checkErr h = .nil) (hct : checkErr (turnD h) = .nil) : Code.wp Tryd.prog (tailAt 4 turnsBody) (bodyPost Tryd.prog Tryd.f6 (BoolIs true w)) ⟨#[s0, .int .i64 r, .int .i64 s, .int .i64 t, .pointer (some ⟨w.heap.size, 0, none⟩), s5, s6, s7, s8, .pointer (some ⟨b9, 0, none⟩), .nilIface, s11, s12, s13, s14, s15, s16, s17, s18, s19, s20, s21, s22, s23, s24, s25, s26, s27, s28, s29, s30, s31, s32, s33, s34, s35, s36, s37, s38, s39, s40, s41, s42, s43, s44, s45, s46, s47, s48, s49, s50, s51, s52, s53, s54, s55, s56, s57, s58, s59, s60, s61], []⟩ wx := by
  have K := Lib.hid k
  have SEE := Lib.hid see
  have HC := Lib.hid hc
  have HCT := Lib.hid hct
  clear k see hc hct
  conv => arg 2; whnf
  apply wp_seq_k
  intro KK hK
  have HKK := Lib.hid hK
  clear hK
  go_wp2_with fail
  refine HKK.out _ _ ?_
  change Code.wp _ (tailAt 5 turnsBody) _ _ _
  by_cases hg : GoodS h
  · exact turns_good K.out SEE.out HC.out HCT.out hg
  · exact turns_bad K.out SEE.out HC.out HCT.out hg
set_option linter.unusedSimpArgs false in
set_option maxRecDepth 100000 in
set_option maxHeartbeats 8000000 in
theorem turns_turn {s0 s5 s6 s7 s8 s9 s10 s11 s12 s13 s14 s15 s16 s17 s18 s19 s20 s21 s22 s23 s24 s25 s26 s27 s28 s29 s30 s31 s32 s33 s34 s35 s36 s37 s38 s39 s40 s41 s42 s43 s44 s45 s46 s47 s48 s49 s50 s51 s52 s53 s54 s55 s56 s57 s58 s59 s60 s61 : Value} {A : HA} {h : HierD} {r s t : Int} {w wx : World} (k : Cells wx w.heap.size 25 (hierCells A h)) (hb : Below w.heap.size w wx) (see : HSee w A h) (form : HForm A) : Code.wp Tryd.prog (tailAt 3 turnsBody) (bodyPost Tryd.prog Tryd.f6 (BoolIs true w)) ⟨#[s0, .int .i64 r, .int .i64 s, .int .i64 t, .pointer (some ⟨w.heap.size, 0, none⟩), s5, s6, s7, s8, s9, s10, s11, s12, s13, s14, s15, s16, s17, s18, s19, s20, s21, s22, s23, s24, s25, s26, s27, s28, s29, s30, s31, s32, s33, s34, s35, s36, s37, s38, s39, s40, s41, s42, s43, s44, s45, s46, s47, s48, s49, s50, s51, s52, s53, s54, s55, s56, s57, s58, s59, s60, s61], []⟩ wx := by
  have SEE := Lib.hid see
  have HB := Lib.hid hb
  have HX := Lib.hid k
  have HF := Lib.hid form
  obtain ⟨k0, k1, k2, k3, k4⟩ := hier_five k
  clear k see hb form
  conv => arg 2; whnf
  apply wp_seq_k
  intro KK hK
  have HKK := Lib.hid hK
  clear hK
  go_wp2_with fail
  refine (turn_any A h _ (SEE.out.below HB.out) HF.out).mono ?_
  rintro e w1 (⟨v, rfl, hv, hc, hb⟩ | ⟨B, rfl, hc, hs, -, hb⟩)
  · have HX1 := Lib.hid ((HX.out.below hb HX.out.lt).alloc (.cells (hierCells ⟨none, none, none, none, none, 0, 0, 0, 0, 0⟩ ⟨[], [], [], [], []⟩).toArray 25))
    have HB1 := Lib.hid ((HB.out.trans (hb.mono HB.out.size)).alloc (HB.out.trans (hb.mono HB.out.size)).size (.cells (hierCells ⟨none, none, none, none, none, 0, 0, 0, 0, 0⟩ ⟨[], [], [], [], []⟩).toArray 25))
    have HC := Lib.hid hc
    obtain ⟨t1, u1, rfl⟩ := hv.iface hc
    clear hb hc hv HX HB k0 k1 k2 k3 k4
    unfold zeroHier
    go_wp2_with fail
    refine HKK.out _ _ ?_
    change Code.wp _ (tailAt 4 turnsBody) _ _ _
    exact turns_fail HX1.out HB1.out SEE.out HC.out
  · have HX1 := Lib.hid ((HX.out.below hb HX.out.lt).alloc (.cells (hierCells B (turnD h)).toArray 25))
    have HY1 := Lib.hid (Cells.new w1 25 (hierCells B (turnD h)))
    have HB1 := Lib.hid ((HB.out.trans (hb.mono HB.out.size)).alloc (HB.out.trans (hb.mono HB.out.size)).size (.cells (hierCells B (turnD h)).toArray 25))
    have HS1 := Lib.hid (hs.below ((Below.refl w1.heap.size w1).alloc (Nat.le_refl _) (.cells (hierCells B (turnD h)).toArray 25)))
    have HC := Lib.hid hc
    clear hb hc hs HX HB k0 k1 k2 k3 k4
    unfold hierVal
    go_wp2_with fail
    refine HKK.out _ _ ?_
    change Code.wp _ (tailAt 4 turnsBody) _ _ _
    exact turns_ok ⟨HX1.out, HY1.out, HS1.out, HB1.out⟩ SEE.out HC.out (turn_ok HC.out (by
      obtain ⟨f, e1, e2, -, -⟩ := checkErr_parts HC.out
      exact f.total SEE.out (firsts_nil f.u e1) (firsts_nil f.d e2)))
set_option linter.unusedSimpArgs false in
set_option maxRecDepth 100000 in
set_option maxHeartbeats 8000000 in
theorem turns_few {s0 s5 s6 s7 s8 s9 s10 s11 s12 s13 s14 s15 s16 s17 s18 s19 s20 s21 s22 s23 s24 s25 s26 s27 s28 s29 s30 s31 s32 s33 s34 s35 s36 s37 s38 s39 s40 s41 s42 s43 s44 s45 s46 s47 s48 s49 s50 s51 s52 s53 s54 s55 s56 s57 s58 s59 s60 s61 : Value} {A : HA} {h : HierD} {r s t : Int} {w wx : World} (k : Cells wx w.heap.size 25 (hierCells A h)) (hb : Below w.heap.size w wx) (see : HSee w A h) (form : HForm A) : Code.wp Tryd.prog (tailAt 2 turnsBody) (bodyPost Tryd.prog Tryd.f6 (BoolIs true w)) ⟨#[s0, .int .i64 r, .int .i64 s, .int .i64 t, .pointer (some ⟨w.heap.size, 0, none⟩), s5, s6, s7, s8, s9, s10, s11, s12, s13, s14, s15, s16, s17, s18, s19, s20, s21, s22, s23, s24, s25, s26, s27, s28, s29, s30, s31, s32, s33, s34, s35, s36, s37, s38, s39, s40, s41, s42, s43, s44, s45, s46, s47, s48, s49, s50, s51, s52, s53, s54, s55, s56, s57, s58, s59, s60, s61], []⟩ wx := by
  have SEE := Lib.hid see
  have HB := Lib.hid hb
  have HX := Lib.hid k
  have HF := Lib.hid form
  obtain ⟨k0, k1, k2, k3, k4⟩ := hier_five k
  clear k see hb form
  conv => arg 2; whnf
  apply wp_seq_k
  intro KK hK
  have HKK := Lib.hid hK
  clear hK
  go_wp2_with fail
  refine (few_any A h _).mono ?_
  rintro e w1 ⟨c, rfl, hb⟩
  have HX1 := Lib.hid (HX.out.below hb HX.out.lt)
  have HB1 := Lib.hid (HB.out.trans (hb.mono HB.out.size))
  clear hb HX HB k0 k1 k2 k3 k4
  cases c
  · go_wp2
    go_returns
    exact ⟨rfl, HB1.out⟩
  · go_wp2_with fail
    refine HKK.out _ _ ?_
    change Code.wp _ (tailAt 3 turnsBody) _ _ _
    exact turns_turn HX1.out HB1.out SEE.out HF.out
set_option linter.unusedSimpArgs false in
set_option maxRecDepth 100000 in
set_option maxHeartbeats 8000000 in
theorem turns_awake {s0 s5 s6 s7 s8 s9 s10 s11 s12 s13 s14 s15 s16 s17 s18 s19 s20 s21 s22 s23 s24 s25 s26 s27 s28 s29 s30 s31 s32 s33 s34 s35 s36 s37 s38 s39 s40 s41 s42 s43 s44 s45 s46 s47 s48 s49 s50 s51 s52 s53 s54 s55 s56 s57 s58 s59 s60 s61 : Value} {A : HA} {h : HierD} {r s t : Int} {w wx : World} (k : Cells wx w.heap.size 25 (hierCells A h)) (hb : Below w.heap.size w wx) (see : HSee w A h) (form : HForm A) (hg : EVar wx) : Code.wp Tryd.prog (tailAt 1 turnsBody) (bodyPost Tryd.prog Tryd.f6 (BoolIs true w)) ⟨#[s0, .int .i64 r, .int .i64 s, .int .i64 t, .pointer (some ⟨w.heap.size, 0, none⟩), s5, s6, s7, s8, s9, s10, s11, s12, s13, s14, s15, s16, s17, s18, s19, s20, s21, s22, s23, s24, s25, s26, s27, s28, s29, s30, s31, s32, s33, s34, s35, s36, s37, s38, s39, s40, s41, s42, s43, s44, s45, s46, s47, s48, s49, s50, s51, s52, s53, s54, s55, s56, s57, s58, s59, s60, s61], []⟩ wx := by
  have SEE := Lib.hid see
  have HB := Lib.hid hb
  have HX := Lib.hid k
  have HF := Lib.hid form
  have HG := Lib.hid hg
  clear k see hb form hg
  conv => arg 2; whnf
  apply wp_seq_k
  intro KK hK
  have HKK := Lib.hid hK
  clear hK
  go_wp2_with fail
  refine (awake16_any _ HG.out).mono ?_
  rintro e w1 ⟨rfl, hb⟩
  have HX1 := Lib.hid (HX.out.below hb HX.out.lt)
  have HB1 := Lib.hid (HB.out.trans (hb.mono HB.out.size))
  clear hb HX HB
  go_wp2_with fail
  refine HKK.out _ _ ?_
  change Code.wp _ (tailAt 2 turnsBody) _ _ _
  exact turns_few HX1.out HB1.out SEE.out HF.out
set_option linter.unusedSimpArgs false in
set_option maxRecDepth 100000 in
set_option maxHeartbeats 8000000 in
theorem soundTurns_any (A : HA) (h : HierD) (r s t : Int) (w : World) (hg : EVar w) (see : HSee w A h) (form : HForm A) : Calls Tryd.prog 6 #[hierVal A h, .int .i64 r, .int .i64 s, .int .i64 t] w (BoolIs true w) := by
  have HX := Lib.hid (Cells.new w 25 (hierCells A h))
  have HB := Lib.hid ((Below.refl w.heap.size w).alloc (Nat.le_refl _) (.cells (hierCells A h).toArray 25))
  have SEE := Lib.hid see
  have HF := Lib.hid form
  have HG := Lib.hid (hg.below HB.out)
  clear see form hg
  unfold hierVal
  go_enter Tryd.func6, Tryd.ntmps6
  apply wp_seq_k
  intro KK hK
  have HKK := Lib.hid hK
  clear hK
  go_wp2_with fail
  refine HKK.out _ _ ?_
  change Code.wp _ (tailAt 1 turnsBody) _ _ _
  exact turns_awake HX.out HB.out SEE.out HF.out HG.out
end Go.Proofs.YtjbphoophgbmiaaDoor
