/- The contracts of query's Distance and Meet. -/
import Derived.Test.YtchhbgckonpedaaGreatDoorG15
import Derived.Test.YtchhbgckonpedaaGreatDoorG14
import Derived.Laws.Cover3
import Derived.Laws.StructEq
namespace Go.Proofs.YtchhbgckonpedaaGreatDoor
open Go.ChangeShapes Go.WideShapes Go.ChangeAt Go.RowKit Go.Joins Go.Deep
theorem meet_any (A : HA) (h : HierD) (s t : Int) (w : World) (see : HSee w A h) (hs64 : s ≤ 9223372036854775807) (ht64 : t ≤ 9223372036854775807) : Calls Tryz.prog 59 #[hierVal A h, .int .i64 s, .int .i64 t] w (MeetPost h s t w) := by
  by_cases hc : checkErr h = .nil
  · by_cases hk : nodesErr h.node.length s t = .nil
    · have hr : (0 ≤ s ∧ s < h.node.length) ∧ 0 ≤ t ∧ t < h.node.length := by
        unfold nodesErr at hk
        split at hk
        · cases hk
        split at hk
        · cases hk
        omega
      obtain ⟨a, rfl⟩ : ∃ a : Nat, s = a := ⟨s.toNat, by omega⟩
      obtain ⟨b, rfl⟩ : ∃ b : Nat, t = b := ⟨t.toNat, by omega⟩
      exact meet_walk A h a b w see hc (by omega) (by omega)
    · exact meet_nodes A h s t w see hc hk hs64 ht64
  · exact meet_form A h s t w see hc
def DistPost (h : HierD) (s t : Int) (w : World) (e : Ending) (w' : World) : Prop :=
  ∃ r d x v, e = .returned (.tuple #[.int .u64 d, v]) ∧ ErrIs w' v x ∧ MeetIs h s t r d x ∧ Below w.heap.size w w'
def RankPost (h : HierD) (s t : Int) (w : World) (e : Ending) (w' : World) : Prop :=
  ∃ (r : Nat) (d : Int) (x : EV) (v : Value), e = .returned (.tuple #[.int .i64 (r : Int), v]) ∧ ErrIs w' v x ∧ MeetIs h s t r d x ∧ Below w.heap.size w w'
set_option maxRecDepth 100000 in
theorem distance_any (A : HA) (h : HierD) (s t : Int) (w : World) (see : HSee w A h) (hs64 : s ≤ 9223372036854775807) (ht64 : t ≤ 9223372036854775807) : Calls Tryz.prog 32 #[hierVal A h, .int .i64 s, .int .i64 t] w (DistPost h s t w) := by
  have SEE := Lib.hid see
  clear see
  unfold hierVal
  go_enter Tryz.func32, Tryz.ntmps32
  go_wp2_with fail
  refine (meet_any A h s t _ (SEE.out.below ((Below.refl _ _).alloc (Nat.le_refl _) _)) hs64 ht64).mono ?_
  rintro e w1 ⟨r, d, x, v, rfl, hv, hm, hb⟩
  unfold bestVal
  have HV := Lib.hid hv
  have HM := Lib.hid hm
  have HB := Lib.hid (((Below.refl w.heap.size w).alloc (Nat.le_refl _) _).trans (hb.mono (by simp)))
  clear hv hm hb
  go_wp2
  go_returns
  exact ⟨r, d, x, _, rfl, HV.out.alloc _, HM.out, HB.out.alloc HB.out.size _⟩
set_option maxRecDepth 100000 in
theorem qmeet_any (A : HA) (h : HierD) (s t : Int) (w : World) (see : HSee w A h) (hs64 : s ≤ 9223372036854775807) (ht64 : t ≤ 9223372036854775807) : Calls Tryz.prog 44 #[hierVal A h, .int .i64 s, .int .i64 t] w (RankPost h s t w) := by
  have SEE := Lib.hid see
  clear see
  unfold hierVal
  go_enter Tryz.func44, Tryz.ntmps44
  go_wp2_with fail
  refine (meet_any A h s t _ (SEE.out.below ((Below.refl _ _).alloc (Nat.le_refl _) _)) hs64 ht64).mono ?_
  rintro e w1 ⟨r, d, x, v, rfl, hv, hm, hb⟩
  unfold bestVal
  have HV := Lib.hid hv
  have HM := Lib.hid hm
  have HB := Lib.hid (((Below.refl w.heap.size w).alloc (Nat.le_refl _) _).trans (hb.mono (by simp)))
  clear hv hm hb
  go_wp2
  go_returns
  exact ⟨r, d, x, _, rfl, HV.out.alloc _, HM.out, HB.out.alloc HB.out.size _⟩
end Go.Proofs.YtchhbgckonpedaaGreatDoor
namespace Go.Proofs.YtchhbgckonpedaaGreatDoor
def childOf (ups downs i : Nat) : Nat := if i = 4294967295 then i else if i < ups then i + downs else i - ups
def turnLink (ups downs : Nat) (l : LinkD) : LinkD := ⟨l.to, l.wt, childOf ups downs l.right, childOf ups downs l.left⟩
def turnD (h : HierD) : HierD := ⟨h.node, h.dnF, h.dn.map (turnLink h.up.length h.dn.length), h.upF, h.up.map (turnLink h.up.length h.dn.length)⟩
theorem seg_map (f : LinkD → LinkD) (first : List Nat) (links : List LinkD) (r : Nat) : seg first (links.map f) r = (seg first links r).map f := by
  unfold seg
  rw [← List.map_take, ← List.map_drop]
theorem getD_app_left {α : Type} (l m : List α) (i : Nat) (d : α) (h : i < l.length) : (l ++ m).getD i d = l.getD i d := by
  rw [List.getD_eq_getElem?_getD, List.getElem?_append_left h, List.getD_eq_getElem?_getD]
theorem getD_app_right {α : Type} (l m : List α) (i : Nat) (d : α) (h : l.length ≤ i) : (l ++ m).getD i d = m.getD (i - l.length) d := by
  rw [List.getD_eq_getElem?_getD, List.getElem?_append_right h, List.getD_eq_getElem?_getD]
theorem getD_map_lt {α β : Type} (f : α → β) (l : List α) (i : Nat) (a : α) (b : β) (h : i < l.length) : (l.map f).getD i b = f (l.getD i a) := by
  rw [List.getD_eq_getElem?_getD, List.getElem?_map, List.getD_eq_getElem?_getD, List.getElem?_eq_getElem h]
  rfl
theorem linksGo_all {n ups : Nat} {all : List EndD} : ∀ m, (∀ k, k < m → shapeB n ups all k = true ∧ weightB all k = true) → linksGo n ups all m = .nil := by
  intro m
  induction m with
  | zero => intro _; rfl
  | succ m ih =>
    intro h
    unfold linksGo
    rw [ih (fun k hk => h k (by omega))]
    obtain ⟨h1, h2⟩ := h m (by omega)
    simp only
    rw [if_neg (by rw [h1]; simp), if_neg (by rw [h2]; simp)]
theorem plain_iff (l : LinkD) : l.plain = true ↔ l.left = 4294967295 ∧ l.right = 4294967295 := by simp [LinkD.plain]
end Go.Proofs.YtchhbgckonpedaaGreatDoor
/- What a hierarchy turned about answers; what is answered for a node and itself. No program here. -/
namespace Go.Proofs.YtchhbgckonpedaaGreatDoor
theorem IsD.turn {n : Nat} {first : List Nat} {links : List LinkD} {s : Nat} {D : Nat → Option Int} (f : LinkD → LinkD) (hto : ∀ l, (f l).to = l.to) (hwt : ∀ l, (f l).wt = l.wt) : IsD n first (links.map f) s D ↔ IsD n first links s D := by
  constructor
  · intro h
    refine ⟨h.src, fun x d l hx hd hl => ?_, fun r e hr he => ?_, h.dom⟩
    · obtain ⟨e, h1, h2⟩ := h.fwd x d (f l) hx hd (by rw [seg_map]; exact List.mem_map_of_mem hl)
      exact ⟨e, by rw [← hto l]; exact h1, by rw [← hwt l]; exact h2⟩
    · obtain ⟨x, d, l, hx, hd, hl, h1, h2⟩ := h.bwd r e hr he
      rw [seg_map, List.mem_map] at hl
      obtain ⟨l', hl', rfl⟩ := hl
      exact ⟨x, d, l', hx, hd, hl', by rw [← hto l']; exact h1, by rw [← hwt l']; exact h2⟩
  · intro h
    refine ⟨h.src, fun x d l hx hd hl => ?_, fun r e hr he => ?_, h.dom⟩
    · rw [seg_map, List.mem_map] at hl
      obtain ⟨l', hl', rfl⟩ := hl
      obtain ⟨e, h1, h2⟩ := h.fwd x d l' hx hd hl'
      exact ⟨e, by rw [hto l']; exact h1, by rw [hwt l']; exact h2⟩
    · obtain ⟨x, d, l, hx, hd, hl, h1, h2⟩ := h.bwd r e hr he
      exact ⟨x, d, f l, hx, hd, by rw [seg_map]; exact List.mem_map_of_mem hl, by rw [hto l]; exact h1, by rw [hwt l]; exact h2⟩
theorem meetTo_congr {D E D' E' : Nat → Option Int} (hD : ∀ r, D r = D' r) (hE : ∀ r, E r = E' r) (k : Nat) : meetTo D E k = meetTo D' E' k := by
  rw [show D = D' from funext hD, show E = E' from funext hE]
theorem nodesErr_nil {n : Nat} {s t : Int} : nodesErr n s t = .nil ↔ (0 ≤ s ∧ s < n) ∧ 0 ≤ t ∧ t < n := by
  unfold nodesErr
  split
  · rename_i h; exact ⟨fun e => (by cases e), fun h' => by omega⟩
  split
  · rename_i h1 h; exact ⟨fun e => (by cases e), fun h' => by omega⟩
  · exact ⟨fun _ => by omega, fun _ => rfl⟩
theorem MeetIs.same {h : HierD} {s t : Int} {r r' : Nat} {d d' : Int} {x x' : EV} (a : MeetIs h s t r d x) (b : MeetIs h s t r' d' x') : r = r' ∧ d = d' ∧ x = x' := by
  have key : ∀ {D E D' E' : Nat → Option Int}, checkErr h = .nil → IsD h.node.length h.upF h.up (h.node.idxOf s.toNat) D → IsD h.node.length h.dnF h.dn (h.node.idxOf t.toNat) E → IsD h.node.length h.upF h.up (h.node.idxOf s.toNat) D' → IsD h.node.length h.dnF h.dn (h.node.idxOf t.toNat) E' → meetTo D E h.node.length = meetTo D' E' h.node.length :=
    fun e hD hE hD' hE' => meetTo_congr (hD.unique (half_up e) hD') (hE.unique (half_dn e) hE') _
  cases a with
  | form e =>
    cases b with
    | form _ => exact ⟨rfl, rfl, rfl⟩
    | nodes e' _ => exact absurd e' e
    | walk _ _ _ _ e' => exact absurd e' e
    | none _ _ e' => exact absurd e' e
  | nodes e k =>
    cases b with
    | form e' => exact absurd e e'
    | nodes _ _ => exact ⟨rfl, rfl, rfl⟩
    | walk _ _ _ _ _ k' => exact absurd k' k
    | none _ _ _ k' => exact absurd k' k
  | walk D E _ _ e k hD hE hm hd =>
    cases b with
    | form e' => exact absurd e e'
    | nodes _ k' => exact absurd k k'
    | walk D' E' _ _ _ _ hD' hE' hm' hd' =>
      have := key e hD hE hD' hE'
      rw [hm, hm'] at this
      simp only [Prod.mk.injEq] at this
      exact ⟨this.1, this.2, rfl⟩
    | none D' E' _ _ hD' hE' hd' =>
      have := key e hD hE hD' hE'
      rw [hm] at this
      rw [← this] at hd'
      exact absurd hd' hd
  | none D E e k hD hE hd =>
    cases b with
    | form e' => exact absurd e e'
    | nodes _ k' => exact absurd k k'
    | walk D' E' _ _ _ _ hD' hE' hm' hd' =>
      have := key e hD hE hD' hE'
      rw [hm'] at this
      rw [this] at hd
      exact absurd hd hd'
    | none _ _ _ _ _ _ _ => exact ⟨rfl, rfl, rfl⟩
theorem MeetIs.turned {h : HierD} {s t : Int} {r r' : Nat} {d d' : Int} {x x' : EV} (hc : checkErr h = .nil) (hc' : checkErr (turnD h) = .nil) (a : MeetIs h s t r d x) (b : MeetIs (turnD h) t s r' d' x') : r = r' ∧ d = d' ∧ (x = .nil ↔ x' = .nil) := by
  have hk : nodesErr h.node.length s t = .nil ↔ nodesErr h.node.length t s = .nil := by rw [nodesErr_nil, nodesErr_nil]; exact And.comm
  have key : ∀ {D E D' E' : Nat → Option Int}, IsD h.node.length h.upF h.up (h.node.idxOf s.toNat) D → IsD h.node.length h.dnF h.dn (h.node.idxOf t.toNat) E → IsD (turnD h).node.length (turnD h).upF (turnD h).up ((turnD h).node.idxOf t.toNat) D' → IsD (turnD h).node.length (turnD h).dnF (turnD h).dn ((turnD h).node.idxOf s.toNat) E' → meetTo D E h.node.length = meetTo D' E' (turnD h).node.length := by
    intro D E D' E' hD hE hD' hE'
    have h1 : IsD h.node.length h.dnF h.dn (h.node.idxOf t.toNat) D' := (IsD.turn (turnLink h.up.length h.dn.length) (fun _ => rfl) (fun _ => rfl)).1 hD'
    have h2 : IsD h.node.length h.upF h.up (h.node.idxOf s.toNat) E' := (IsD.turn (turnLink h.up.length h.dn.length) (fun _ => rfl) (fun _ => rfl)).1 hE'
    rw [meetTo_swap]
    exact meetTo_congr (hE.unique (half_dn hc) h1) (hD.unique (half_up hc) h2) _
  cases a with
  | form e => exact absurd hc e
  | nodes e k =>
    cases b with
    | form e' => exact absurd hc' e'
    | nodes _ k' => exact ⟨rfl, rfl, ⟨fun h => absurd h k, fun h => absurd h k'⟩⟩
    | walk _ _ _ _ _ k' => exact absurd (hk.2 k') k
    | none _ _ _ k' => exact absurd (hk.2 k') k
  | walk D E _ _ e k hD hE hm hd =>
    cases b with
    | form e' => exact absurd hc' e'
    | nodes _ k' => exact absurd (hk.1 k) k'
    | walk D' E' _ _ _ _ hD' hE' hm' hd' =>
      have := key hD hE hD' hE'
      rw [hm, hm'] at this
      simp only [Prod.mk.injEq] at this
      exact ⟨this.1, this.2, Iff.rfl⟩
    | none D' E' _ _ hD' hE' hd' =>
      have := key hD hE hD' hE'
      rw [hm] at this
      rw [← this] at hd'
      exact absurd hd' hd
  | none D E e k hD hE hd =>
    cases b with
    | form e' => exact absurd hc' e'
    | nodes _ k' => exact absurd (hk.1 k) k'
    | walk D' E' _ _ _ _ hD' hE' hm' hd' =>
      have := key hD hE hD' hE'
      rw [hm'] at this
      rw [this] at hd
      exact absurd hd hd'
    | none _ _ _ _ _ _ _ => exact ⟨rfl, rfl, Iff.rfl⟩
theorem IsD.ge {n : Nat} {first : List Nat} {links : List LinkD} {s : Nat} {D : Nat → Option Int} (ok : HalfOk n first links) (h : IsD n first links s D) : ∀ r, r < s → D r = none := by
  intro r
  induction r using Nat.strongRecOn with
  | _ r ih =>
    intro hr
    cases hD : D r with
    | none => rfl
    | some e =>
      obtain ⟨x, d, l, hx, hd, hl, hto, -⟩ := h.bwd r e (by omega) hD
      have h1 := (ok.up x hx l hl).1
      rw [hto] at h1
      rw [ih x h1 (by omega)] at hd
      cases hd
end Go.Proofs.YtchhbgckonpedaaGreatDoor
/- The distances upwards as the document reckons them, rank by rank: they are the least lengths. The example of three nodes. No program here. -/
namespace Go.Proofs.YtchhbgckonpedaaGreatDoor
def relaxD (d : Int) (D : Nat → Option Int) (l : LinkD) : Nat → Option Int := fun r => if r = l.to then some (match D r with | some e => if d + l.wt < e then d + l.wt else e | none => d + l.wt) else D r
def farOf : Option Int → Int
  | some d => d
  | none => 18446744073709551615
def startD (s : Nat) : Nat → Option Int := fun r => if r = s then some 0 else none
def distsK (first : List Nat) (links : List LinkD) (s : Nat) : Nat → Nat → Option Int
  | 0 => startD s
  | k + 1 => match distsK first links s k k with
    | none => distsK first links s k
    | some d => (seg first links k).foldl (relaxD d) (distsK first links s k)
theorem relax_le (d : Int) (ls : List LinkD) (k : Nat) (h : ∀ l ∈ ls, k < l.to) : ∀ (D : Nat → Option Int) r, r ≤ k → ls.foldl (relaxD d) D r = D r := by
  induction ls with
  | nil => intro D r _; rfl
  | cons l ls ih =>
    intro D r hr
    rw [List.foldl_cons, ih (fun x hx => h x (by simp [hx])) _ r hr]
    have := h l (by simp)
    exact if_neg (by omega)
theorem relax_mono (d : Int) (ls : List LinkD) : ∀ (D : Nat → Option Int) r e, D r = some e → ∃ e', ls.foldl (relaxD d) D r = some e' ∧ e' ≤ e := by
  induction ls with
  | nil => intro D r e h; exact ⟨e, h, Int.le_refl _⟩
  | cons l ls ih =>
    intro D r e h
    rw [List.foldl_cons]
    have : ∃ e1, relaxD d D l r = some e1 ∧ e1 ≤ e := by
      unfold relaxD
      by_cases hr : r = l.to
      · rw [if_pos hr, h]
        simp only
        by_cases h1 : d + l.wt < e
        · rw [if_pos h1]; exact ⟨_, rfl, by omega⟩
        · rw [if_neg h1]; exact ⟨_, rfl, Int.le_refl _⟩
      · rw [if_neg hr]; exact ⟨e, h, Int.le_refl _⟩
    obtain ⟨e1, h1, h2⟩ := this
    obtain ⟨e2, h3, h4⟩ := ih _ r e1 h1
    exact ⟨e2, h3, by omega⟩
theorem relax_new (d : Int) (ls : List LinkD) : ∀ (D : Nat → Option Int), ∀ l ∈ ls, ∃ e, ls.foldl (relaxD d) D l.to = some e ∧ e ≤ d + l.wt := by
  induction ls with
  | nil => intro D l h; cases h
  | cons x ls ih =>
    intro D l h
    rw [List.foldl_cons]
    rw [List.mem_cons] at h
    rcases h with rfl | h
    · have : ∃ e1, relaxD d D l l.to = some e1 ∧ e1 ≤ d + l.wt := by
        unfold relaxD
        rw [if_pos rfl]
        cases D l.to with
        | none => exact ⟨_, rfl, Int.le_refl _⟩
        | some e =>
          simp only
          by_cases h1 : d + l.wt < e
          · rw [if_pos h1]; exact ⟨_, rfl, Int.le_refl _⟩
          · rw [if_neg h1]; exact ⟨_, rfl, by omega⟩
      obtain ⟨e1, h1, h2⟩ := this
      obtain ⟨e2, h3, h4⟩ := relax_mono d ls _ _ _ h1
      exact ⟨e2, h3, by omega⟩
    · exact ih _ l h
theorem relax_src (d : Int) (ls : List LinkD) : ∀ (D : Nat → Option Int) r e, ls.foldl (relaxD d) D r = some e → D r = some e ∨ ∃ l ∈ ls, l.to = r ∧ e = d + l.wt := by
  induction ls with
  | nil => intro D r e h; exact .inl h
  | cons x ls ih =>
    intro D r e h
    rw [List.foldl_cons] at h
    rcases ih _ r e h with h1 | ⟨l, hl, h1⟩
    · unfold relaxD at h1
      by_cases hr : r = x.to
      · rw [if_pos hr] at h1
        cases hD : D r with
        | none =>
          rw [hD] at h1
          simp only [Option.some.injEq] at h1
          exact .inr ⟨x, by simp, hr.symm, h1.symm⟩
        | some e0 =>
          rw [hD] at h1
          simp only [Option.some.injEq] at h1
          by_cases h2 : d + x.wt < e0
          · rw [if_pos h2] at h1
            exact .inr ⟨x, by simp, hr.symm, h1.symm⟩
          · rw [if_neg h2] at h1
            exact .inl (by rw [h1])
      · rw [if_neg hr] at h1
        exact .inl h1
    · exact .inr ⟨l, by simp [hl], h1⟩
structure DistK (n : Nat) (first : List Nat) (links : List LinkD) (s k : Nat) (D : Nat → Option Int) : Prop where
  src : D s = some 0
  fwd : ∀ x d l, x < k → D x = some d → l ∈ seg first links x → ∃ e, D l.to = some e ∧ e ≤ d + l.wt
  bwd : ∀ r e, r ≠ s → D r = some e → ∃ x d l, x < k ∧ x < r ∧ D x = some d ∧ l ∈ seg first links x ∧ l.to = r ∧ e = d + l.wt
  dom : ∀ r e, D r = some e → r < n
  low : ∀ r e, D r = some e → s ≤ r
theorem distsK_ok {n : Nat} {first : List Nat} {links : List LinkD} {s : Nat} (ok : HalfOk n first links) (hs : s < n) : ∀ k, k ≤ n → DistK n first links s k (distsK first links s k) := by
  intro k
  induction k with
  | zero =>
    intro _
    refine ⟨by simp [distsK, startD], fun x d l h => by omega, fun r e hr h => ?_, fun r e h => ?_, fun r e h => ?_⟩
    · simp [distsK, startD, hr] at h
    · by_cases hr : r = s
      · omega
      · simp [distsK, startD, hr] at h
    · by_cases hr : r = s
      · omega
      · simp [distsK, startD, hr] at h
  | succ k ih =>
    intro hk
    have I := ih (by omega)
    conv => rhs; unfold distsK
    cases hD : distsK first links s k k with
    | none =>
      simp only
      refine ⟨I.src, fun x d l hx hd hl => ?_, fun r e hr h => ?_, I.dom, I.low⟩
      · rcases Nat.lt_or_ge x k with h1 | h1
        · exact I.fwd x d l h1 hd hl
        · obtain rfl : x = k := by omega
          rw [hD] at hd; cases hd
      · obtain ⟨x, d, l, h1, h2⟩ := I.bwd r e hr h
        exact ⟨x, d, l, by omega, h2⟩
    | some d =>
      simp only
      have hup : ∀ l ∈ seg first links k, k < l.to := fun l hl => (ok.up k (by omega) l hl).1
      have hle := relax_le d (seg first links k) k hup (distsK first links s k)
      have hsk := I.low k d hD
      refine ⟨by rw [hle s hsk]; exact I.src, fun x d' l hx hd hl => ?_, fun r e hr h => ?_, fun r e h => ?_, fun r e h => ?_⟩
      · rw [hle x (by omega)] at hd
        rcases Nat.lt_or_ge x k with h1 | h1
        · obtain ⟨e, h2, h3⟩ := I.fwd x d' l h1 hd hl
          obtain ⟨e', h4, h5⟩ := relax_mono d (seg first links k) _ _ _ h2
          exact ⟨e', h4, by omega⟩
        · obtain rfl : x = k := by omega
          rw [hD] at hd
          simp only [Option.some.injEq] at hd
          subst hd
          exact relax_new d _ _ l hl
      · rcases relax_src d _ _ r e h with h1 | ⟨l, hl, hto, he⟩
        · obtain ⟨x, d', l, h2, h3, h4, h5⟩ := I.bwd r e hr h1
          exact ⟨x, d', l, by omega, h3, by rw [hle x (by omega)]; exact h4, h5⟩
        · exact ⟨k, d, l, by omega, by rw [← hto]; exact hup l hl, by rw [hle k (Nat.le_refl _)]; exact hD, hl, hto, he⟩
      · rcases relax_src d _ _ r e h with h1 | ⟨l, hl, hto, he⟩
        · exact I.dom r e h1
        · rw [← hto]; exact (ok.up k (by omega) l hl).2.1
      · rcases relax_src d _ _ r e h with h1 | ⟨l, hl, hto, he⟩
        · exact I.low r e h1
        · have := hup l hl
          omega
theorem dists_isD {n : Nat} {first : List Nat} {links : List LinkD} {s : Nat} (ok : HalfOk n first links) (hs : s < n) : IsD n first links s (distsK first links s n) := by
  have I := distsK_ok ok hs n (Nat.le_refl _)
  exact ⟨I.src, fun x d l hx hd hl => I.fwd x d l hx hd hl, fun r e hr h => by
    obtain ⟨x, d, l, h1, h2, h3⟩ := I.bwd r e hr h
    exact ⟨x, d, l, h1, h3⟩, I.dom⟩
def threeD : HierD := ⟨[1, 0, 2], [0, 1, 2, 2], [⟨2, 1, 4294967295, 4294967295⟩, ⟨2, 5, 2, 0⟩], [0, 1, 1, 1], [⟨1, 4, 4294967295, 4294967295⟩]⟩
theorem three_form : checkErr threeD = .nil := by decide +kernel
theorem MeetIs.is {h : HierD} {s t : Int} {r : Nat} {d : Int} {x : EV} (hc : checkErr h = .nil) (hk : nodesErr h.node.length s t = .nil) (a : MeetIs h s t r d x) :
    (if (meetTo (distsK h.upF h.up (h.node.idxOf s.toNat) h.node.length) (distsK h.dnF h.dn (h.node.idxOf t.toNat) h.node.length) h.node.length).2 = 18446744073709551615 then (0, (0 : Int), EV.code 16)
      else ((meetTo (distsK h.upF h.up (h.node.idxOf s.toNat) h.node.length) (distsK h.dnF h.dn (h.node.idxOf t.toNat) h.node.length) h.node.length).1, (meetTo (distsK h.upF h.up (h.node.idxOf s.toNat) h.node.length) (distsK h.dnF h.dn (h.node.idxOf t.toNat) h.node.length) h.node.length).2, .nil)) = (r, d, x) := by
  obtain ⟨f, -, -, ho, -⟩ := checkErr_parts hc
  have ok := order_nil ho
  obtain ⟨⟨h1, h2⟩, h3, h4⟩ := nodesErr_nil.1 hk
  have i1 : h.node.idxOf s.toNat < h.node.length := List.idxOf_lt_length_iff.2 (ok.mem _ (by omega))
  have i2 : h.node.idxOf t.toNat < h.node.length := List.idxOf_lt_length_iff.2 (ok.mem _ (by omega))
  have D := dists_isD (half_up hc) i1
  have E := dists_isD (half_dn hc) i2
  split
  · rename_i h5
    obtain ⟨a1, a2, a3⟩ := (MeetIs.none _ _ hc hk D E h5).same a
    rw [a1, a2, a3]
  · rename_i h5
    obtain ⟨a1, a2, a3⟩ := (MeetIs.walk _ _ _ _ hc hk D E rfl h5).same a
    rw [a1, a2, ← a3]
theorem three_02 {r : Nat} {d : Int} {x : EV} (a : MeetIs threeD 0 2 r d x) : r = 2 ∧ d = 5 ∧ x = .nil := by
  have h := MeetIs.is three_form (by decide +kernel) a
  rw [show (if _ = _ then _ else _ : Nat × Int × EV) = (2, 5, .nil) from by decide +kernel] at h
  simp only [Prod.mk.injEq] at h
  exact ⟨h.1.symm, h.2.1.symm, h.2.2.symm⟩
end Go.Proofs.YtchhbgckonpedaaGreatDoor
namespace Go.Proofs.YtchhbgckonpedaaGreatDoor
open Go.ChangeShapes Go.WideShapes Go.ChangeAt Go.RowKit Go.Joins Go.Deep
end Go.Proofs.YtchhbgckonpedaaGreatDoor
/- The contract of Turn's closure that turns a list of links. -/
namespace Go.Proofs.YtchhbgckonpedaaGreatDoor
open Go.ChangeShapes Go.WideShapes Go.ChangeAt Go.RowKit Go.Joins Go.Deep
theorem Tryz.infoLink : (Tryz.prog.info? 65).map (fun i => (i.zero, i.size, i.bytes)) = some (some (.agg #[.int .u32 0, .int .u64 0, .int .u32 0, .int .u32 0]), 4, 24) := by kernel_rfl
end Go.Proofs.YtchhbgckonpedaaGreatDoor
/- The contract of slices.Clone at lists of words. -/
namespace Go.Proofs.YtchhbgckonpedaaGreatDoor
open Go.ChangeShapes Go.WideShapes Go.ChangeAt Go.RowKit Go.Joins Go.Deep
theorem Tryz.infoU32 : (Tryz.prog.info? 62).map (fun i => (i.zero, i.size, i.bytes)) = some (some (.int .u32 0), 1, 4) := by kernel_rfl
def SForm (ao : Option Addr) (cap : Nat) : Prop := (ao = none ∧ cap = 0) ∨ ∃ b o, ao = some ⟨b, o, none⟩
theorem own_form2 {w : World} {base size n cap : Nat} {e : TypeId} {ao : Option Addr} {xs : List Value} (h : w.ownsRow base e size (.slice ao n cap) n xs) : SForm ao cap := by
  rcases h.2 with ⟨h1, -⟩ | ⟨g, c, cur, h1, -⟩
  · simp only [Value.slice.injEq] at h1
    exact .inl ⟨h1.1, h1.2.2⟩
  · simp only [Value.slice.injEq] at h1
    exact .inr ⟨g, 0, h1.1⟩
end Go.Proofs.YtchhbgckonpedaaGreatDoor
/- Each of a hierarchy's slices is nil, or has a place. -/
namespace Go.Proofs.YtchhbgckonpedaaGreatDoor
structure HForm (A : HA) : Prop where
  f0 : SForm A.a0 A.c0
  f1 : SForm A.a1 A.c1
  f2 : SForm A.a2 A.c2
  f3 : SForm A.a3 A.c3
  f4 : SForm A.a4 A.c4
end Go.Proofs.YtchhbgckonpedaaGreatDoor
namespace Go.Proofs.YtchhbgckonpedaaGreatDoor
open Go.ChangeShapes Go.WideShapes Go.ChangeAt Go.RowKit Go.Joins Go.Deep
theorem See.of_cells {α : Type} {w : World} {b : Nat} {t : TypeId} {f : α → List Value} {sz : Nat} {l : List α} (hf : ∀ x, (f x).length = sz) (h : Cells w b t (l.flatMap f)) (hl : l.length ≤ maxLen) : See w (some ⟨b, 0, none⟩) l.length f sz l := by
  refine ⟨Nat.le_refl _, hl, fun i x hx => ⟨b, 0, rfl, fun j u hu => ?_⟩⟩
  have hj : j < sz := by rw [← hf x]; exact (List.getElem?_eq_some_iff.1 hu).1
  have := flat_get hf l i j hj
  rw [hx] at this
  rw [Nat.zero_add]
  exact h.cell (this.trans hu)
theorem Cells.new' {w : World} {b : Nat} (hb : w.heap.size = b) (t : TypeId) (l : List Value) : Cells (w.alloc (.cells l.toArray t)) b t l := hb ▸ Cells.new w t l
theorem results_c {P : Program} {fn : Func} {p : Tmp} {ty : TypeId} (h : fn.results = #[.cell p ty]) (tmps : Array Value) (w : World) (g : Nat) (t : TypeId) (cs : List Value) (d : TypeDesc)
    (hp : tmps.getD p undef = .pointer (some ⟨g, 0, none⟩)) (hg : Cells w g t cs)
    (hu : P.underlying ty = some d) (hd : (match d with | .struct _ | .array _ _ => true | _ => false) = true) (hi : (P.info? ty).map (·.size) = some cs.length) :
    (results fn tmps).run P w = .ok (.agg cs.toArray) w := by
  have hp' : tmps[p]?.getD undef = .pointer (some ⟨g, 0, none⟩) := by simpa using hp
  have hr := run_loadVar_row (P := P) w g t ty cs.toArray (0, 0) d hg hu hd (by simpa using hi)
  simp [results, h, hp', asAddr, hr]
def HierNew (h : HierD) (w : World) (e : Ending) (w' : World) : Prop := ∃ A, e = .returned (hierVal A h) ∧ HSee w' A h ∧ HForm A ∧ Below w.heap.size w w'
def TrueNew (w : World) (e : Ending) (w' : World) : Prop := e = .returned (.bool true) ∧ Below w.heap.size w w'
def BoolNew (w : World) (e : Ending) (w' : World) : Prop := ∃ b : Bool, e = .returned (.bool b) ∧ Below w.heap.size w w'
theorem hier_five {w : World} {b : Nat} {t : TypeId} {A : HA} {h : HierD} (c : Cells w b t (hierCells A h)) :
    w.cell? ⟨b, 0, none⟩ = some (.slice A.a0 h.node.length A.c0) ∧ w.cell? ⟨b, 1, none⟩ = some (.slice A.a1 h.upF.length A.c1) ∧ w.cell? ⟨b, 2, none⟩ = some (.slice A.a2 h.up.length A.c2) ∧
    w.cell? ⟨b, 3, none⟩ = some (.slice A.a3 h.dnF.length A.c3) ∧ w.cell? ⟨b, 4, none⟩ = some (.slice A.a4 h.dn.length A.c4) :=
  ⟨c.cell rfl, c.cell rfl, c.cell rfl, c.cell rfl, c.cell rfl⟩
set_option maxRecDepth 100000 in
theorem three_any (w : World) : Calls Tryz.prog 33 #[] w (HierNew threeD w) := by
  go_enter Tryz.func33, Tryz.ntmps33
  go_wp2
  have c0 := (((((Cells.new w 25 [.slice (some ⟨w.heap.size + 1, 0, none⟩) 3 3, .slice (some ⟨w.heap.size + 1 + 1, 0, none⟩) 4 4, .slice (some ⟨w.heap.size + 1 + 1 + 1, 0, none⟩) 2 2, .slice (some ⟨w.heap.size + 1 + 1 + 1 + 1, 0, none⟩) 4 4, .slice (some ⟨w.heap.size + 1 + 1 + 1 + 1 + 1, 0, none⟩) 1 1]).alloc
    (.cells ([1, 0, 2].flatMap u32Cells).toArray 62)).alloc (.cells ([0, 1, 2, 2].flatMap u32Cells).toArray 62)).alloc (.cells (threeD.up.flatMap linkCells).toArray 65)).alloc (.cells ([0, 1, 1, 1].flatMap u32Cells).toArray 62)).alloc (.cells (threeD.dn.flatMap linkCells).toArray 65)
  have c1 := ((((Cells.new' (w := w.alloc (.cells #[.slice (some ⟨w.heap.size + 1, 0, none⟩) 3 3, .slice (some ⟨w.heap.size + 1 + 1, 0, none⟩) 4 4, .slice (some ⟨w.heap.size + 1 + 1 + 1, 0, none⟩) 2 2, .slice (some ⟨w.heap.size + 1 + 1 + 1 + 1, 0, none⟩) 4 4, .slice (some ⟨w.heap.size + 1 + 1 + 1 + 1 + 1, 0, none⟩) 1 1] 25)) (b := w.heap.size + 1) (by simp) 62 ([1, 0, 2].flatMap u32Cells)).alloc
    (.cells ([0, 1, 2, 2].flatMap u32Cells).toArray 62)).alloc (.cells (threeD.up.flatMap linkCells).toArray 65)).alloc (.cells ([0, 1, 1, 1].flatMap u32Cells).toArray 62)).alloc (.cells (threeD.dn.flatMap linkCells).toArray 65)
  have c2 := (((Cells.new' (w := (w.alloc (.cells #[.slice (some ⟨w.heap.size + 1, 0, none⟩) 3 3, .slice (some ⟨w.heap.size + 1 + 1, 0, none⟩) 4 4, .slice (some ⟨w.heap.size + 1 + 1 + 1, 0, none⟩) 2 2, .slice (some ⟨w.heap.size + 1 + 1 + 1 + 1, 0, none⟩) 4 4, .slice (some ⟨w.heap.size + 1 + 1 + 1 + 1 + 1, 0, none⟩) 1 1] 25)).alloc
    (.cells ([1, 0, 2].flatMap u32Cells).toArray 62)) (b := w.heap.size + 1 + 1) (by simp) 62 ([0, 1, 2, 2].flatMap u32Cells)).alloc (.cells (threeD.up.flatMap linkCells).toArray 65)).alloc (.cells ([0, 1, 1, 1].flatMap u32Cells).toArray 62)).alloc (.cells (threeD.dn.flatMap linkCells).toArray 65)
  have c3 := ((Cells.new' (w := ((w.alloc (.cells #[.slice (some ⟨w.heap.size + 1, 0, none⟩) 3 3, .slice (some ⟨w.heap.size + 1 + 1, 0, none⟩) 4 4, .slice (some ⟨w.heap.size + 1 + 1 + 1, 0, none⟩) 2 2, .slice (some ⟨w.heap.size + 1 + 1 + 1 + 1, 0, none⟩) 4 4, .slice (some ⟨w.heap.size + 1 + 1 + 1 + 1 + 1, 0, none⟩) 1 1] 25)).alloc
    (.cells ([1, 0, 2].flatMap u32Cells).toArray 62)).alloc (.cells ([0, 1, 2, 2].flatMap u32Cells).toArray 62)) (b := w.heap.size + 1 + 1 + 1) (by simp) 65 (threeD.up.flatMap linkCells)).alloc (.cells ([0, 1, 1, 1].flatMap u32Cells).toArray 62)).alloc (.cells (threeD.dn.flatMap linkCells).toArray 65)
  have c4 := (Cells.new' (w := (((w.alloc (.cells #[.slice (some ⟨w.heap.size + 1, 0, none⟩) 3 3, .slice (some ⟨w.heap.size + 1 + 1, 0, none⟩) 4 4, .slice (some ⟨w.heap.size + 1 + 1 + 1, 0, none⟩) 2 2, .slice (some ⟨w.heap.size + 1 + 1 + 1 + 1, 0, none⟩) 4 4, .slice (some ⟨w.heap.size + 1 + 1 + 1 + 1 + 1, 0, none⟩) 1 1] 25)).alloc
    (.cells ([1, 0, 2].flatMap u32Cells).toArray 62)).alloc (.cells ([0, 1, 2, 2].flatMap u32Cells).toArray 62)).alloc (.cells (threeD.up.flatMap linkCells).toArray 65)) (b := w.heap.size + 1 + 1 + 1 + 1) (by simp) 62 ([0, 1, 1, 1].flatMap u32Cells)).alloc (.cells (threeD.dn.flatMap linkCells).toArray 65)
  have c5 := Cells.new' (w := ((((w.alloc (.cells #[.slice (some ⟨w.heap.size + 1, 0, none⟩) 3 3, .slice (some ⟨w.heap.size + 1 + 1, 0, none⟩) 4 4, .slice (some ⟨w.heap.size + 1 + 1 + 1, 0, none⟩) 2 2, .slice (some ⟨w.heap.size + 1 + 1 + 1 + 1, 0, none⟩) 4 4, .slice (some ⟨w.heap.size + 1 + 1 + 1 + 1 + 1, 0, none⟩) 1 1] 25)).alloc
    (.cells ([1, 0, 2].flatMap u32Cells).toArray 62)).alloc (.cells ([0, 1, 2, 2].flatMap u32Cells).toArray 62)).alloc (.cells (threeD.up.flatMap linkCells).toArray 65)).alloc (.cells ([0, 1, 1, 1].flatMap u32Cells).toArray 62)) (b := w.heap.size + 1 + 1 + 1 + 1 + 1) (by simp) 65 (threeD.dn.flatMap linkCells)
  have hsz : (Tryz.prog.info? 25).map (·.size) = some 5 := by kernel_rfl
  refine bodyPost_ret (results_c rfl _ _ w.heap.size 25 [.slice (some ⟨w.heap.size + 1, 0, none⟩) 3 3, .slice (some ⟨w.heap.size + 1 + 1, 0, none⟩) 4 4, .slice (some ⟨w.heap.size + 1 + 1 + 1, 0, none⟩) 2 2, .slice (some ⟨w.heap.size + 1 + 1 + 1 + 1, 0, none⟩) 4 4, .slice (some ⟨w.heap.size + 1 + 1 + 1 + 1 + 1, 0, none⟩) 1 1] _ rfl c0 Tryz.underlying25 rfl (by rw [hsz]; rfl)) rfl ?_
  refine ⟨⟨some ⟨w.heap.size + 1, 0, none⟩, some ⟨w.heap.size + 1 + 1, 0, none⟩, some ⟨w.heap.size + 1 + 1 + 1, 0, none⟩, some ⟨w.heap.size + 1 + 1 + 1 + 1, 0, none⟩, some ⟨w.heap.size + 1 + 1 + 1 + 1 + 1, 0, none⟩, 3, 4, 2, 4, 1⟩, rfl,
    ⟨See.of_cells u32Cells_len c1 (by simp [maxLen]), See.of_cells u32Cells_len c2 (by simp [maxLen]), See.of_cells linkCells_len c3 (by simp [maxLen, threeD]), See.of_cells u32Cells_len c4 (by simp [maxLen]), See.of_cells linkCells_len c5 (by simp [maxLen, threeD]), by decide, by decide, by decide, ?_, ?_⟩, ⟨.inr ⟨_, _, rfl⟩, .inr ⟨_, _, rfl⟩, .inr ⟨_, _, rfl⟩, .inr ⟨_, _, rfl⟩, .inr ⟨_, _, rfl⟩⟩, by go_grown⟩
  · intro l hl
    simp only [threeD, List.mem_cons, List.not_mem_nil, or_false] at hl
    rcases hl with rfl | rfl <;> simp [LinkD.ok]
  · intro l hl
    simp only [threeD, List.mem_cons, List.not_mem_nil, or_false] at hl
    rcases hl with rfl
    simp [LinkD.ok]
theorem results_e {P : Program} {fn : Func} {p : Tmp} {ty : TypeId} (h : fn.results = #[.cell p ty]) (tmps : Array Value) (w : World) (g : Nat) (t : TypeId) (cs : List Value) (d : TypeDesc)
    (hp : tmps.getD p undef = .pointer (some ⟨g, 0, none⟩)) (hg : Cells w g t cs)
    (hu : P.underlying ty = some d) (hd : (match d with | .struct _ | .array _ _ => true | _ => false) = true) (hi : (P.info? ty).map (·.size) = some cs.length) :
    (results fn tmps).run P w = .ok (.agg cs.toArray) w := by
  have hp' : tmps[p]?.getD undef = .pointer (some ⟨g, 0, none⟩) := by simpa using hp
  have hr := run_loadVar_row (P := P) w g t ty cs.toArray (0, 0) d hg hu hd (by simpa using hi)
  simp [results, h, hp', asAddr, hr]
theorem cells_at {w : World} {b : Nat} (hb : w.heap.size = b) (t : TypeId) (l : List Value) : Cells (w.alloc (.cells l.toArray t)) b t l := hb ▸ Cells.new w t l
def ErrV (w : World) (v : Value) : EV → Prop
  | .nil => v = .agg #[.int .i64 0, .slice none 0 0]
  | .code n => v = .agg #[.int .i64 n, .slice none 0 0]
  | .at k i n => ∃ g, v = .agg #[.int .i64 n, .slice (some ⟨g, 0, none⟩) 1 1] ∧ Cells w g 83 [.int .i64 k, .int .i64 i]
theorem ErrV.below {w w' : World} {v : Value} {x : EV} (h : ErrV w v x) (o : Below w.heap.size w w') : ErrV w' v x := by
  cases x with
  | nil => exact h
  | code n => exact h
  | «at» k i n => obtain ⟨b, e, hc⟩ := h; exact ⟨b, e, hc.below o hc.lt⟩
def EV.pos : EV → Prop
  | .nil => True
  | .code n => 1 ≤ n ∧ n ≤ 20
  | .at _ _ n => 1 ≤ n ∧ n ≤ 20
theorem ErrV.form {w : World} {v : Value} {x : EV} (h : ErrV w v x) : ∃ (c : Int) (ao : Option Addr) (n cap : Nat), v = .agg #[.int .i64 c, .slice ao n cap] := by
  cases x with
  | nil => exact ⟨_, _, _, _, h⟩
  | code n => exact ⟨_, _, _, _, h⟩
  | «at» k i n => obtain ⟨b, e, hc⟩ := h; exact ⟨_, _, _, _, e⟩
theorem ErrV.parts {w : World} {c : Int} {ao : Option Addr} {n cap : Nat} {x : EV} (h : ErrV w (.agg #[.int .i64 c, .slice ao n cap]) x) (hp : x.pos) : (x = .nil ∧ c = 0 ∧ n = 0) ∨ (x ≠ .nil ∧ 1 ≤ c ∧ c ≤ 20) := by
  cases x with
  | nil =>
    simp only [ErrV] at h
    simp at h
    exact .inl ⟨rfl, h.1, h.2.2.1⟩
  | code m =>
    simp only [ErrV] at h
    simp at h
    simp only [EV.pos] at hp
    exact .inr ⟨by simp, by omega, by omega⟩
  | «at» k i m =>
    obtain ⟨b, e, -⟩ := h
    simp at e
    simp only [EV.pos] at hp
    exact .inr ⟨by simp, by omega, by omega⟩
theorem EV.isNil_iff {x : EV} : x.isNil = true ↔ x = .nil := by cases x <;> simp [EV.isNil]
def BoolIs (b : Bool) (w : World) (e : Ending) (w' : World) : Prop := e = .returned (.bool b) ∧ Below w.heap.size w w'
set_option maxRecDepth 100000 in
theorem bad_any (v : Value) (x : EV) (w : World) (h : ErrV w v x) (hp : x.pos) : Calls Tryz.prog 21 #[v] w (BoolIs (!x.isNil) w) := by
  obtain ⟨c, ao, n, cap, rfl⟩ := h.form
  rcases h.parts hp with ⟨rfl, rfl, rfl⟩ | ⟨h1, h2, -⟩
  · clear h hp
    go_enter Tryz.func21, Tryz.ntmps21
    go_wp2
    go_returns
    exact ⟨rfl, by go_grown⟩
  · have hb : x.isNil = false := by rw [← Bool.not_eq_true, EV.isNil_iff]; exact h1
    have d1 : (c == 0) = false := by simp; omega
    rw [hb]
    clear h hp h1 hb
    go_enter Tryz.func21, Tryz.ntmps21
    go_wp2
    go_returns
    exact ⟨rfl, by go_grown⟩
theorem Tryz.sizeErr : (Tryz.prog.info? 36).map (·.size) = some 2 := by kernel_rfl
def ErrNew (x : EV) (w : World) (e : Ending) (w' : World) : Prop := ∃ v, e = .returned v ∧ ErrV w' v x ∧ Below w.heap.size w w'
set_option maxRecDepth 100000 in
theorem e_any (n : Int) (w : World) : Calls Tryz.prog 27 #[.int .i64 n] w (ErrNew (.code n) w) := by
  go_enter Tryz.func27, Tryz.ntmps27
  go_wp2
  refine bodyPost_ret (results_e rfl _ _ w.heap.size 36 [.int .i64 n, .slice none 0 0] _ rfl (Cells.new w _ _) Tryz.underlying36 rfl (by rw [Tryz.sizeErr]; rfl)) rfl ?_
  exact ⟨_, rfl, rfl, by go_grown⟩
set_option maxRecDepth 100000 in
theorem rat_any (k i n : Int) (w : World) : Calls Tryz.prog 34 #[.int .i64 k, .int .i64 i, .agg #[.int .i64 n, .slice none 0 0]] w (ErrNew (.at k i n) w) := by
  go_enter Tryz.func34, Tryz.ntmps34
  go_wp2
  refine bodyPost_ret (results_e rfl _ _ (w.heap.size + 1) 36 [.int .i64 n, .slice (some ⟨w.heap.size + 1 + 1, 0, none⟩) 1 1] _ rfl ((cells_at (by simp) _ _).alloc _) Tryz.underlying36 rfl (by rw [Tryz.sizeErr]; rfl)) rfl ?_
  exact ⟨_, rfl, ⟨_, rfl, cells_at (by simp) _ [.int .i64 k, .int .i64 i]⟩, by go_grown⟩
end Go.Proofs.YtchhbgckonpedaaGreatDoor
