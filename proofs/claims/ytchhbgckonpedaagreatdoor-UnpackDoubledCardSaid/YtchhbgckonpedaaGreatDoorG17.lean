/- The reference's copies: Words, Links, Twin. -/
import Derived.Test.YtchhbgckonpedaaGreatDoorG16
import Derived.Test.YtchhbgckonpedaaGreatDoorG14
namespace Go.Proofs.YtchhbgckonpedaaGreatDoor
open Go.ChangeShapes Go.WideShapes Go.ChangeAt Go.RowKit Go.Joins Go.Deep
end Go.Proofs.YtchhbgckonpedaaGreatDoor
/- The reference's Link, Plain and EndOf. -/
namespace Go.Proofs.YtchhbgckonpedaaGreatDoor
open Go.ChangeShapes Go.WideShapes Go.ChangeAt Go.RowKit Go.Joins Go.Deep
def linkAt (h : HierD) (i : Nat) : LinkD := if i < h.up.length then h.up.getD i default else h.dn.getD (i - h.up.length) default
theorem Tryz.sizeLinkC : (Tryz.prog.info? 65).map (·.size) = some 4 := by kernel_rfl
def LinkIs (x : LinkD) (w : World) (e : Ending) (w' : World) : Prop := e = .returned (linkVal x) ∧ Below w.heap.size w w'
set_option maxRecDepth 100000 in
theorem rlink_any (A : HA) (h : HierD) (i : Nat) (w : World) (see : HSee w A h) (hi : i < h.up.length + h.dn.length) (hd63 : h.dn.length ≤ 1048576) :
    Calls Tryz.prog 29 #[hierVal A h, .int .i64 i] w (LinkIs (linkAt h i) w) := by
  have SEE := Lib.hid see
  clear see
  by_cases hu : i < h.up.length
  · obtain ⟨x, hx⟩ : ∃ x, h.up[i]? = some x := ⟨_, List.getElem?_eq_getElem hu⟩
    have hat : linkAt h i = x := by
      unfold linkAt
      rw [if_pos hu, List.getD_eq_getElem?_getD, hx]
      rfl
    obtain ⟨b, o, ea, cc⟩ := SEE.out.up.cell i x hx
    have e0 := cc 0 _ rfl
    have e1 := cc 1 _ rfl
    have e2 := cc 2 _ rfl
    have e3 := cc 3 _ rfl
    rw [Nat.add_zero] at e0
    have lb := block_lt e0
    have d0 : decide (i < h.up.length) = true := by simpa using hu
    rw [hat]
    unfold hierVal
    rw [ea]
    clear hat hx cc ea
    go_enter Tryz.func29, Tryz.ntmps29
    go_wp2
    refine bodyPost_ret (results_e rfl _ _ (w.heap.size + 1) 65 (linkCells x) _ rfl (cells_at (by simp) _ _) Tryz.underlying65 rfl (by rw [Tryz.sizeLinkC]; rfl)) rfl ?_
    exact ⟨rfl, by go_grown⟩
  · obtain ⟨x, hx⟩ : ∃ x, h.dn[i - h.up.length]? = some x := ⟨_, List.getElem?_eq_getElem (by omega)⟩
    have hat : linkAt h i = x := by
      unfold linkAt
      rw [if_neg hu, List.getD_eq_getElem?_getD, hx]
      rfl
    obtain ⟨b, o, ea, cc⟩ := SEE.out.dn.cell _ x hx
    obtain ⟨j, rfl⟩ : ∃ j, i = h.up.length + j := ⟨i - h.up.length, by omega⟩
    rw [Nat.add_sub_cancel_left] at cc
    have e0 := cc 0 _ rfl
    have e1 := cc 1 _ rfl
    have e2 := cc 2 _ rfl
    have e3 := cc 3 _ rfl
    rw [Nat.add_zero] at e0
    have lb := block_lt e0
    have d0 : decide (h.up.length + j < h.up.length) = false := by simp
    have d1 : ((h.up.length + j : Nat) : Int) - (h.up.length : Int) = (j : Int) := by omega
    rw [hat]
    unfold hierVal
    rw [ea]
    clear hat hx cc ea
    go_enter Tryz.func29, Tryz.ntmps29
    go_wp2
    refine bodyPost_ret (results_e rfl _ _ (w.heap.size + 1) 65 (linkCells x) _ rfl (cells_at (by simp) _ _) Tryz.underlying65 rfl (by rw [Tryz.sizeLinkC]; rfl)) rfl ?_
    exact ⟨rfl, by go_grown⟩
set_option maxRecDepth 100000 in
theorem rplain_any (x : LinkD) (w : World) (hx : x.ok) : Calls Tryz.prog 28 #[linkVal x] w (BoolIs x.plain w) := by
  obtain ⟨-, -, h3, h4⟩ := hx
  by_cases h1 : x.left = 4294967295
  · by_cases h2 : x.right = 4294967295
    · have hp : x.plain = true := (plain_iff x).2 ⟨h1, h2⟩
      have d1 : ((x.left : Int) == 4294967295) = true := by simp; omega
      have d2 : ((x.right : Int) == 4294967295) = true := by simp; omega
      rw [hp]
      unfold linkVal
      clear hp h1 h2
      go_enter Tryz.func28, Tryz.ntmps28
      go_wp2
      go_returns
      exact ⟨rfl, by go_grown⟩
    · have hp : x.plain = false := by rw [Bool.eq_false_iff, ne_eq, plain_iff]; exact fun e => h2 e.2
      have d1 : ((x.left : Int) == 4294967295) = true := by simp; omega
      have d2 : ((x.right : Int) == 4294967295) = false := by simp; omega
      rw [hp]
      unfold linkVal
      clear hp h1 h2
      go_enter Tryz.func28, Tryz.ntmps28
      go_wp2
      go_returns
      exact ⟨rfl, by go_grown⟩
  · have hp : x.plain = false := by rw [Bool.eq_false_iff, ne_eq, plain_iff]; exact fun e => h1 e.1
    have d1 : ((x.left : Int) == 4294967295) = false := by simp; omega
    rw [hp]
    unfold linkVal
    clear hp h1
    go_enter Tryz.func28, Tryz.ntmps28
    go_wp2
    go_returns
    exact ⟨rfl, by go_grown⟩
def ranksL (h : HierD) : List Nat := (endsOf h).map (·.rank)
def i64Cells (n : Nat) : List Value := [.int .i64 n]
theorem i64Cells_len (n : Nat) : (i64Cells n).length = 1 := rfl
theorem ups_links {h : HierD} (u : FirstsOk h.node.length h.upF h.up.length) : ∀ n, n ≤ h.node.length → (((List.range n).flatMap (endsUp h.upF h.up)).map (·.link)) = h.up.take (h.upF.getD n 0) := by
  intro n
  induction n with
  | zero => intro _; rw [u.zero]; simp
  | succ n ih =>
    intro hn
    rw [List.range_succ, List.flatMap_append, List.map_append, ih (by omega)]
    simp only [List.flatMap_cons, List.flatMap_nil, List.append_nil, endsUp, List.map_map]
    have hm := u.mono n (by omega)
    have : (List.map ((fun x => x.link) ∘ fun l => (⟨l, n, l.to, n⟩ : EndD)) (seg h.upF h.up n)) = seg h.upF h.up n := by
      rw [show ((fun x : EndD => x.link) ∘ fun l => (⟨l, n, l.to, n⟩ : EndD)) = id from rfl, List.map_id]
    rw [this]
    unfold seg
    have h2 := List.take_append_drop (h.upF.getD n 0) (h.up.take (h.upF.getD (n + 1) 0))
    rw [List.take_take, Nat.min_eq_left hm] at h2
    exact h2
theorem dns_links {h : HierD} (u : FirstsOk h.node.length h.dnF h.dn.length) : ∀ n, n ≤ h.node.length → (((List.range n).flatMap (endsDn h.dnF h.dn)).map (·.link)) = h.dn.take (h.dnF.getD n 0) := by
  intro n
  induction n with
  | zero => intro _; rw [u.zero]; simp
  | succ n ih =>
    intro hn
    rw [List.range_succ, List.flatMap_append, List.map_append, ih (by omega)]
    simp only [List.flatMap_cons, List.flatMap_nil, List.append_nil, endsDn, List.map_map]
    have hm := u.mono n (by omega)
    have : (List.map ((fun x => x.link) ∘ fun l => (⟨l, l.to, n, n⟩ : EndD)) (seg h.dnF h.dn n)) = seg h.dnF h.dn n := by
      rw [show ((fun x : EndD => x.link) ∘ fun l => (⟨l, l.to, n, n⟩ : EndD)) = id from rfl, List.map_id]
    rw [this]
    unfold seg
    have h2 := List.take_append_drop (h.dnF.getD n 0) (h.dn.take (h.dnF.getD (n + 1) 0))
    rw [List.take_take, Nat.min_eq_left hm] at h2
    exact h2
theorem ends_links {h : HierD} (u : FirstsOk h.node.length h.upF h.up.length) (d : FirstsOk h.node.length h.dnF h.dn.length) : (endsOf h).map (·.link) = h.up ++ h.dn := by
  unfold endsOf
  rw [List.map_append, ups_links u _ (Nat.le_refl _), dns_links d _ (Nat.le_refl _), u.last, d.last, List.take_length, List.take_length]
theorem ends_link {h : HierD} (u : FirstsOk h.node.length h.upF h.up.length) (d : FirstsOk h.node.length h.dnF h.dn.length) (i : Nat) (hi : i < h.up.length + h.dn.length) : ((endsOf h).getD i default).link = linkAt h i := by
  have hl := endsOf_length u d
  have h1 : ((endsOf h).map (·.link)).getD i default = ((endsOf h).getD i default).link := getD_map_lt _ _ _ _ _ (by omega)
  rw [← h1, ends_links u d]
  unfold linkAt
  split
  · rename_i h2; exact getD_app_left _ _ _ _ h2
  · rename_i h2; exact getD_app_right _ _ _ _ (by omega)
theorem ends_tail {h : HierD} (u : FirstsOk h.node.length h.upF h.up.length) (d : FirstsOk h.node.length h.dnF h.dn.length) (i : Nat) (hi : i < h.up.length + h.dn.length) : let x := (endsOf h).getD i default
    if i < h.up.length then x.tail = x.rank ∧ x.head = x.link.to else x.tail = x.link.to ∧ x.head = x.rank := by
  have hl := endsOf_length u d
  have lu := endsUp_length u _ (Nat.le_refl _)
  rw [u.last] at lu
  simp only
  split
  · rename_i h1
    unfold endsOf
    rw [getD_app_left _ _ _ _ (by omega)]
    have hm : ((List.range h.node.length).flatMap (endsUp h.upF h.up)).getD i default ∈ (List.range h.node.length).flatMap (endsUp h.upF h.up) := by
      rw [List.getD_eq_getElem?_getD, List.getElem?_eq_getElem (by omega)]
      exact List.getElem_mem _
    obtain ⟨r, -, hr⟩ := List.mem_flatMap.1 hm
    simp only [endsUp, List.mem_map] at hr
    obtain ⟨l, -, he⟩ := hr
    rw [← he]
    exact ⟨rfl, rfl⟩
  · rename_i h1
    unfold endsOf
    rw [getD_app_right _ _ _ _ (by omega)]
    have ld := endsDn_length d _ (Nat.le_refl _)
    rw [d.last] at ld
    have hm : ((List.range h.node.length).flatMap (endsDn h.dnF h.dn)).getD (i - ((List.range h.node.length).flatMap (endsUp h.upF h.up)).length) default ∈ (List.range h.node.length).flatMap (endsDn h.dnF h.dn) := by
      rw [List.getD_eq_getElem?_getD, List.getElem?_eq_getElem (by omega)]
      exact List.getElem_mem _
    obtain ⟨r, -, hr⟩ := List.mem_flatMap.1 hm
    simp only [endsDn, List.mem_map] at hr
    obtain ⟨l, -, he⟩ := hr
    rw [← he]
    exact ⟨rfl, rfl⟩
def cntOf (h : HierD) : Nat := h.up.length + h.dn.length
def endAt (h : HierD) (i : Nat) : EndD := (endsOf h).getD i default
def rkOf (h : HierD) (i : Nat) : Nat := (endAt h i).rank
theorem parts_firsts {h : HierD} (hc : checkErr h = .nil) : FirstsOk h.node.length h.upF h.up.length ∧ FirstsOk h.node.length h.dnF h.dn.length := by
  obtain ⟨f, e1, e2, -, -⟩ := checkErr_parts hc
  exact ⟨firsts_nil f.u e1, firsts_nil f.d e2⟩
theorem cnt_ends {h : HierD} (hc : checkErr h = .nil) : (endsOf h).length = cntOf h := by
  obtain ⟨u, d⟩ := parts_firsts hc
  exact endsOf_length u d
theorem endAt_link {h : HierD} (hc : checkErr h = .nil) {i : Nat} (hi : i < cntOf h) : (endAt h i).link = linkAt h i := by
  obtain ⟨u, d⟩ := parts_firsts hc
  exact ends_link u d i hi
structure Kids (h : HierD) (i a b : Nat) : Prop where
  la : (linkAt h i).left = a
  lb : (linkAt h i).right = b
  ha : a < cntOf h
  hb : b < cntOf h
  ra : rkOf h a < rkOf h i
  rb : rkOf h b = rkOf h a
  dn : h.up.length ≤ a
  up : b < h.up.length
  t : (endAt h a).tail = (endAt h i).tail
  d : (endAt h b).head = (endAt h i).head
  w : (linkAt h a).wt + (linkAt h b).wt = (linkAt h i).wt
theorem endAt_up {h : HierD} (hc : checkErr h = .nil) {i : Nat} (hi : i < h.up.length) : (endAt h i).tail = (endAt h i).rank ∧ (endAt h i).head = (endAt h i).link.to := by
  obtain ⟨u, d⟩ := parts_firsts hc
  have := ends_tail u d i (by omega)
  simp only [if_pos hi] at this
  exact this
theorem endAt_dn {h : HierD} (hc : checkErr h = .nil) {i : Nat} (h1 : h.up.length ≤ i) (hi : i < cntOf h) : (endAt h i).tail = (endAt h i).link.to ∧ (endAt h i).head = (endAt h i).rank := by
  obtain ⟨u, d⟩ := parts_firsts hc
  have := ends_tail u d i hi
  simp only [if_neg (Nat.not_lt.2 h1)] at this
  exact this
theorem kids {h : HierD} (hc : checkErr h = .nil) {i : Nat} (hi : i < cntOf h) (hp : (linkAt h i).plain = false) : Kids h i (linkAt h i).left (linkAt h i).right := by
  obtain ⟨f, -, -, -, hg⟩ := checkErr_parts hc
  have hn := cnt_ends hc
  obtain ⟨hs, hw⟩ := linksGo_nil hg i (by omega)
  have hl := endAt_link hc hi
  unfold endAt at hl
  unfold shapeB at hs
  unfold weightB at hw
  simp only [hl, hp, Bool.false_eq_true, if_false] at hs hw
  split at hs
  · cases hs
  rename_i h1
  split at hs
  · cases hs
  split at hs
  · cases hs
  rename_i h3
  have ha : (linkAt h i).left < cntOf h := by omega
  have hup : (linkAt h i).right < h.up.length := by omega
  have hb : (linkAt h i).right < cntOf h := by unfold cntOf; omega
  simp only [decide_eq_true_eq] at hs hw
  obtain ⟨ht, hd, hr⟩ := hs
  have la := endAt_link hc ha
  have lb := endAt_link hc hb
  unfold endAt at la lb
  rw [la, lb] at hw
  have ga := endAt_dn hc (i := (linkAt h i).left) (by omega) ha
  have gb := endAt_up hc hup
  have hall := end_facts hg
  have mi : endAt h i ∈ endsOf h := by
    unfold endAt
    rw [List.getD_eq_getElem?_getD, List.getElem?_eq_getElem (by omega), Option.getD_some]
    exact List.getElem_mem _
  have ma : endAt h (linkAt h i).left ∈ endsOf h := by
    unfold endAt
    rw [List.getD_eq_getElem?_getD, List.getElem?_eq_getElem (by omega), Option.getD_some]
    exact List.getElem_mem _
  have mb : endAt h (linkAt h i).right ∈ endsOf h := by
    unfold endAt
    rw [List.getD_eq_getElem?_getD, List.getElem?_eq_getElem (by omega), Option.getD_some]
    exact List.getElem_mem _
  have fa := hall _ ma
  have fb := hall _ mb
  refine ⟨rfl, rfl, ha, hb, ?_, hr.symm, by omega, hup, ht, hd, hw.2.2.2⟩
  unfold rkOf
  by_cases hiu : i < h.up.length
  · have gi := endAt_up hc hiu
    have e1 : (endAt h (linkAt h i).left).tail = (endAt h i).tail := ht
    omega
  · have gi := endAt_dn hc (i := i) (by omega) hi
    have e1 : (endAt h (linkAt h i).right).head = (endAt h i).head := hd
    have e2 : (endAt h (linkAt h i).left).rank = (endAt h (linkAt h i).right).rank := hr
    omega
def lays (h : HierD) : Nat → Nat → List Nat
  | 0, _ => []
  | k + 1, i => if (linkAt h i).plain then [i] else lays h k (linkAt h i).left ++ lays h k (linkAt h i).right
theorem lays_stable {h : HierD} (hc : checkErr h = .nil) : ∀ k k' i, i < cntOf h → rkOf h i < k → rkOf h i < k' → lays h k i = lays h k' i := by
  intro k
  induction k with
  | zero => intro k' i _ h1; omega
  | succ k ih =>
    intro k' i hi h1 h2
    cases k' with
    | zero => omega
    | succ k' =>
      unfold lays
      cases hp : (linkAt h i).plain with
      | true => rfl
      | false =>
        have q := kids hc hi hp
        have := q.ra
        have := q.rb
        rw [if_neg (by simp), if_neg (by simp), ih k' _ q.ha (by omega) (by omega), ih k' _ q.hb (by omega) (by omega)]
def laysOf (h : HierD) (i : Nat) : List Nat := lays h (rkOf h i + 1) i
theorem laysOf_plain {h : HierD} {i : Nat} (hp : (linkAt h i).plain = true) : laysOf h i = [i] := by
  unfold laysOf lays
  rw [if_pos hp]
theorem laysOf_two {h : HierD} (hc : checkErr h = .nil) {i : Nat} (hi : i < cntOf h) (hp : (linkAt h i).plain = false) : laysOf h i = laysOf h (linkAt h i).left ++ laysOf h (linkAt h i).right := by
  have q := kids hc hi hp
  have := q.ra
  have := q.rb
  conv => lhs; unfold laysOf lays
  rw [if_neg (by simp [hp]), lays_stable hc _ (rkOf h (linkAt h i).left + 1) _ q.ha (by omega) (by omega), lays_stable hc _ (rkOf h (linkAt h i).right + 1) _ q.hb (by omega) (by omega)]
  rfl
theorem link_ind {h : HierD} (hc : checkErr h = .nil) {C : Nat → Prop} (h1 : ∀ i, i < cntOf h → (linkAt h i).plain = true → C i) (h2 : ∀ i, i < cntOf h → (linkAt h i).plain = false → Kids h i (linkAt h i).left (linkAt h i).right → C (linkAt h i).left → C (linkAt h i).right → C i) : ∀ i, i < cntOf h → C i := by
  have key : ∀ k i, i < cntOf h → rkOf h i < k → C i := by
    intro k
    induction k with
    | zero => intro i _ h; omega
    | succ k ih =>
      intro i hi hk
      cases hp : (linkAt h i).plain with
      | true => exact h1 i hi hp
      | false =>
        have q := kids hc hi hp
        have := q.ra
        have := q.rb
        exact h2 i hi hp q (ih _ q.ha (by omega)) (ih _ q.hb (by omega))
  exact fun i hi => key (rkOf h i + 1) i hi (by omega)
theorem laysOf_pos {h : HierD} (hc : checkErr h = .nil) : ∀ i, i < cntOf h → 0 < (laysOf h i).length := by
  refine link_ind hc (fun i _ hp => by rw [laysOf_plain hp]; simp) (fun i hi hp q ha hb => ?_)
  rw [laysOf_two hc hi hp, List.length_append]
  omega
theorem laysOf_mem {h : HierD} (hc : checkErr h = .nil) : ∀ i, i < cntOf h → ∀ x ∈ laysOf h i, x < cntOf h ∧ (linkAt h x).plain = true := by
  refine link_ind hc (fun i hi hp x hx => ?_) (fun i hi hp q ha hb x hx => ?_)
  · rw [laysOf_plain hp, List.mem_singleton] at hx
    subst hx
    exact ⟨hi, hp⟩
  · rw [laysOf_two hc hi hp, List.mem_append] at hx
    exact hx.elim (ha x) (hb x)
theorem laysOf_wt {h : HierD} (hc : checkErr h = .nil) : ∀ i, i < cntOf h → ((laysOf h i).map fun x => (linkAt h x).wt).sum = (linkAt h i).wt := by
  refine link_ind hc (fun i _ hp => by rw [laysOf_plain hp]; simp) (fun i hi hp q ha hb => ?_)
  rw [laysOf_two hc hi hp, List.map_append, List.sum_append, ha, hb]
  exact q.w
def Chain (h : HierD) : List Nat → Nat → Nat → Prop
  | [], s, t => s = t
  | x :: l, s, t => (endAt h x).tail = s ∧ Chain h l (endAt h x).head t
theorem Chain.app {h : HierD} {l m : List Nat} {s u t : Nat} (a : Chain h l s u) (b : Chain h m u t) : Chain h (l ++ m) s t := by
  induction l generalizing s with
  | nil => have e : s = u := a; subst e; exact b
  | cons x l ih => exact ⟨a.1, ih a.2⟩
theorem laysOf_chain {h : HierD} (hc : checkErr h = .nil) : ∀ i, i < cntOf h → Chain h (laysOf h i) (endAt h i).tail (endAt h i).head := by
  refine link_ind hc (fun i _ hp => by rw [laysOf_plain hp]; exact ⟨rfl, rfl⟩) (fun i hi hp q ha hb => ?_)
  rw [laysOf_two hc hi hp, ← q.t, ← q.d]
  have e1 := (endAt_dn hc q.dn q.ha).2
  have e2 := (endAt_up hc q.up).1
  have e3 : (endAt h (linkAt h i).right).rank = (endAt h (linkAt h i).left).rank := q.rb
  rw [show (endAt h (linkAt h i).right).tail = (endAt h (linkAt h i).left).head by rw [e1, e2, e3]] at hb
  exact ha.app hb
theorem left_plain {h : HierD} (hc : checkErr h = .nil) (htot : cntOf h ≤ 1048576) {i : Nat} (hi : i < cntOf h) : (linkAt h i).left = 4294967295 ↔ (linkAt h i).plain = true := by
  constructor
  · intro e
    cases hp : (linkAt h i).plain with
    | true => rfl
    | false =>
      have q := kids hc hi hp
      have h1 := q.ha
      rw [e] at h1
      omega
  · intro hp
    unfold LinkD.plain at hp
    simp at hp
    exact hp.1
def stackOut (h : HierD) (S : List Nat) : List Nat := S.flatMap (laysOf h)
def stackSize (h : HierD) (S : List Nat) : Nat := (S.map fun i => 2 * (laysOf h i).length - 1).sum
theorem stack_plain {h : HierD} {i : Nat} {l : List Nat} (hp : (linkAt h i).plain = true) : stackOut h (i :: l) = i :: stackOut h l ∧ stackSize h (i :: l) = 1 + stackSize h l := by
  unfold stackOut stackSize
  rw [List.flatMap_cons, List.map_cons, List.sum_cons, laysOf_plain hp]
  exact ⟨rfl, rfl⟩
theorem stack_two {h : HierD} (hc : checkErr h = .nil) {i : Nat} {l : List Nat} (hi : i < cntOf h) (hp : (linkAt h i).plain = false) : stackOut h ((linkAt h i).left :: (linkAt h i).right :: l) = stackOut h (i :: l) ∧ stackSize h ((linkAt h i).left :: (linkAt h i).right :: l) < stackSize h (i :: l) := by
  have q := kids hc hi hp
  have p1 := laysOf_pos hc _ q.ha
  have p2 := laysOf_pos hc _ q.hb
  unfold stackOut stackSize
  simp only [List.flatMap_cons, List.map_cons, List.sum_cons]
  rw [laysOf_two hc hi hp, List.length_append, List.append_assoc]
  exact ⟨rfl, by omega⟩
def StackOk (h : HierD) (B : Nat) : List Nat → Prop
  | [] => True
  | x :: l => x < cntOf h ∧ l.length + 1 + rkOf h x ≤ B ∧ StackOk h B l
theorem StackOk.push {h : HierD} (hc : checkErr h = .nil) {B i : Nat} {l : List Nat} (g : StackOk h B (i :: l)) (hp : (linkAt h i).plain = false) : StackOk h B ((linkAt h i).left :: (linkAt h i).right :: l) := by
  obtain ⟨hi, hB, hl⟩ := g
  have q := kids hc hi hp
  have := q.ra
  have := q.rb
  exact ⟨q.ha, by simp only [List.length_cons]; omega, q.hb, by omega, hl⟩
theorem StackOk.len {h : HierD} {B : Nat} {l : List Nat} (g : StackOk h B l) : l.length ≤ B := by
  cases l with
  | nil => simp
  | cons x l => have := g.2.1; simp only [List.length_cons]; omega
def layRes (h : HierD) (S : List Nat) : List Nat × EV := if (stackOut h S).length ≤ 131072 then (stackOut h S, .nil) else ([], .code 2)
end Go.Proofs.YtchhbgckonpedaaGreatDoor
