/- The plain links of a hierarchy as a graph: the plain law of a plain search. -/
import Derived.Test.YtchhbgckonpedaaGreatDoorG30
import Derived.Test.YtchhbgckonpedaaGreatDoorG24
import Derived.Test.YtchhbgckonpedaaGreatDoorG28
import Derived.Deep.RegionHeld3
import Derived.Test.YtchhbgckonpedaaGreatDoorG29
namespace Go.Proofs.YtchhbgckonpedaaGreatDoor
open Go.ChangeShapes Go.WideShapes Go.ChangeAt Go.RowKit Go.Joins Go.Deep
theorem near_rise {l : List EndD} (h : ∀ j x y, l[j]? = some x → l[j + 1]? = some y → x.link.to < y.link.to) : l.Pairwise fun x y => x.link.to < y.link.to := by
  rw [List.pairwise_iff_getElem]
  intro i j hi hj hij
  induction j with
  | zero => omega
  | succ j ih =>
    have h1 := h j _ _ (List.getElem?_eq_getElem (by omega)) (List.getElem?_eq_getElem hj)
    by_cases e : i = j
    · subst e; exact h1
    · exact Nat.lt_trans (ih (by omega) (by omega)) h1
theorem part_rise {h : HierD} (hc : checkErr h = .nil) (A S B : List EndD) (e : endsOf h = A ++ S ++ B) (r : Nat) (hr : ∀ x ∈ S, x.rank = r) (hu : ∀ j, j + 1 < S.length → A.length + (j + 1) ≠ h.up.length) :
    S.Pairwise fun x y => x.link.to < y.link.to := by
  obtain ⟨f, -, -, -, hg⟩ := checkErr_parts hc
  refine near_rise fun j x y hx hy => ?_
  have hj := (List.getElem?_eq_some_iff.1 hy).1
  have hk : ∀ q z, S[q]? = some z → (endsOf h).getD (A.length + q) default = z := by
    intro q z hz
    have hq := (List.getElem?_eq_some_iff.1 hz).1
    rw [e, List.getD_eq_getElem?_getD, List.append_assoc, List.getElem?_append_right (by omega), Nat.add_sub_cancel_left, List.getElem?_append_left hq, hz]
    rfl
  have hlen : A.length + (j + 1) < (endsOf h).length := by
    rw [e]
    simp only [List.length_append]
    omega
  have hs := (linksGo_nil hg _ hlen).1
  rw [shapeB_eq _ _ _ _ y x (hk _ _ hy) (by rw [show A.length + (j + 1) - 1 = A.length + j by omega]; exact hk _ _ hx)] at hs
  have e1 := hr x (List.mem_of_getElem? hx)
  have e2 := hr y (List.mem_of_getElem? hy)
  split at hs
  · cases hs
  split at hs
  · cases hs
  rename_i h2
  have := hu j hj
  apply Classical.byContradiction
  intro hno
  exact h2 ⟨by omega, this, by omega, by omega⟩
def pairE (x : EndD) : Nat × Nat := (x.tail, x.head)
theorem ends_nodup {h : HierD} (hc : checkErr h = .nil) : (endsOf h).Pairwise fun x y => pairE x ≠ pairE y := by
  obtain ⟨u, d⟩ := parts_firsts hc
  have hrise : ∀ x ∈ endsOf h, x.rank < x.link.to := by
    intro x hx
    obtain ⟨f, -, -, -, hg⟩ := checkErr_parts hc
    obtain ⟨k, hk, rfl⟩ := List.mem_iff_getElem.1 hx
    have hs := (linksGo_nil hg k hk).1
    rw [shapeB_eq _ _ _ _ (endsOf h)[k] _ (by rw [List.getD_eq_getElem?_getD, List.getElem?_eq_getElem hk]; rfl) rfl] at hs
    split at hs
    · cases hs
    · omega
  have split3 : ∀ r, r < h.node.length → List.range h.node.length = List.range r ++ [r] ++ (List.range (h.node.length - (r + 1))).map (fun x => r + 1 + x) := by
    intro r hr
    rw [show List.range r ++ [r] = List.range (r + 1) from (List.range_succ).symm]
    have := List.range_add (n := r + 1) (m := h.node.length - (r + 1))
    rw [show r + 1 + (h.node.length - (r + 1)) = h.node.length by omega] at this
    exact this
  have hup : ∀ r, r < h.node.length → (endsUp h.upF h.up r).Pairwise fun x y => x.link.to < y.link.to := by
    intro r hr
    have e : endsOf h = (List.range r).flatMap (endsUp h.upF h.up) ++ endsUp h.upF h.up r ++ (((List.range (h.node.length - (r + 1))).map (fun x => r + 1 + x)).flatMap (endsUp h.upF h.up) ++ (List.range h.node.length).flatMap (endsDn h.dnF h.dn)) := by
      unfold endsOf
      conv => lhs; arg 1; rw [split3 r hr]
      simp only [List.flatMap_append, List.flatMap_cons, List.flatMap_nil, List.append_nil, List.append_assoc]
    refine part_rise hc _ _ _ e r (fun x hx => ?_) (fun j hj => ?_)
    · unfold endsUp at hx
      obtain ⟨l, -, rfl⟩ := List.mem_map.1 hx
      rfl
    · have h1 := endsUp_length u (r + 1) (by omega)
      rw [List.range_succ, List.flatMap_append, List.length_append] at h1
      simp only [List.flatMap_cons, List.flatMap_nil, List.append_nil] at h1
      have h2 := u.le (r + 1) (by omega)
      omega
  have hdn : ∀ r, r < h.node.length → (endsDn h.dnF h.dn r).Pairwise fun x y => x.link.to < y.link.to := by
    intro r hr
    have e : endsOf h = ((List.range h.node.length).flatMap (endsUp h.upF h.up) ++ (List.range r).flatMap (endsDn h.dnF h.dn)) ++ endsDn h.dnF h.dn r ++ ((List.range (h.node.length - (r + 1))).map (fun x => r + 1 + x)).flatMap (endsDn h.dnF h.dn) := by
      unfold endsOf
      conv => lhs; arg 2; rw [split3 r hr]
      simp only [List.flatMap_append, List.flatMap_cons, List.flatMap_nil, List.append_nil, List.append_assoc]
    refine part_rise hc _ _ _ e r (fun x hx => ?_) (fun j hj => ?_)
    · unfold endsDn at hx
      obtain ⟨l, -, rfl⟩ := List.mem_map.1 hx
      rfl
    · have h1 := endsUp_length u _ (Nat.le_refl _)
      rw [u.last] at h1
      rw [List.length_append, h1]
      omega
  have hpu : ∀ r x, x ∈ endsUp h.upF h.up r → pairE x = (r, x.link.to) ∧ x.rank = r := by
    intro r x hx
    unfold endsUp at hx
    obtain ⟨l, -, rfl⟩ := List.mem_map.1 hx
    exact ⟨rfl, rfl⟩
  have hpd : ∀ r x, x ∈ endsDn h.dnF h.dn r → pairE x = (x.link.to, r) ∧ x.rank = r := by
    intro r x hx
    unfold endsDn at hx
    obtain ⟨l, -, rfl⟩ := List.mem_map.1 hx
    exact ⟨rfl, rfl⟩
  have hall := hrise
  unfold endsOf at hall ⊢
  rw [List.pairwise_append]
  refine ⟨?_, ?_, fun x hx y hy e => ?_⟩
  · rw [List.pairwise_flatMap]
    refine ⟨fun r hr => ?_, ?_⟩
    · refine (hup r (List.mem_range.1 hr)).imp_of_mem fun {x y} hx hy hlt e => ?_
      rw [(hpu r x hx).1, (hpu r y hy).1] at e
      simp only [Prod.mk.injEq, true_and] at e
      omega
    · refine List.nodup_range.imp fun {a b} hab x hx y hy e => ?_
      rw [(hpu a x hx).1, (hpu b y hy).1] at e
      simp only [Prod.mk.injEq] at e
      exact hab e.1
  · rw [List.pairwise_flatMap]
    refine ⟨fun r hr => ?_, ?_⟩
    · refine (hdn r (List.mem_range.1 hr)).imp_of_mem fun {x y} hx hy hlt e => ?_
      rw [(hpd r x hx).1, (hpd r y hy).1] at e
      simp only [Prod.mk.injEq, and_true] at e
      omega
    · refine List.nodup_range.imp fun {a b} hab x hx y hy e => ?_
      rw [(hpd a x hx).1, (hpd b y hy).1] at e
      simp only [Prod.mk.injEq] at e
      exact hab e.2
  · have h1 := hall x (List.mem_append_left _ hx)
    have h2 := hall y (List.mem_append_right _ hy)
    obtain ⟨a, -, ha⟩ := List.mem_flatMap.1 hx
    obtain ⟨b, -, hb⟩ := List.mem_flatMap.1 hy
    obtain ⟨e1, e2⟩ := hpu a x ha
    obtain ⟨e3, e4⟩ := hpd b y hb
    rw [e1, e3] at e
    simp only [Prod.mk.injEq] at e
    omega
theorem nodeAt_inj {h : HierD} (hc : checkErr h = .nil) {a b : Nat} (ha : a < h.node.length) (hb : b < h.node.length) (e : nodeAt h a = nodeAt h b) : a = b := by
  obtain ⟨-, -, -, ho, -⟩ := checkErr_parts hc
  have ok := order_nil ho
  have h1 := (node_lt hc ha).2
  rw [e] at h1
  exact nodup_place ok.nodup h1 (node_lt hc hb).2
theorem ends_apart {h : HierD} (hc : checkErr h = .nil) {x : EndD} (hx : x ∈ endsOf h) : x.tail ≠ x.head := by
  obtain ⟨f, -, -, -, hg⟩ := checkErr_parts hc
  have hx' := hx
  obtain ⟨k, hk, rfl⟩ := List.mem_iff_getElem.1 hx
  have hs := (linksGo_nil hg k hk).1
  rw [shapeB_eq _ _ _ _ (endsOf h)[k] _ (by rw [List.getD_eq_getElem?_getD, List.getElem?_eq_getElem hk]; rfl) rfl] at hs
  split at hs
  · cases hs
  rename_i h1
  generalize (endsOf h)[k] = x at *
  unfold endsOf at hx'
  rcases List.mem_append.1 hx' with h2 | h2
  · obtain ⟨a, -, ha⟩ := List.mem_flatMap.1 h2
    unfold endsUp at ha
    obtain ⟨l, -, rfl⟩ := List.mem_map.1 ha
    simp only at h1 ⊢
    omega
  · obtain ⟨a, -, ha⟩ := List.mem_flatMap.1 h2
    unfold endsDn at ha
    obtain ⟨l, -, rfl⟩ := List.mem_map.1 ha
    simp only at h1 ⊢
    omega
theorem arcs_mem {h : HierD} {x : AF} : x ∈ arcsL h ↔ ∃ e ∈ endsOf h, e.link.plain = true ∧ x = arcOf h e := by
  unfold arcsL
  simp only [List.mem_map, List.mem_filter]
  constructor
  · rintro ⟨e, ⟨h1, h2⟩, h3⟩; exact ⟨e, h1, h2, h3.symm⟩
  · rintro ⟨e, h1, h2, h3⟩; exact ⟨e, ⟨h1, h2⟩, h3.symm⟩
theorem arcs_clean {h : HierD} (hc : checkErr h = .nil) : Clean h.node.length (arcsL h) := by
  refine ⟨fun x hx => ?_, fun x hx => ?_, ?_⟩
  · obtain ⟨e, h1, h2, rfl⟩ := arcs_mem.1 hx
    obtain ⟨e1, e2, -⟩ := arcOf_vals hc h1 h2
    obtain ⟨l1, l2⟩ := ends_lt hc h1
    rw [e1, e2]
    exact ⟨(node_lt hc l1).1, (node_lt hc l2).1⟩
  · obtain ⟨e, h1, h2, rfl⟩ := arcs_mem.1 hx
    obtain ⟨e1, e2, -⟩ := arcOf_vals hc h1 h2
    obtain ⟨l1, l2⟩ := ends_lt hc h1
    rw [e1, e2]
    exact fun hq => ends_apart hc h1 (nodeAt_inj hc l1 l2 hq)
  · unfold arcsL
    rw [List.map_map, List.nodup_iff_pairwise_ne, List.pairwise_map]
    refine ((ends_nodup hc).filter _).imp_of_mem fun {x y} hx hy hne e => ?_
    obtain ⟨x1, x2⟩ := List.mem_filter.1 hx
    obtain ⟨y1, y2⟩ := List.mem_filter.1 hy
    obtain ⟨a1, a2, -⟩ := arcOf_vals hc x1 x2
    obtain ⟨b1, b2, -⟩ := arcOf_vals hc y1 y2
    obtain ⟨l1, l2⟩ := ends_lt hc x1
    obtain ⟨m1, m2⟩ := ends_lt hc y1
    simp only [Function.comp, Prod.mk.injEq, a1, a2, b1, b2] at e
    refine hne ?_
    unfold pairE
    rw [nodeAt_inj hc l1 m1 e.1, nodeAt_inj hc l2 m2 e.2]
theorem endAt_mem {h : HierD} (hc : checkErr h = .nil) {i : Nat} (hi : i < cntOf h) : endAt h i ∈ endsOf h := by
  rw [← cnt_ends hc] at hi
  unfold endAt
  rw [List.getD_eq_getElem?_getD, List.getElem?_eq_getElem hi]
  exact List.getElem_mem _
theorem link_arc {h : HierD} (hc : checkErr h = .nil) {i : Nat} (hi : i < cntOf h) (hp : (linkAt h i).plain = true) : ∃ x ∈ arcsL h, x.1.val = nodeAt h (endAt h i).tail ∧ x.2.1.val = nodeAt h (endAt h i).head ∧ x.2.2.val = (linkAt h i).wt := by
  have hm := endAt_mem hc hi
  have hl := endAt_link hc hi
  have hp' : (endAt h i).link.plain = true := by rw [hl]; exact hp
  obtain ⟨e1, e2, e3⟩ := arcOf_vals hc hm hp'
  exact ⟨_, arcs_mem.2 ⟨_, hm, hp', rfl⟩, e1, e2, by rw [e3, hl]⟩
theorem arc_link {h : HierD} (hc : checkErr h = .nil) {x : AF} (hx : x ∈ arcsL h) : ∃ i, i < cntOf h ∧ (linkAt h i).plain = true ∧ (x.1.val, x.2.1.val) = stepOf h i ∧ x.2.2.val = (linkAt h i).wt := by
  obtain ⟨e, h1, h2, rfl⟩ := arcs_mem.1 hx
  obtain ⟨e1, e2, e3⟩ := arcOf_vals hc h1 h2
  obtain ⟨k, hk, rfl⟩ := List.mem_iff_getElem.1 h1
  have hk2 : k < cntOf h := by rw [← cnt_ends hc]; exact hk
  have e4 : endAt h k = (endsOf h)[k] := by unfold endAt; rw [List.getD_eq_getElem?_getD, List.getElem?_eq_getElem hk]; rfl
  have hl := endAt_link hc hk2
  rw [e4] at hl
  refine ⟨k, hk2, by rw [← hl]; exact h2, ?_, by rw [e3, hl]⟩
  unfold stepOf
  rw [e1, e2, e4]
theorem chain_walk {h : HierD} (hc : checkErr h = .nil) {l : List AF} (hl : l.Perm (arcsL h)) (u : Nat) : ∀ (ls : List Nat) (a b : Nat) (d : Int), (∀ x ∈ ls, x < cntOf h ∧ (linkAt h x).plain = true) → Chain h ls a b → Wk (webC l) (-1) u (nodeAt h a) d →
    Wk (webC l) (-1) u (nodeAt h b) (d + (((ls.map fun x => (linkAt h x).wt).sum : Nat) : Int)) := by
  intro ls
  induction ls with
  | nil =>
    intro a b d _ hch hw
    have e : a = b := hch
    subst e
    simpa using hw
  | cons x ls ih =>
    intro a b d hp hch hw
    obtain ⟨h1, h2⟩ := hch
    subst h1
    obtain ⟨p1, p2⟩ := hp x (by simp)
    obtain ⟨y, hy, y1, y2, y3⟩ := link_arc hc p1 p2
    have hm : (y.2.1.val, y.2.2.val) ∈ webC l (nodeAt h (endAt h x).tail) := webC_mem.2 ⟨y, hl.mem_iff.2 hy, y1, rfl⟩
    have hw2 := hw.snoc _ hm (by omega)
    simp only [y2, y3] at hw2
    have := ih _ _ _ (fun z hz => hp z (by simp [hz])) h2 hw2
    rw [List.map_cons, List.sum_cons]
    have e : d + (((linkAt h x).wt + (ls.map fun x => (linkAt h x).wt).sum : Nat) : Int) = d + ((linkAt h x).wt : Int) + (((ls.map fun x => (linkAt h x).wt).sum : Nat) : Int) := by omega
    rw [e]
    exact this
theorem arcs_links {h : HierD} (hc : checkErr h = .nil) {l : List AF} (hl : l.Perm (arcsL h)) : ∀ es : List AF, (∀ x ∈ es, x ∈ l) → ∃ ls : List Nat, (∀ x ∈ ls, x < cntOf h ∧ (linkAt h x).plain = true) ∧ es.map (fun x : AF => (x.1.val, x.2.1.val)) = ls.map (stepOf h) ∧ (es.map fun x : AF => x.2.2.val) = ls.map fun x => (linkAt h x).wt := by
  intro es
  induction es with
  | nil => intro _; exact ⟨[], by simp, rfl, rfl⟩
  | cons x es ih =>
    intro he
    obtain ⟨ls, h1, h2, h3⟩ := ih fun y hy => he y (by simp [hy])
    obtain ⟨i, a1, a2, a3, a4⟩ := arc_link hc (hl.mem_iff.1 (he x (by simp)))
    refine ⟨i :: ls, fun y hy => ?_, ?_, ?_⟩
    · rcases List.mem_cons.1 hy with rfl | hy
      · exact ⟨a1, a2⟩
      · exact h1 y hy
    · rw [List.map_cons, List.map_cons, h2, a3]
    · rw [List.map_cons, List.map_cons, h3, a4]
theorem path_of_arcs {h : HierD} (hc : checkErr h = .nil) {l : List AF} (hl : l.Perm (arcsL h)) {s t : Nat} {d : Int} {p : List Nat} (a : ArcPath l s t d p) : PathIs h s t d p := by
  obtain ⟨es, h1, h2, h3⟩ := a.arcs
  obtain ⟨ls, l1, l2, l3⟩ := arcs_links hc hl es h1
  exact ⟨a.head, a.last, a.nd, ls, l1, by rw [h2, l2], by rw [← l3]; exact h3⟩
set_option linter.unusedSimpArgs false in
set_option maxRecDepth 100000 in
set_option maxHeartbeats 8000000 in
theorem rless_any (x y : AF) (w : World) : Calls Tryz.prog 100 #[.agg (arcCells x).toArray, .agg (arcCells y).toArray] w (BoolNew w) := by
  obtain ⟨a, ha⟩ : ∃ a, x.1.val = a := ⟨_, rfl⟩
  obtain ⟨b, hb⟩ : ∃ a, x.2.1.val = a := ⟨_, rfl⟩
  obtain ⟨a', ha'⟩ : ∃ a, y.1.val = a := ⟨_, rfl⟩
  obtain ⟨b', hb'⟩ : ∃ a, y.2.1.val = a := ⟨_, rfl⟩
  obtain ⟨c, hc⟩ : ∃ a, x.2.2.val = a := ⟨_, rfl⟩
  obtain ⟨c', hc'⟩ : ∃ a, y.2.2.val = a := ⟨_, rfl⟩
  unfold arcCells
  rw [ha, hb, ha', hb', hc, hc']
  have HB := Lib.hid (((Below.refl w.heap.size w).alloc (Nat.le_refl _) (.cells #[.int .i64 (a : Int), .int .i64 (b : Int), .int .i64 (c : Int)] 100)).alloc (by simp) (.cells #[.int .i64 (a' : Int), .int .i64 (b' : Int), .int .i64 (c' : Int)] 100))
  clear ha hb ha' hb' hc hc'
  by_cases h1 : a < a'
  · have q1 : decide ((a : Int) < (a' : Int)) = true := by simp; omega
    have q2 : decide (a < a') = true := by simp; omega
    clear h1
    go_enter Tryz.func100, Tryz.ntmps100
    go_wp2_with fail
    go_ret
    exact ⟨_, rfl, HB.out⟩
  · have q1 : decide ((a : Int) < (a' : Int)) = false := by simp; omega
    have q2 : decide (a < a') = false := by simp; omega
    by_cases h2 : a = a'
    · subst h2
      clear h1
      go_enter Tryz.func100, Tryz.ntmps100
      go_wp2_with fail
      go_ret
      exact ⟨_, rfl, HB.out⟩
    · have q3 : ((a : Int) == (a' : Int)) = false := by simp; omega
      have q4 : (a == a') = false := by simp; omega
      clear h1 h2
      go_enter Tryz.func100, Tryz.ntmps100
      go_wp2_with fail
      go_ret
      exact ⟨_, rfl, HB.out⟩
section
variable {P : Program}
theorem run_app_none (w : World) (t ty e : TypeId) (i : TypeInfo) (ht : P.underlying t = some (.slice e)) (hi : P.info? e = some i) (base : Option Addr) (n cap c : Nat) (h : n ≤ cap) :
    (Builtin.append_ #[t, t] ty #[.slice base n cap, .slice none 0 c]).run P w = .ok (.slice base n cap) w := by
  cases base with
  | none => simp [Builtin.append_, run_underlying ht, sizeOf, typeInfo, hi, Builtin.lenOf, h, Builtin.firstCells]
  | some a => simp [Builtin.append_, run_underlying ht, sizeOf, typeInfo, hi, Builtin.lenOf, h, Builtin.firstCells, storeCells]
theorem wp_appR4 {o : Oper} {a : Act} {w : World} {K : Act → World → Prop} {Q : Exit → Act → World → Prop} (s x : Operand) (t : TypeId)
    (ho : o.op = .call { callee := .builtin .append, args := #[s, x], argTypes := #[t, t] }) (v u r : Value) (w' : World) (hs : a.eval s = v) (hx : a.eval x = u)
    (hr : (Builtin.append_ #[t, t] o.type #[v, u]).run P w = .ok r w') (h : K (a.put o.dst r) w') : o.wp P a w K Q := by
  unfold Oper.wp execOp
  simp only [ho, resolve, invoke, builtin, Sem.run_bind, Sem.run_pure, Result.andThen_ok, List.map_toArray, List.map_cons, List.map_nil, hs, hx, hr]
  exact h
theorem wpList_app_none {ops : Array Oper} {rest : List Oper} {o : Oper} {a : Act} {w : World} {Q : Exit → Act → World → Prop} (hgd : o.guard = none) (s x : Operand) (t : TypeId)
    (ho : o.op = .call { callee := .builtin .append, args := #[s, x], argTypes := #[t, t] }) (e : TypeId) (i : TypeInfo) (ht : P.underlying t = some (.slice e)) (hi : P.info? e = some i) (base : Option Addr) (n cap c : Nat) (hs : a.eval s = .slice base n cap) (hx : a.eval x = .slice none 0 c) (hle : n ≤ cap)
    (h : wpList P ops Q rest (a.put o.dst (.slice base n cap)) w) : wpList P ops Q (o :: rest) a w :=
  wpList_plain hgd fun _ hK => wp_appR4 s x t ho _ _ _ w hs hx (run_app_none w t o.type e i ht hi base n cap c hle) (hK _ _ h)
theorem run_sub_to4 (t e : TypeId) (sz : Nat) (ht : P.underlying t = some (.slice e)) (hs : ∀ w, (sizeOf e).run P w = .ok sz w) (ao : Option Addr) (n cap hi : Nat) (kh : IntKind) (h2 : hi ≤ cap) (w : World) :
    (Instr.slice t (.slice ao n cap) none (some (.int kh (hi : Int))) none).run P w = .ok (.slice (slBase ao 0 cap sz) hi cap) w := by
  have he : P.elem t = e := by simp [Program.elem, ht]
  have h := run_slice_h (P := P) (w := w) t ao n cap (by rw [ht, he]) kh (hi : Int) (by omega) (by omega)
  rw [h, he, hs]
  simp [Result.andThen, sliced, slBase]
theorem run_sub_from4 (t e : TypeId) (sz : Nat) (ht : P.underlying t = some (.slice e)) (hs : ∀ w, (sizeOf e).run P w = .ok sz w) (ao : Option Addr) (n cap lo : Nat) (kh : IntKind) (h1 : lo ≤ n) (w : World) :
    (Instr.slice t (.slice ao n cap) (some (.int kh (lo : Int))) none none).run P w = .ok (.slice (slBase ao lo cap sz) (n - lo) (cap - lo)) w := by
  have he : P.elem t = e := by simp [Program.elem, ht]
  have h := run_slice_l (P := P) (w := w) t ao n cap (by rw [ht, he]) kh (lo : Int) (by omega) (by omega)
  rw [h, he, hs]
  simp [Result.andThen, sliced, slBase]
end
theorem See.news {α : Type} {w : World} {b o cap sz : Nat} {f : α → List Value} {l : List α} (h : See w (some ⟨b, o, none⟩) cap f sz l) (hf : ∀ x, (f x).length = sz) (hsz : 0 < sz) : ∀ j u, (l.flatMap f)[j]? = some u → w.cell? ((⟨b, o, none⟩ : Addr).add j) = some u := by
  intro j u hu
  have hg := flat_get hf l (j / sz) (j % sz) (Nat.mod_lt _ hsz)
  have e : j / sz * sz + j % sz = j := by rw [Nat.mul_comm]; exact Nat.div_add_mod j sz
  rw [e, hu] at hg
  cases hx : l[j / sz]? with
  | none => rw [hx] at hg; cases hg
  | some x =>
    rw [hx] at hg
    obtain ⟨b', o', e', hc⟩ := h.cell _ x hx
    simp only [Option.some.injEq, Addr.mk.injEq, and_true] at e'
    obtain ⟨rfl, rfl⟩ := e'
    have := hc _ u hg.symm
    rw [Nat.add_assoc, e] at this
    have ea : (⟨b, o, none⟩ : Addr).add j = ⟨b, o + j, none⟩ := by unfold Addr.add; split <;> simp_all
    rw [ea]
    exact this
theorem slBase_some (b o lo cap sz : Nat) : ∃ o', slBase (some ⟨b, o, none⟩) lo cap sz = some ⟨b, o', none⟩ := by
  unfold slBase
  split
  · exact ⟨o, rfl⟩
  · refine ⟨o + lo * sz, ?_⟩
    rw [Option.map_some]
    unfold Addr.add
    split <;> simp_all
theorem one_arc {u : Value} {l : List AF} (hu : u ∈ l.flatMap arcCells) : u.oneCell' = true := by
  rw [List.mem_flatMap] at hu
  obtain ⟨x, -, hu⟩ := hu
  simp only [arcCells, List.mem_cons, List.not_mem_nil, or_false] at hu
  rcases hu with rfl | rfl | rfl <;> rfl
theorem Tryz.sizeArcC (w : World) : (sizeOf 100).run Tryz.prog w = .ok 3 w := by kernel_rfl
def PutPost (l : List AF) (x : AF) (w : World) (e : Ending) (w' : World) : Prop :=
  ∃ ao cap l', e = .returned (.slice ao (l.length + 1) cap) ∧ l'.Perm (x :: l) ∧ ArcsO w.heap.size w' (.slice ao (l.length + 1) cap) l' ∧ Below w.heap.size w w'
set_option linter.unusedSimpArgs false in
set_option maxRecDepth 100000 in
set_option maxHeartbeats 8000000 in
theorem rput_nil (x : AF) (w : World) : Calls Tryz.prog 76 #[.slice none 0 0, .agg (arcCells x).toArray] w (PutPost [] x w) := by
  obtain ⟨i, hi, hz, hsize, hby⟩ := info_parts Tryz.infoArc
  have hsub := fun W => run_sub_to4 (P := Tryz.prog) 50 100 3 Tryz.underlying50 Tryz.sizeArcC none 0 0 0 .i64 (Nat.le_refl _) W
  have hsuf := fun W => run_sub_from4 (P := Tryz.prog) 50 100 3 Tryz.underlying50 Tryz.sizeArcC none 0 0 0 .i64 (Nat.le_refl _) W
  simp only [slBase, if_true, Nat.sub_self] at hsub hsuf
  have HB := Lib.hid ((Below.refl w.heap.size w).alloc (Nat.le_refl _) (.cells (arcCells x).toArray 100))
  have HI := Lib.hid hi
  clear hi hz hsize hby
  have HX := Lib.hid (Cells.new w 100 (arcCells x))
  have HAC := Lib.hid (show arcCells x = [.int .i64 (x.1.val : Int), .int .i64 (x.2.1.val : Int), .int .i64 (x.2.2.val : Int)] from rfl)
  unfold arcCells at HB HX
  unfold arcCells
  go_enter Tryz.func76, Tryz.ntmps76
  go_wp2_with fail
  refine wp_loop_rounds 1 ?_
  rw [rounds_succ]
  go_wp2_with fail
  go_quiet (fail)
  obtain ⟨wp, hwp⟩ : ∃ wp, (w.alloc (.cells #[.int .i64 (x.1.val : Int), .int .i64 (x.2.1.val : Int), .int .i64 (x.2.2.val : Int)] 100)).drewN nq = wp := ⟨_, rfl⟩
  have hbwp : Below w.heap.size w wp := by rw [← hwp]; exact below_drewN HB.out _
  have hxwp : Cells wp w.heap.size 100 [.int .i64 (x.1.val : Int), .int .i64 (x.2.1.val : Int), .int .i64 (x.2.2.val : Int)] := by rw [← hwp]; exact HX.out
  rw [hwp]
  have y0 : wp.cell? ⟨w.heap.size, 0, none⟩ = some (.int .i64 (x.1.val : Int)) := hxwp.cell rfl
  have y1 : wp.cell? ⟨w.heap.size, 1, none⟩ = some (.int .i64 (x.2.1.val : Int)) := hxwp.cell rfl
  have y2 : wp.cell? ⟨w.heap.size, 2, none⟩ = some (.int .i64 (x.2.2.val : Int)) := hxwp.cell rfl
  have lwp := hxwp.lt
  have HBwp := Lib.hid hbwp
  have HXwp := Lib.hid hxwp
  clear hwp hbwp hxwp
  go_wp2_with (at_builtin; refine wpList_app_none _ rfl _ _ 50 rfl 100 i Tryz.underlying50 HI.out none 0 0 0 rfl rfl (Nat.le_refl _) ?_)
  go_wp2_with fail
  go_quiet (fail)
  clear y0 y1 y2
  obtain ⟨wq, hwq⟩ : ∃ wq, wp.drewN nq = wq := ⟨_, rfl⟩
  have hbwq : Below w.heap.size w wq := by rw [← hwq]; exact below_drewN HBwp.out _
  have hxwq : Cells wq w.heap.size 100 [.int .i64 (x.1.val : Int), .int .i64 (x.2.1.val : Int), .int .i64 (x.2.2.val : Int)] := by rw [← hwq]; exact HXwp.out
  rw [hwq]
  have y0 : wq.cell? ⟨w.heap.size, 0, none⟩ = some (.int .i64 (x.1.val : Int)) := hxwq.cell rfl
  have y1 : wq.cell? ⟨w.heap.size, 1, none⟩ = some (.int .i64 (x.2.1.val : Int)) := hxwq.cell rfl
  have y2 : wq.cell? ⟨w.heap.size, 2, none⟩ = some (.int .i64 (x.2.2.val : Int)) := hxwq.cell rfl
  have lwq := hxwq.lt
  have HBwq := Lib.hid hbwq
  have HXwq := Lib.hid hxwq
  clear hwq hbwq hxwq
  dsimp only [Exit.then]
  go_wp2_with (at_builtin; refine wpList_app _ rfl _ _ 50 rfl 100 (.agg #[.int .i64 0, .int .i64 0, .int .i64 0]) 3 24 Tryz.underlying50 Tryz.infoArc rfl (by decide) (.slice none 0 0) 0 [] rfl (World.ownsRow_nil _ _ _ _) ⟨wq.heap.size, 0, none⟩ 1 1 (arcCells x) rfl rfl ?c1 ?c2 ?c3 ?c4 ?_)
  case c1 => exact cells_new wq 100 (arcCells x)
  case c2 => intro u hu; exact one_arc (l := [x]) (by simpa using hu)
  case c3 => unfold maxLen; omega
  case c4 => omega
  intro ao cap w5 hown ho hk
  have hba := (Below.refl wq.heap.size wq).alloc (Nat.le_refl _) (.cells (arcCells x).toArray 100)
  have hA := (ArcsO.nil wq.heap.size (wq.alloc (.cells (arcCells x).toArray 100))).app [x] (m := 1) rfl (ao := ao) (cap := cap) (w5 := w5) (by simpa using hown) (by simpa using hk) (by simp)
  have hcap : 1 ≤ cap := hA.see.1.hcap
  obtain ⟨g2, c2, e2, -, -⟩ := own_form hA.own (by simp)
  simp only [List.nil_append, List.length_cons, List.length_nil, Nat.zero_add, Value.slice.injEq] at e2
  obtain ⟨rfl, -, rfl⟩ := e2
  have HA := Lib.hid (And.intro (hA.mono HBwq.out.size) ((HBwq.out.trans (hba.mono HBwq.out.size)).trans (ho.below (B := w.heap.size) (by have := HBwq.out.size; simp; omega) (fun k hk => by simp [Value.ownBlock] at hk))))
  clear hown ho hk hba hA
  go_wp2_with (at_builtin; refine wpList_app_none _ rfl _ _ 50 rfl 100 i Tryz.underlying50 HI.out (some ⟨g2, 0, none⟩) 1 cap 0 rfl rfl hcap ?_)
  go_ret
  exact ⟨_, cap, [x], rfl, List.Perm.refl _, HA.out.1, HA.out.2⟩
def nums (l : List Nat) : List Value := l.map fun x : Nat => Value.int .i64 (x : Int)
theorem nums_flat (l : List Nat) : nums l = l.flatMap i64Cells := by
  induction l with
  | nil => rfl
  | cons a l ih => unfold nums at ih ⊢; rw [List.map_cons, List.flatMap_cons, ih]; rfl
theorem nums_get {l : List Nat} {i x : Nat} (h : l[i]? = some x) : (nums l)[i]? = some (.int .i64 (x : Int)) := by unfold nums; rw [List.getElem?_map, h]; rfl
theorem nums_set (l : List Nat) (i x : Nat) : (nums l).set i (.int .i64 (x : Int)) = nums (l.set i x) := by unfold nums; rw [List.map_set]
theorem nums_rep (n : Nat) : madeCells (Value.int .i64 0).cells (n * 1) = (nums (List.replicate n 0)).toArray := by
  rw [marks_made]
  congr 1
  unfold marksOf nums
  apply List.ext_getElem?
  intro j
  by_cases hj : j < n
  · rw [List.getElem?_map, List.getElem?_range hj, List.getElem?_map, List.getElem?_replicate, if_pos hj]; rfl
  · rw [List.getElem?_eq_none (by simpa using hj), List.getElem?_eq_none (by simpa using hj)]
theorem Cells.seeInts {w : World} {b cap : Nat} {l : List Nat} (h : Cells w b 3 (nums l)) (hn : l.length ≤ cap) (hm : cap ≤ maxLen) : See w (some ⟨b, 0, none⟩) cap i64Cells 1 l := by
  refine ⟨hn, hm, fun i x hx => ⟨b, 0, rfl, fun j u hu => ?_⟩⟩
  have hj : j = 0 := by
    have := (List.getElem?_eq_some_iff.1 hu).1
    simp [i64Cells] at this
    omega
  subst hj
  simp only [i64Cells, List.getElem?_cons_zero, Option.some.injEq] at hu
  subst hu
  rw [Nat.zero_add, Nat.mul_one, Nat.add_zero]
  exact h.cell (nums_get hx)
structure CsrOk (n : Nat) (l : List AF) : Prop where
  hn : n ≤ 65536
  len : l.length ≤ 262144
  clean : Clean n l
  sorted : l.Pairwise fun x y => ltOf cmp3 y x = false
theorem CsrOk.byFrom {n : Nat} {l : List AF} (h : CsrOk n l) : ByFrom l := by
  refine h.sorted.imp fun {x y} hxy => ?_
  rw [ltOf3f] at hxy
  unfold arcLt3 at hxy
  omega
theorem CsrOk.rise {n : Nat} {l : List AF} (h : CsrOk n l) {i : Nat} {x y : AF} (hx : l[i]? = some x) (hy : l[i + 1]? = some y) (e : x.1.val = y.1.val) : x.2.1.val < y.2.1.val := by
  obtain ⟨h1, e1⟩ := List.getElem?_eq_some_iff.1 hx
  obtain ⟨h2, e2⟩ := List.getElem?_eq_some_iff.1 hy
  have hs := List.pairwise_iff_getElem.1 h.sorted i (i + 1) h1 h2 (by omega)
  rw [e1, e2, ltOf3f] at hs
  unfold arcLt3 at hs
  have hn := h.clean.nd
  rw [List.nodup_iff_pairwise_ne, List.pairwise_iff_getElem] at hn
  have hne := hn i (i + 1) (by simpa using h1) (by simpa using h2) (by omega)
  simp only [List.getElem_map, e1, e2, ne_eq, Prod.mk.injEq, not_and] at hne
  have := hne e
  omega
structure CA where
  fa : Option Addr
  fc : Nat
  ta : Option Addr
  tc : Nat
  wa : Option Addr
  wc : Nat
def csrVal (C : CA) (n m : Nat) : Value := .agg #[.slice C.fa (n + 1) C.fc, .slice C.ta m C.tc, .slice C.wa m C.wc]
structure CSee (w : World) (C : CA) (n : Nat) (l : List AF) : Prop where
  f : See w C.fa C.fc i64Cells 1 (firstL l n)
  t : See w C.ta C.tc i64Cells 1 (toL l)
  u : See w C.wa C.wc i64Cells 1 (wtL l)
theorem CSee.below {w w' : World} {C : CA} {n : Nat} {l : List AF} (s : CSee w C n l) (o : Below w.heap.size w w') : CSee w' C n l := ⟨s.f.below o, s.t.below o, s.u.below o⟩
theorem toL_get {l : List AF} {i : Nat} {x : AF} (h : l[i]? = some x) : (toL l)[i]? = some x.2.1.val := by unfold toL; rw [List.getElem?_map, h]; rfl
theorem wtL_get {l : List AF} {i : Nat} {x : AF} (h : l[i]? = some x) : (wtL l)[i]? = some x.2.2.val := by unfold wtL; rw [List.getElem?_map, h]; rfl
theorem See.int {w : World} {ao : Option Addr} {cap i x : Nat} {l : List Nat} (h : See w ao cap i64Cells 1 l) (hx : l[i]? = some x) : ∃ b o, ao = some ⟨b, o, none⟩ ∧ w.cell? ⟨b, o + i, none⟩ = some (.int .i64 (x : Int)) := by
  obtain ⟨b, o, e, hc⟩ := h.cell i x hx
  refine ⟨b, o, e, ?_⟩
  have := hc 0 _ rfl
  rwa [Nat.mul_one, Nat.add_zero] at this
theorem cnodes_any (C : CA) (n m : Nat) (w : World) (hn : n ≤ 65536) : Calls Tryz.prog 136 #[csrVal C n m] w fun e w' => e = .returned (.int .i64 (n : Int)) ∧ Below w.heap.size w w' := by
  unfold csrVal
  obtain ⟨k, hk⟩ : ∃ k, n + 1 = k := ⟨_, rfl⟩
  have hki : (k : Int) - 1 = (n : Int) := by omega
  have cn := IntWalk.i64_in (n : Int) (by omega)
  rw [hk]
  have hb := (Below.refl w.heap.size w).alloc (Nat.le_refl _) (.cells #[.slice C.fa k C.fc, .slice C.ta m C.tc, .slice C.wa m C.wc] 145)
  have HB := Lib.hid hb
  clear hk hb
  go_enter Tryz.func136, Tryz.ntmps136
  go_wp2_with fail
  go_ret
  exact ⟨rfl, HB.out⟩
end Go.Proofs.YtchhbgckonpedaaGreatDoor
