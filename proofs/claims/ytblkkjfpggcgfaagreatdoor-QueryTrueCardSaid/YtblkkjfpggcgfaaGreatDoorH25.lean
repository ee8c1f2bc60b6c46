/- The contract of unpack's ways: links that follow one another from a rank up to a higher one, and down to a rank. -/
import Derived.Test.YtblkkjfpggcgfaaGreatDoorH24
import Derived.Test.YtblkkjfpggcgfaaGreatDoorH17
import Derived.LaidEql
import Derived.Stop.Asserts
import Derived.RowKitTokens
import Derived.Test.YtblkkjfpggcgfaaGreatDoorH18
import Derived.Deep.RegionHeld3
import Derived.Deep.AppendLies
import Derived.Laws.EntriesVeiled
import Derived.Sort.AtCall
import Derived.Test.YtblkkjfpggcgfaaGreatDoorH20
import Derived.Deep.RegionLaw
namespace Go.Proofs.YtblkkjfpggcgfaaGreatDoor
open Go.ChangeShapes Go.WideShapes Go.ChangeAt Go.RowKit Go.Joins Go.Deep
theorem flat_more {α : Type} (f : Nat → List α) (m : Nat) : ∀ k, ∃ rest, (List.range (m + k)).flatMap f = (List.range m).flatMap f ++ rest := by
  intro k
  induction k with
  | zero => exact ⟨[], by simp⟩
  | succ k ih =>
    obtain ⟨rest, h⟩ := ih
    refine ⟨rest ++ f (m + k), ?_⟩
    rw [← Nat.add_assoc, List.range_succ, List.flatMap_append, h, List.append_assoc]
    simp
theorem flat_row {α : Type} (f : Nat → List α) {n r i : Nat} (hr : r < n) (h1 : ((List.range r).flatMap f).length ≤ i) (h2 : i < ((List.range (r + 1)).flatMap f).length) : ∃ x, ((List.range n).flatMap f)[i]? = some x ∧ x ∈ f r := by
  obtain ⟨rest, e⟩ := flat_more f (r + 1) (n - (r + 1))
  rw [show r + 1 + (n - (r + 1)) = n by omega] at e
  have e2 : (List.range (r + 1)).flatMap f = (List.range r).flatMap f ++ f r := by rw [List.range_succ, List.flatMap_append]; simp
  rw [e2, List.length_append] at h2
  have h3 : i - ((List.range r).flatMap f).length < (f r).length := by omega
  refine ⟨(f r)[i - ((List.range r).flatMap f).length], ?_, List.getElem_mem _⟩
  rw [e, List.getElem?_append_left (by rw [e2, List.length_append]; exact h2), e2, List.getElem?_append_right h1, List.getElem?_eq_getElem h3]
theorem up_link {h : HierD} (hc : checkErr h = .nil) {r i : Nat} {l : LinkD} (hr : r < h.node.length) (h1 : h.upF.getD r 0 ≤ i) (h2 : i < h.upF.getD (r + 1) 0) (hl : h.up[i]? = some l) :
    i < cntOf h ∧ (endAt h i).tail = r ∧ (endAt h i).head = l.to ∧ linkAt h i = l := by
  obtain ⟨u, d⟩ := parts_firsts hc
  have hi : i < h.up.length := (List.getElem?_eq_some_iff.1 hl).1
  have hlk : linkAt h i = l := by unfold linkAt; rw [if_pos hi, List.getD_eq_getElem?_getD, hl]; rfl
  have hcnt : i < cntOf h := by unfold cntOf; omega
  obtain ⟨x, hx, hm⟩ := flat_row (endsUp h.upF h.up) hr (by rw [endsUp_length u r (by omega)]; exact h1) (by rw [endsUp_length u (r + 1) (by omega)]; exact h2)
  have hrk : (endAt h i).rank = r := by
    unfold endAt endsOf
    rw [List.getD_eq_getElem?_getD, List.getElem?_append_left (by exact (List.getElem?_eq_some_iff.1 hx).1), hx, Option.getD_some]
    simp only [endsUp, List.mem_map] at hm
    obtain ⟨q, -, rfl⟩ := hm
    rfl
  obtain ⟨e1, e2⟩ := endAt_up hc hi
  exact ⟨hcnt, by rw [e1, hrk], by rw [e2, endAt_link hc hcnt, hlk], hlk⟩
theorem dn_link {h : HierD} (hc : checkErr h = .nil) {r i : Nat} {l : LinkD} (hr : r < h.node.length) (h1 : h.dnF.getD r 0 ≤ i) (h2 : i < h.dnF.getD (r + 1) 0) (hl : h.dn[i]? = some l) :
    h.up.length + i < cntOf h ∧ (endAt h (h.up.length + i)).tail = l.to ∧ (endAt h (h.up.length + i)).head = r ∧ linkAt h (h.up.length + i) = l := by
  obtain ⟨u, d⟩ := parts_firsts hc
  have hi : i < h.dn.length := (List.getElem?_eq_some_iff.1 hl).1
  have hlk : linkAt h (h.up.length + i) = l := by unfold linkAt; rw [if_neg (by omega), List.getD_eq_getElem?_getD, Nat.add_sub_cancel_left, hl]; rfl
  have hcnt : h.up.length + i < cntOf h := by unfold cntOf; omega
  have hul : ((List.range h.node.length).flatMap (endsUp h.upF h.up)).length = h.up.length := by rw [endsUp_length u _ (Nat.le_refl _), u.last]
  obtain ⟨x, hx, hm⟩ := flat_row (endsDn h.dnF h.dn) hr (by rw [endsDn_length d r (by omega)]; exact h1) (by rw [endsDn_length d (r + 1) (by omega)]; exact h2)
  have hrk : (endAt h (h.up.length + i)).rank = r := by
    unfold endAt endsOf
    rw [List.getD_eq_getElem?_getD, List.getElem?_append_right (by omega), hul, Nat.add_sub_cancel_left, hx, Option.getD_some]
    simp only [endsDn, List.mem_map] at hm
    obtain ⟨q, -, rfl⟩ := hm
    rfl
  obtain ⟨e1, e2⟩ := endAt_dn hc (i := h.up.length + i) (by omega) hcnt
  exact ⟨hcnt, by rw [e1, endAt_link hc hcnt, hlk], by rw [e2, hrk], hlk⟩
structure WayIs (h : HierD) (l : List Nat) (s t : Nat) (d : Int) : Prop where
  lt : ∀ x ∈ l, x < cntOf h
  chain : Chain h l s t
  sum : (((l.map fun x => (linkAt h x).wt).sum : Nat) : Int) = d
theorem WayIs.nil (h : HierD) (s : Nat) : WayIs h [] s s 0 := ⟨by simp, rfl, rfl⟩
theorem WayIs.cons {h : HierD} {l : List Nat} {m t i : Nat} {d : Int} (w : WayIs h l m t d) (hi : i < cntOf h) {s : Nat} (h1 : (endAt h i).tail = s) (h2 : (endAt h i).head = m) : WayIs h (i :: l) s t ((linkAt h i).wt + d) :=
  ⟨fun x hx => by
    rcases List.mem_cons.1 hx with rfl | hx
    · exact hi
    · exact w.lt x hx, ⟨h1, by rw [h2]; exact w.chain⟩, by rw [List.map_cons, List.sum_cons, Int.natCast_add, w.sum]⟩
theorem WayIs.snoc {h : HierD} {l : List Nat} {s m i : Nat} {d : Int} (w : WayIs h l s m d) (hi : i < cntOf h) {t : Nat} (h1 : (endAt h i).tail = m) (h2 : (endAt h i).head = t) : WayIs h (l ++ [i]) s t (d + (linkAt h i).wt) :=
  ⟨fun x hx => by
    rcases List.mem_append.1 hx with hx | hx
    · exact w.lt x hx
    · rw [List.mem_singleton] at hx; subst hx; exact hi, w.chain.app ⟨h1, h2⟩, by rw [List.map_append, List.sum_append, Int.natCast_add, w.sum]; simp⟩
theorem Nats.fresh (w : World) (l : List Nat) (hl : l.length ≤ 1048576) : Nats w.heap.size (w.alloc (.cells (l.flatMap i64Cells).toArray 3)) (.slice (some ⟨w.heap.size, 0, none⟩) l.length l.length) l := by
  have hfl : (l.flatMap i64Cells).length = l.length * 1 := flat_length i64Cells_len l
  refine ⟨⟨hfl, .inr ⟨w.heap.size, l.length, (l.flatMap i64Cells).toArray, rfl, Nat.zero_le _, Cells.new w _ _, Nat.le_refl _, by unfold maxLen; omega, by simpa using hfl, by rw [← hfl, List.take_of_length_le (by simp)]⟩⟩, fun k hk => ?_⟩
  simp only [Value.ownBlock, Option.some.injEq] at hk
  omega
def stepOf (h : HierD) (x : Nat) : Nat × Nat := (nodeAt h (endAt h x).tail, nodeAt h (endAt h x).head)
theorem stack_chain {h : HierD} (hc : checkErr h = .nil) : ∀ (l : List Nat) (s t : Nat), (∀ x ∈ l, x < cntOf h) → Chain h l s t → Chain h (stackOut h l) s t := by
  intro l
  induction l with
  | nil => intro s t _ h; exact h
  | cons x l ih =>
    intro s t hl hch
    unfold stackOut
    rw [List.flatMap_cons]
    obtain ⟨h1, h2⟩ := hch
    have := laysOf_chain hc x (hl x (by simp))
    rw [h1] at this
    exact this.app (ih _ _ (fun y hy => hl y (by simp [hy])) h2)
theorem stack_wt {h : HierD} (hc : checkErr h = .nil) : ∀ (l : List Nat), (∀ x ∈ l, x < cntOf h) → ((stackOut h l).map fun x => (linkAt h x).wt).sum = (l.map fun x => (linkAt h x).wt).sum := by
  intro l
  induction l with
  | nil => intro _; rfl
  | cons x l ih =>
    intro hl
    have := ih (fun y hy => hl y (by simp [hy]))
    unfold stackOut at this ⊢
    rw [List.flatMap_cons, List.map_append, List.sum_append, laysOf_wt hc x (hl x (by simp)), this, List.map_cons, List.sum_cons]
theorem stack_mem {h : HierD} (hc : checkErr h = .nil) {l : List Nat} (hl : ∀ x ∈ l, x < cntOf h) : ∀ y ∈ stackOut h l, y < cntOf h ∧ (linkAt h y).plain = true := by
  intro y hy
  unfold stackOut at hy
  rw [List.mem_flatMap] at hy
  obtain ⟨x, hx, h1⟩ := hy
  exact laysOf_mem hc x (hl x hx) y h1
structure PathIs (h : HierD) (s t : Nat) (d : Int) (p : List Nat) : Prop where
  head : p.head? = some s
  last : p.getLast? = some t
  nodup : p.Nodup
  links : ∃ ls : List Nat, (∀ x ∈ ls, x < cntOf h ∧ (linkAt h x).plain = true) ∧ steps p = ls.map (stepOf h) ∧ ((((ls.map fun x => (linkAt h x).wt).sum : Nat) : Int)) ≤ d
theorem PathIs.one (h : HierD) (s : Nat) {d : Int} (hd : 0 ≤ d) : PathIs h s s d [s] := ⟨rfl, rfl, by simp, [], by simp, rfl, by simpa using hd⟩
theorem nodeAt_idx {h : HierD} {v : Nat} (hv : v ∈ h.node) : nodeAt h (h.node.idxOf v) = v := by
  have hi := List.idxOf_lt_length_of_mem hv
  unfold nodeAt
  rw [List.getD_eq_getElem?_getD, List.getElem?_eq_getElem hi, Option.getD_some, List.getElem_idxOf hi]
end Go.Proofs.YtblkkjfpggcgfaaGreatDoor
namespace Go.Proofs.YtblkkjfpggcgfaaGreatDoor
open Go.RowKit Go.Extern.Stop Go.Stop Go.Extern
theorem run_equalIn_num {P : Program} (w : World) (d : Nat) {ti tn : TypeId} {ms : Array (String × TypeId)} {i : TypeInfo} {k : IntKind} (a b : Int)
    (hi : P.underlying ti = some (.interface ms)) (hn : P.underlying tn = some (.int k)) (hinfo : P.info? tn = some i) (hcomp : i.comparable = true) :
    (Op.equalIn (d + 2) ti (.iface tn (.int k a)) (.iface tn (.int k b))).run P w = .ok (a == b) w := by
  simp [Op.equalIn, run_underlying hi, run_underlying hn, typeInfo, hinfo, hcomp]
theorem run_eql_num {P : Program} (w : World) {ti tn : TypeId} {ms : Array (String × TypeId)} {i : TypeInfo} {k : IntKind} (a b : Int)
    (hi : P.underlying ti = some (.interface ms)) (hn : P.underlying tn = some (.int k)) (hinfo : P.info? tn = some i) (hcomp : i.comparable = true) :
    (binOp .eql ti (.iface tn (.int k a)) (.iface tn (.int k b))).run P w = .ok (.bool (a == b)) w := by
  simp only [binOp]
  simp [Op.equal, Op.maxDepth, run_equalIn_num w 9998 a b hi hn hinfo hcomp]
theorem Tryz.errCmp : (Tryz.prog.info? 53).map (·.comparable) = some true := by kernel_rfl
theorem Tryz.eqlErrno (a b : Int) (w : World) : (binOp .eql 32 (.iface 53 (.int .i64 a)) (.iface 53 (.int .i64 b))).run Tryz.prog w = .ok (.bool (a == b)) w := by
  obtain ⟨i, hi, hc⟩ := Option.map_eq_some_iff.1 Tryz.errCmp
  exact run_eql_num w a b Tryz.underlying32 Tryz.underlying53 hi hc
theorem Tryz.eqlFault (g : Option Addr) (b : Int) (w : World) : (binOp .eql 32 (.iface 94 (.pointer g)) (.iface 53 (.int .i64 b))).run Tryz.prog w = .ok (.bool false) w :=
  run_eql_iface_types (P := Tryz.prog) 94 53 (.pointer g) (.int .i64 b) Tryz.underlying32 (by decide) w
theorem Tryz.typeOfErrno (v : Value) (w : World) : (ReflectliteType.typeOf #[.iface 53 v]).run Tryz.prog w = .ok (.iface 186 (.agg #[.pointer (some ⟨1, 53, none⟩)])) w := by kernel_rfl
theorem Tryz.comparableErrno (w : World) : ((ReflectliteType.method fun t => do Rtype.noPackHeld "Comparable" t; (fun a => Value.bool a.comparable) <$> typeInfo t) #[.agg #[.pointer (some ⟨1, 53, none⟩)]]).run Tryz.prog w = .ok (.bool true) w := by kernel_rfl
theorem Tryz.noIsErrno (v : Value) (xT : TypeId) (w : World) : (Instr.typeAssert (.iface 53 v) xT 198 true).run Tryz.prog w = .ok (.tuple #[.nilIface, .bool false]) w := run_typeAssert_lacksB Tryz.underlying198 (by kernel_rfl) (by kernel_rfl) v xT w
theorem Tryz.noUnwrapErrno (v : Value) (xT : TypeId) (w : World) : (Instr.typeAssert (.iface 53 v) xT 193 true).run Tryz.prog w = .ok (.tuple #[.nilIface, .bool false]) w := run_typeAssert_lacksB Tryz.underlying193 (by kernel_rfl) (by kernel_rfl) v xT w
theorem Tryz.noUnwrapsErrno (v : Value) (xT : TypeId) (w : World) : (Instr.typeAssert (.iface 53 v) xT 195 true).run Tryz.prog w = .ok (.tuple #[.nilIface, .bool false]) w := run_typeAssert_lacksB Tryz.underlying195 (by kernel_rfl) (by kernel_rfl) v xT w
theorem Tryz.noIsFault (v : Value) (xT : TypeId) (w : World) : (Instr.typeAssert (.iface 94 v) xT 198 true).run Tryz.prog w = .ok (.tuple #[.nilIface, .bool false]) w := run_typeAssert_lacksB Tryz.underlying198 (by kernel_rfl) (by kernel_rfl) v xT w
theorem Tryz.hasUnwrapFault (v : Value) (xT : TypeId) (w : World) : (Instr.typeAssert (.iface 94 v) xT 193 true).run Tryz.prog w = .ok (.tuple #[.iface 94 v, .bool true]) w := run_typeAssert_hasB Tryz.underlying193 (by kernel_rfl) v xT w
set_option maxRecDepth 100000 in
theorem is_errno (n m : Int) (w : World) : Calls Tryz.prog 34 #[.iface 53 (.int .i64 n), .iface 53 (.int .i64 m)] w fun e w' => e = .returned (.bool (n == m)) ∧ w' = w := by
  have h8 := fun (args : Array Value) (W : World) => run_callFunc_extern (P := Tryz.prog) (f := 63) (e := ReflectliteType.typeOf) Tryz.func63 (by kernel_rfl) (by kernel_rfl) (by kernel_rfl) (by kernel_rfl) args W
  have h32 := fun (args : Array Value) (W : World) => run_callFunc_extern (P := Tryz.prog) (f := 130) (e := ReflectliteType.method fun t => do Rtype.noPackHeld "Comparable" t; pure (.bool (← typeInfo t).comparable)) Tryz.func130 (by kernel_rfl) (by kernel_rfl) (by kernel_rfl) (by kernel_rfl) args W
  have tT := Tryz.typeOfErrno
  have cT := Tryz.comparableErrno
  have heq := Tryz.eqlErrno n m
  have nE := Tryz.noIsErrno
  have uE := Tryz.noUnwrapErrno
  have vE := Tryz.noUnwrapsErrno
  have hd : ((n == m) = true) ∨ ((n == m) = false) := by cases n == m <;> simp
  rcases hd with hd | hd
  all_goals
    rw [hd]
    go_enter Tryz.func34, Tryz.ntmps34
    go_wp2
    refine wp_loop_rounds 1 ?_
    rw [rounds_succ]
    go_wp2
    go_returns
    exact ⟨rfl, rfl⟩
set_option maxRecDepth 100000 in
theorem is_fault (g : Nat) (n m : Int) (w : World) (hg : w.cell? ⟨g, 2, none⟩ = some (.iface 53 (.int .i64 n))) :
    Calls Tryz.prog 34 #[.iface 94 (.pointer (some ⟨g, 0, none⟩)), .iface 53 (.int .i64 m)] w fun e w' => e = .returned (.bool (n == m)) ∧ w' = w := by
  have h8 := fun (args : Array Value) (W : World) => run_callFunc_extern (P := Tryz.prog) (f := 63) (e := ReflectliteType.typeOf) Tryz.func63 (by kernel_rfl) (by kernel_rfl) (by kernel_rfl) (by kernel_rfl) args W
  have h32 := fun (args : Array Value) (W : World) => run_callFunc_extern (P := Tryz.prog) (f := 130) (e := ReflectliteType.method fun t => do Rtype.noPackHeld "Comparable" t; pure (.bool (← typeInfo t).comparable)) Tryz.func130 (by kernel_rfl) (by kernel_rfl) (by kernel_rfl) (by kernel_rfl) args W
  have tT := Tryz.typeOfErrno
  have cT := Tryz.comparableErrno
  have heq := Tryz.eqlErrno n m
  have hne := Tryz.eqlFault (some ⟨g, 0, none⟩) m
  have nE := Tryz.noIsErrno
  have uE := Tryz.noUnwrapErrno
  have vE := Tryz.noUnwrapsErrno
  have nF := Tryz.noIsFault
  have uF := Tryz.hasUnwrapFault
  have hd : ((n == m) = true) ∨ ((n == m) = false) := by cases n == m <;> simp
  rcases hd with hd | hd
  all_goals
    rw [hd]
    go_enter Tryz.func34, Tryz.ntmps34
    go_wp2
    refine wp_loop_rounds 2 ?_
    rw [rounds_succ]
    go_wp2
    rw [rounds_succ]
    go_wp2
    go_returns
    exact ⟨rfl, rfl⟩
end Go.Proofs.YtblkkjfpggcgfaaGreatDoor
namespace Go.Proofs.YtblkkjfpggcgfaaGreatDoor
open Go.ChangeShapes Go.WideShapes Go.ChangeAt Go.RowKit Go.Joins Go.Deep
theorem MeetIs.parts {h : HierD} {s t : Int} {r : Nat} {d : Int} {x : EV} (m : MeetIs h s t r d x) (hx : x = .nil) : ∃ D E : Nat → Option Int, checkErr h = .nil ∧ nodesErr h.node.length s t = .nil ∧
    IsD h.node.length h.upF h.up (h.node.idxOf s.toNat) D ∧ IsD h.node.length h.dnF h.dn (h.node.idxOf t.toNat) E ∧ meetTo D E h.node.length = (r, d) ∧ d ≠ 18446744073709551615 := by
  cases m with
  | form e => exact absurd hx e
  | nodes e k => exact absurd hx k
  | walk D E r d e k hD hE hm hd => exact ⟨D, E, e, k, hD, hE, hm, hd⟩
  | none D E e k hD hE hd => cases hx
end Go.Proofs.YtblkkjfpggcgfaaGreatDoor
/- The reference's look at one link: a plain link; the error of its weight. -/
namespace Go.Proofs.YtblkkjfpggcgfaaGreatDoor
open Go.ChangeShapes Go.WideShapes Go.ChangeAt Go.RowKit Go.Joins Go.Deep
structure LK0 (A : HA) (h : HierD) (l : LinkD) (w : World) (bl be : Nat) (e1 : List Value) (x1 : EV) (wx : World) : Prop where
  l : Cells wx bl 63 (linkCells l)
  x : Cells wx w.heap.size 25 (hierCells A h)
  r : Cells wx (w.heap.size + 1) 51 errZero
  b : Below w.heap.size w wx
  e : Cells wx be 51 e1
  u : ErrV wx (.agg e1.toArray) x1
theorem LK0.below {A : HA} {h : HierD} {l : LinkD} {w : World} {bl be : Nat} {e1 : List Value} {x1 : EV} {wx wy : World} (k : LK0 A h l w bl be e1 x1 wx) (o : Below wx.heap.size wx wy) : LK0 A h l w bl be e1 x1 wy :=
  ⟨k.l.below o k.l.lt, k.x.below o k.x.lt, k.r.below o k.r.lt, k.b.trans (o.mono k.b.size), k.e.below o k.e.lt, k.u.below o⟩
end Go.Proofs.YtblkkjfpggcgfaaGreatDoor
/- The reference's look at a hierarchy: the copies of an error into the result; the loop over the links. -/
namespace Go.Proofs.YtblkkjfpggcgfaaGreatDoor
open Go.ChangeShapes Go.WideShapes Go.ChangeAt Go.RowKit Go.Joins Go.Deep
structure DK (A : HA) (h : HierD) (w wx : World) : Prop where
  x : Cells wx w.heap.size 25 (hierCells A h)
  r : Cells wx (w.heap.size + 1) 51 errZero
  b : Below w.heap.size w wx
theorem DK.below {A : HA} {h : HierD} {w wx wy : World} (k : DK A h w wx) (o : Below wx.heap.size wx wy) : DK A h w wy := ⟨k.x.below o k.x.lt, k.r.below o k.r.lt, k.b.trans (o.mono k.b.size)⟩
end Go.Proofs.YtblkkjfpggcgfaaGreatDoor
/- The reference's look at a hierarchy: the loop over the nodes. -/
namespace Go.Proofs.YtblkkjfpggcgfaaGreatDoor
open Go.ChangeShapes Go.WideShapes Go.ChangeAt Go.RowKit Go.Joins Go.Deep
theorem DK.set {A : HA} {h : HierD} {w wx : World} (k : DK A h w wx) {bs j : Nat} {v : Value} (h1 : w.heap.size ≠ bs) (h2 : w.heap.size + 1 ≠ bs) (h3 : w.heap.size ≤ bs) : DK A h w (wx.setCell ⟨bs, j, none⟩ v) :=
  ⟨k.x.other (a := ⟨bs, j, none⟩) h1 _, k.r.other (a := ⟨bs, j, none⟩) h2 _, k.b.setCell (p := ⟨bs, j, none⟩) h3 _⟩
def TwoErrs (v : Value) (x1 x2 : EV) (W : World) : Prop := ∃ (b : Nat) (c1 c2 : Int) (a1 a2 : Option Addr) (n1 k1 n2 k2 : Nat), v = .slice (some ⟨b, 0, none⟩) 2 2 ∧ Cells W b 51 [.int .i64 c1, .slice a1 n1 k1, .int .i64 c2, .slice a2 n2 k2] ∧ ErrV W (.agg #[.int .i64 c1, .slice a1 n1 k1]) x1 ∧ ErrV W (.agg #[.int .i64 c2, .slice a2 n2 k2]) x2
theorem TwoErrs.below {v : Value} {x1 x2 : EV} {W W' : World} (t : TwoErrs v x1 x2 W) (o : Below W.heap.size W W') : TwoErrs v x1 x2 W' := by
  obtain ⟨b, c1, c2, a1, a2, n1, k1, n2, k2, e, hc, h1, h2⟩ := t
  exact ⟨b, c1, c2, a1, a2, n1, k1, n2, k2, e, hc.below o hc.lt, h1.below o, h2.below o⟩
end Go.Proofs.YtblkkjfpggcgfaaGreatDoor
/- The reference's look at a hierarchy: the whole. -/
namespace Go.Proofs.YtblkkjfpggcgfaaGreatDoor
open Go.ChangeShapes Go.WideShapes Go.ChangeAt Go.RowKit Go.Joins Go.Deep
theorem firstsGo_pos (l : List Nat) : ∀ k, (firstsGo l k).pos := by
  intro k
  induction k with
  | zero => simp [firstsGo, EV.pos]
  | succ k ih =>
    unfold firstsGo
    split
    · split <;> simp [EV.pos]
    · exact ih
theorem firstsErr_pos (l : List Nat) (n : Nat) : (firstsErr l n).pos := by
  unfold firstsErr
  split
  · simp [EV.pos]
  · split
    · split <;> simp [EV.pos]
    · exact firstsGo_pos _ _
structure Reach5 (h : HierD) : Prop where
  n : h.node.length * 4 ≤ 140737488355328
  u : h.upF.length * 4 ≤ 140737488355328
  up : h.up.length * 24 ≤ 140737488355328
  d : h.dnF.length * 4 ≤ 140737488355328
  dn : h.dn.length * 24 ≤ 140737488355328
end Go.Proofs.YtblkkjfpggcgfaaGreatDoor
/- The reference's hierarchy turned about: number, turned, Turn. -/
namespace Go.Proofs.YtblkkjfpggcgfaaGreatDoor
open Go.ChangeShapes Go.WideShapes Go.ChangeAt Go.RowKit Go.Joins Go.Deep
end Go.Proofs.YtblkkjfpggcgfaaGreatDoor
/- The reference's Meet: the end, the loop over the ranks. -/
namespace Go.Proofs.YtblkkjfpggcgfaaGreatDoor
open Go.ChangeShapes Go.WideShapes Go.ChangeAt Go.RowKit Go.Joins Go.Deep
end Go.Proofs.YtblkkjfpggcgfaaGreatDoor
/- The reference's DocMeet. -/
namespace Go.Proofs.YtblkkjfpggcgfaaGreatDoor
open Go.ChangeShapes Go.WideShapes Go.ChangeAt Go.RowKit Go.Joins Go.Deep
theorem linksGo_pos (n ups : Nat) (all : List EndD) : ∀ k, (linksGo n ups all k).pos := by
  intro k
  induction k with
  | zero => simp [linksGo, EV.pos]
  | succ k ih =>
    unfold linksGo
    split
    · split
      · simp [EV.pos]
      · split <;> simp [EV.pos]
    · exact ih
theorem orderGo_pos (l : List Nat) : ∀ k, (orderGo l k).pos := by
  intro k
  induction k with
  | zero => simp [orderGo, EV.pos]
  | succ k ih =>
    unfold orderGo
    split
    · split <;> simp [EV.pos]
    · exact ih
theorem checkErr_pos (h : HierD) : (checkErr h).pos := by
  unfold checkErr
  split
  · simp [EV.pos]
  · split
    · simp [EV.pos]
    · split
      · split
        · split
          · exact linksGo_pos _ _ _ _
          · exact orderGo_pos _ _
        · exact firstsErr_pos _ _
      · exact firstsErr_pos _ _
theorem step_app {P : Program} {ops : Array Oper} {o : Oper} {a : Act} {w : World} {K : Act → World → Prop} {Q : Exit → Act → World → Prop} {E : Prop} (hgd : o.guard = none) (s x : Operand) (t : TypeId)
    (ho : o.op = .call { callee := .builtin .append, args := #[s, x], argTypes := #[t, t] })
    (e : TypeId) (z : Value) (size bytes : Nat) (ht : P.underlying t = some (.slice e)) (hinfo : (P.info? e).map (fun i => (i.zero, i.size, i.bytes)) = some (some z, size, bytes)) (hzs : z.cells.size = size) (hsz : 0 < size)
    (v : Value) (n : Nat) (xs : List Value) (hs : a.eval s = v) (hown : w.ownsRow 0 e size v n xs)
    (ad : Addr) (m c : Nat) (news : List Value) (hx : a.eval x = .slice (some ad) m c) (hl : news.length = m * size) (hnews : ∀ j u, news[j]? = some u → w.cell? (ad.add j) = some u) (h1 : ∀ u ∈ news, u.oneCell' = true)
    (h63 : n + m ≤ maxLen) (hbytes : (n + m) * bytes ≤ 140737488355328)
    (h : ∀ ao cap w', w'.ownsRow 0 e size (.slice ao (n + m) cap) (n + m) (xs ++ news) → Only v.ownBlock.toList w w' → (∀ k, (Value.slice ao (n + m) cap).ownBlock = some k → v.ownBlock = some k ∨ w.heap.size ≤ k) → K (a.put o.dst (.slice ao (n + m) cap)) w') :
    if Region.wanted o (yielded ops a.tmps) = true then Oper.wp P o a w K Q else E := by
  have hw : Region.wanted o (yielded ops a.tmps) = true := by simp [Region.wanted, hgd]
  rw [if_pos hw]
  exact wp_app w s x t ho e z size bytes ht hinfo hzs hsz v n xs hs hown ad m c news hx hl hnews h1 h63 hbytes h
end Go.Proofs.YtblkkjfpggcgfaaGreatDoor
