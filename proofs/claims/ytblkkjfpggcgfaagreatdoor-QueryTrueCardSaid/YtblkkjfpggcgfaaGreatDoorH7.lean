/- The form of a hierarchy, as data: what layer 10 answers. No program here. -/
import Derived.Test.YtblkkjfpggcgfaaGreatDoorH6
namespace Go.Proofs.YtblkkjfpggcgfaaGreatDoor
inductive EV where
  | nil
  | code (n : Int)
  | at (kind i : Int) (n : Int)
  deriving DecidableEq, Repr
def EV.isNil : EV → Bool
  | .nil => true
  | _ => false
def firstsGo (l : List Nat) : Nat → EV
  | 0 => .nil
  | k + 1 => match firstsGo l k with
    | .nil => if l.getD (k + 1) 0 < l.getD k 0 then .at 3 k 14 else .nil
    | e => e
def firstsErr (l : List Nat) (links : Nat) : EV :=
  if l.getD 0 0 ≠ 0 then .code 14
  else match firstsGo l (l.length - 1) with
    | .nil => if l.getD (l.length - 1) 0 ≠ links then .code 14 else .nil
    | e => e
def orderGo (l : List Nat) : Nat → EV
  | 0 => .nil
  | k + 1 => match orderGo l k with
    | .nil => if l.length ≤ l.getD k 0 ∨ l.getD k 0 ∈ l.take k then .at 3 k 20 else .nil
    | e => e
def orderErr (l : List Nat) : EV := orderGo l l.length
structure EndD where
  link : LinkD
  tail : Nat
  head : Nat
  rank : Nat
  deriving DecidableEq, Repr, Inhabited
def LinkD.plain (l : LinkD) : Bool := l.left == 4294967295 && l.right == 4294967295
def endsUp (first : List Nat) (links : List LinkD) (r : Nat) : List EndD := (seg first links r).map fun l => ⟨l, r, l.to, r⟩
def endsDn (first : List Nat) (links : List LinkD) (r : Nat) : List EndD := (seg first links r).map fun l => ⟨l, l.to, r, r⟩
def endsOf (h : HierD) : List EndD := ((List.range h.node.length).flatMap (endsUp h.upF h.up)) ++ ((List.range h.node.length).flatMap (endsDn h.dnF h.dn))
def shapeB (n ups : Nat) (all : List EndD) (i : Nat) : Bool :=
  let x := all.getD i default
  let y := all.getD (i - 1) default
  if n ≤ x.link.to ∨ x.link.to ≤ x.rank then false
  else if 0 < i ∧ i ≠ ups ∧ y.rank = x.rank ∧ x.link.to ≤ y.link.to then false
  else if x.link.plain then true
  else if x.link.left < ups ∨ all.length ≤ x.link.left ∨ ups ≤ x.link.right then false
  else
    let a := all.getD x.link.left default
    let b := all.getD x.link.right default
    decide (a.tail = x.tail ∧ b.head = x.head ∧ a.rank = b.rank)
def weightB (all : List EndD) (i : Nat) : Bool :=
  let l := (all.getD i default).link
  if l.plain then decide (l.wt ≤ 2147483647)
  else
    let a := (all.getD l.left default).link.wt
    let b := (all.getD l.right default).link.wt
    decide (l.wt ≤ 140737488355328 ∧ a ≤ 140737488355328 ∧ b ≤ 140737488355328 ∧ a + b = l.wt)
def linksGo (n ups : Nat) (all : List EndD) : Nat → EV
  | 0 => .nil
  | k + 1 => match linksGo n ups all k with
    | .nil => if shapeB n ups all k = false then .at 4 k 14 else if weightB all k = false then .at 4 k 8 else .nil
    | e => e
def checkErr (h : HierD) : EV :=
  if 65536 < h.node.length ∨ 1048576 < RowKit.wrap64 ((h.up.length : Int) + (h.dn.length : Int)) then .code 9
  else if h.upF.length ≠ h.node.length + 1 ∨ h.dnF.length ≠ h.node.length + 1 then .code 14
  else match firstsErr h.upF h.up.length with
    | .nil => match firstsErr h.dnF h.dn.length with
      | .nil => match orderErr h.node with
        | .nil => linksGo h.node.length h.up.length (endsOf h) (endsOf h).length
        | e => e
      | e => e
    | e => e
theorem firstsGo_nil {l : List Nat} {k : Nat} (h : firstsGo l k = .nil) : ∀ r, r < k → l.getD r 0 ≤ l.getD (r + 1) 0 := by
  induction k with
  | zero => intro r hr; omega
  | succ k ih =>
    intro r hr
    unfold firstsGo at h
    split at h
    · rename_i h0
      rcases Nat.lt_or_ge r k with hk | hk
      · exact ih h0 r hk
      · obtain rfl : r = k := by omega
        split at h
        · cases h
        · omega
    · rename_i e he; exact absurd h he
structure FirstsOk (n : Nat) (l : List Nat) (links : Nat) : Prop where
  len : l.length = n + 1
  zero : l.getD 0 0 = 0
  mono : ∀ r, r < n → l.getD r 0 ≤ l.getD (r + 1) 0
  last : l.getD n 0 = links
theorem firsts_nil {n : Nat} {l : List Nat} {links : Nat} (hl : l.length = n + 1) (h : firstsErr l links = .nil) : FirstsOk n l links := by
  unfold firstsErr at h
  split at h
  · cases h
  · rename_i h0
    split at h
    · rename_i h1
      split at h
      · cases h
      · rename_i h2
        rw [hl] at h1 h2
        exact ⟨hl, by simpa using h0, firstsGo_nil h1, by simpa using h2⟩
    · rename_i e he; exact absurd h he
theorem FirstsOk.le {n : Nat} {l : List Nat} {links : Nat} (h : FirstsOk n l links) : ∀ r, r ≤ n → l.getD r 0 ≤ links := by
  intro r hr
  have : ∀ k, r + k ≤ n → l.getD r 0 ≤ l.getD (r + k) 0 := by
    intro k
    induction k with
    | zero => intro _; exact Nat.le_refl _
    | succ k ih =>
      intro hk
      have := ih (by omega)
      have := h.mono (r + k) (by omega)
      rw [Nat.add_assoc] at this
      omega
  have := this (n - r) (by omega)
  rw [show r + (n - r) = n by omega, h.last] at this
  exact this
end Go.Proofs.YtblkkjfpggcgfaaGreatDoor
/- The contracts of fault.At and of the small functions of hier. -/
namespace Go.Proofs.YtblkkjfpggcgfaaGreatDoor
open Go.ChangeShapes Go.WideShapes Go.ChangeAt Go.RowKit Go.Joins Go.Deep
def ErrIs (w : World) (v : Value) : EV → Prop
  | .nil => v = .nilIface
  | .code n => v = errV n
  | .at k i n => ∃ b, v = .iface 94 (.pointer (some ⟨b, 0, none⟩)) ∧ Cells w b 98 [.int .i64 k, .int .i64 i, errV n]
theorem ErrIs.below {w w' : World} {v : Value} {x : EV} (h : ErrIs w v x) (o : Below w.heap.size w w') : ErrIs w' v x := by
  cases x with
  | nil => exact h
  | code n => exact h
  | «at» k i n => obtain ⟨b, e, hc⟩ := h; exact ⟨b, e, hc.below o hc.lt⟩
theorem ErrIs.drew {w : World} {v : Value} {x : EV} (h : ErrIs w v x) : ErrIs w.drew v x := h.below (Below.refl _ _).drew
theorem ErrIs.alloc {w : World} {v : Value} {x : EV} (h : ErrIs w v x) (o : Obj) : ErrIs (w.alloc o) v x := h.below ((Below.refl _ _).alloc (Nat.le_refl _) o)
def ErrPost (x : EV) (w : World) (e : Ending) (w' : World) : Prop := ∃ v, e = .returned v ∧ ErrIs w' v x ∧ Below w.heap.size w w'
set_option maxRecDepth 100000 in
theorem at_any (k i n : Int) (w : World) : Calls Tryz.prog 31 #[.int .i64 k, .int .i64 i, errV n] w (ErrPost (.at k i n) w) := by
  unfold errV
  go_enter Tryz.func31, Tryz.ntmps31
  go_wp2
  go_returns
  exact ⟨_, rfl, ⟨w.heap.size, rfl, Cells.new w 98 [.int .i64 k, .int .i64 i, errV n]⟩, by go_grown⟩
def linkVal (l : LinkD) : Value := .agg #[.int .u32 l.to, .int .u64 l.wt, .int .u32 l.left, .int .u32 l.right]
set_option maxRecDepth 100000 in
theorem plain_any (l : LinkD) (w : World) : Calls Tryz.prog 17 #[linkVal l] w fun e w' => e = .returned (.bool l.plain) ∧ Below w.heap.size w w' := by
  unfold linkVal LinkD.plain
  by_cases h1 : l.left = 4294967295
  · have d1 : ((l.left : Int) == 4294967295) = true := by simp; omega
    have e : (l.left == 4294967295 && l.right == 4294967295) = ((l.right : Int) == 4294967295) := by rw [h1, Bool.eq_iff_iff]; simp; omega
    rw [e]
    clear e h1
    go_enter Tryz.func17, Tryz.ntmps17
    go_wp2
    go_returns
    exact ⟨rfl, by go_grown⟩
  · have d1 : ((l.left : Int) == 4294967295) = false := by simp; omega
    have e : (l.left == 4294967295 && l.right == 4294967295) = false := by simp [h1]
    rw [e]
    clear e h1
    go_enter Tryz.func17, Tryz.ntmps17
    go_wp2
    go_returns
    exact ⟨rfl, by go_grown⟩
theorem see_one {α : Type} {w : World} {ao : Option Addr} {cap : Nat} {f : α → Value} {l : List α} (see : See w ao cap (fun x => [f x]) 1 l) (h0 : 0 < l.length) :
    ∃ b o, ao = some ⟨b, o, none⟩ ∧ b < w.heap.size ∧ ∀ (i : Nat) (x : α), l[i]? = some x → w.cell? ⟨b, o + i, none⟩ = some (f x) := by
  obtain ⟨b, o, e, cc⟩ := see.cell 0 l[0] (List.getElem?_eq_getElem h0)
  refine ⟨b, o, e, block_lt (cc 0 _ rfl), fun i x hx => ?_⟩
  obtain ⟨b', o', e', cc'⟩ := see.cell i x hx
  rw [e] at e'
  simp only [Option.some.injEq, Addr.mk.injEq, and_true] at e'
  obtain ⟨rfl, rfl⟩ := e'
  have := cc' 0 _ rfl
  rwa [Nat.mul_one, Nat.add_zero] at this
end Go.Proofs.YtblkkjfpggcgfaaGreatDoor
/- The contracts of hier's firsts and order. -/
namespace Go.Proofs.YtblkkjfpggcgfaaGreatDoor
open Go.ChangeShapes Go.WideShapes Go.ChangeAt Go.RowKit Go.Joins Go.Deep
theorem firstsGo_stop {l : List Nat} {k m : Nat} (hk : k < m) (h0 : firstsGo l k = .nil) (h : l.getD (k + 1) 0 < l.getD k 0) : firstsGo l m = .at 3 k 14 := by
  obtain ⟨j, rfl⟩ : ∃ j, m = k + 1 + j := ⟨m - (k + 1), by omega⟩
  clear hk
  induction j with
  | zero => unfold firstsGo; rw [h0]; simp only; rw [if_pos h]
  | succ j ih => rw [← Nat.add_assoc]; unfold firstsGo; rw [ih]
set_option maxRecDepth 100000 in
theorem firsts_any (l : List Nat) (ao : Option Addr) (cap links : Nat) (w : World) (see : See w ao cap u32Cells 1 l) (hb : ∀ x ∈ l, x < 4294967296) (h0 : 0 < l.length) (h1 : l.length ≤ 65537) :
    Calls Tryz.prog 35 #[.slice ao l.length cap, .int .i64 links] w (ErrPost (firstsErr l links) w) := by
  obtain ⟨x0, hx0⟩ : ∃ x0, l[0]? = some x0 := ⟨_, List.getElem?_eq_getElem h0⟩
  obtain ⟨b, o, rfl, lb, hcell⟩ := see_one (f := fun (n : Nat) => Value.int .u32 n) see h0
  have c0 := hcell 0 x0 hx0
  rw [Nat.add_zero] at c0
  have HC := Lib.hid hcell
  have HB := Lib.hid hb
  have hg0 : l.getD 0 0 = x0 := by rw [List.getD_eq_getElem?_getD, hx0]; rfl
  have HX0 := Lib.hid hx0
  have HG0 := Lib.hid hg0
  clear see hcell hb hx0 hg0
  by_cases hz : x0 = 0
  · have dz : decide ((x0 : Int) = 0) = true := by simpa using hz
    subst hz
    have hf : firstsErr l links = (match firstsGo l (l.length - 1) with | .nil => if l.getD (l.length - 1) 0 ≠ links then .code 14 else .nil | e => e) := by
      unfold firstsErr
      rw [if_neg (by rw [HG0.out]; simp)]
      all_goals (cases firstsGo l (l.length - 1) <;> rfl)
    have HF := Lib.hid hf
    clear hf
    go_enter Tryz.func35, Tryz.ntmps35
    go_wp2_with fail
    go_loopg [14] (l.length - 1) (fun g vi wr => ∃ k : Nat, vi = .int .i64 k ∧ k ≤ l.length - 1 ∧ g = l.length - 1 - k ∧ firstsGo l k = .nil ∧ Below w.heap.size w wr)
    case atStart => exact ⟨0, rfl, Nat.zero_le _, rfl, rfl, Below.refl _ _⟩
    case round =>
      obtain ⟨k, rfl, hk, hg, hn, hbl⟩ := hrel
      have HN := Lib.hid hn
      have HBL := Lib.hid hbl
      have HG := Lib.hid hg
      clear hn hbl hg
      by_cases hlt : k < l.length - 1
      · obtain ⟨x, hx⟩ : ∃ x, l[k]? = some x := ⟨_, List.getElem?_eq_getElem (by omega)⟩
        obtain ⟨y, hy⟩ : ∃ y, l[k + 1]? = some y := ⟨_, List.getElem?_eq_getElem (by omega)⟩
        have cx : wr.cell? ⟨b, o + k, none⟩ = some (.int .u32 x) := ck HBL.out (HC.out k x hx)
        have cy : wr.cell? ⟨b, o + (k + 1), none⟩ = some (.int .u32 y) := ck HBL.out (HC.out (k + 1) y hy)
        have hgx : l.getD k 0 = x := by rw [List.getD_eq_getElem?_getD, hx]; rfl
        have hgy : l.getD (k + 1) 0 = y := by rw [List.getD_eq_getElem?_getD, hy]; rfl
        have HGX := Lib.hid hgx
        have HGY := Lib.hid hgy
        clear hgx hgy hx hy
        by_cases hd : y < x
        · have hd2 : decide (y < x) = true := by simpa using hd
          go_wp2_with fail
          go_quiet (fail)
          go_wp2_with fail
          refine (at_any 3 k 14 _).mono ?_
          rintro e w1 ⟨v, rfl, hv, hb1⟩
          have hfe : firstsErr l links = .at 3 k 14 := by
            rw [HF.out, firstsGo_stop hlt HN.out (by rw [HGX.out, HGY.out]; exact hd)]
          have HFE := Lib.hid hfe
          have HV := Lib.hid hv
          have HB1 := Lib.hid hb1
          clear hfe hv hb1
          go_wp2
          go_returns
          rw [HFE.out]
          exact ⟨v, rfl, HV.out, HBL.out.trans ((below_drewN (Below.refl _ _) _).trans HB1.out |>.mono HBL.out.size)⟩
        · have hd2 : decide (y < x) = false := by simpa using hd
          go_wp2_with fail
          go_quiet (fail)
          go_wp2_with fail
          go_roundg (l.length - 1 - (k + 1))
          case measure => rw [HG.out]; omega
          case rel =>
            refine ⟨k + 1, by go_num, by omega, rfl, ?_, below_drewN HBL.out _⟩
            unfold firstsGo
            rw [HN.out]
            simp only
            rw [if_neg (by rw [HGX.out, HGY.out]; exact hd)]
      · obtain rfl : k = l.length - 1 := by omega
        obtain ⟨x, hx⟩ : ∃ x, l[l.length - 1]? = some x := ⟨_, List.getElem?_eq_getElem (by omega)⟩
        have cx : wr.cell? ⟨b, o + (l.length - 1), none⟩ = some (.int .u32 x) := ck HBL.out (HC.out _ x hx)
        have hgx : l.getD (l.length - 1) 0 = x := by rw [List.getD_eq_getElem?_getD, hx]; rfl
        have hx32 : x < 4294967296 := HB.out x (List.mem_of_getElem? hx)
        have HGX := Lib.hid hgx
        clear hgx hx
        by_cases hd : x = links
        · have hd2 : decide (x = links) = true := by simpa using hd
          have hfe : firstsErr l links = .nil := by rw [HF.out, HN.out]; simp only; rw [if_neg (by rw [HGX.out]; simpa using hd)]
          have HFE := Lib.hid hfe
          clear hfe
          go_wp2
          go_returns
          rw [HFE.out]
          exact ⟨_, rfl, rfl, HBL.out⟩
        · have hd2 : decide (x = links) = false := by simpa using hd
          have hfe : firstsErr l links = .code 14 := by rw [HF.out, HN.out]; simp only; rw [if_pos (by rw [HGX.out]; exact hd)]
          have HFE := Lib.hid hfe
          clear hfe
          go_wp2
          go_returns
          rw [HFE.out]
          exact ⟨_, rfl, rfl, HBL.out⟩
  · have dz : decide (x0 = 0) = false := by simpa using hz
    have hf : firstsErr l links = .code 14 := by unfold firstsErr; rw [if_pos (by rw [HG0.out]; exact hz)]
    rw [hf]
    clear hf
    go_enter Tryz.func35, Tryz.ntmps35
    go_wp2
    go_returns
    exact ⟨_, rfl, rfl, by go_grown⟩
end Go.Proofs.YtblkkjfpggcgfaaGreatDoor
/- The contract of hier's order. -/
namespace Go.Proofs.YtblkkjfpggcgfaaGreatDoor
open Go.ChangeShapes Go.WideShapes Go.ChangeAt Go.RowKit Go.Joins Go.Deep
theorem orderGo_stop {l : List Nat} {k m : Nat} (hk : k < m) (h0 : orderGo l k = .nil) (h : l.length ≤ l.getD k 0 ∨ l.getD k 0 ∈ l.take k) : orderGo l m = .at 3 k 20 := by
  obtain ⟨j, rfl⟩ : ∃ j, m = k + 1 + j := ⟨m - (k + 1), by omega⟩
  clear hk
  induction j with
  | zero => unfold orderGo; rw [h0]; simp only; rw [if_pos h]
  | succ j ih => rw [← Nat.add_assoc]; unfold orderGo; rw [ih]
def marksOf (s : List Nat) (n : Nat) : List Value := (List.range n).map fun v => .int .i64 (if v ∈ s then 1 else 0)
theorem marksOf_get (s : List Nat) (n v : Nat) (h : v < n) : (marksOf s n)[v]? = some (.int .i64 (if v ∈ s then 1 else 0)) := by
  simp [marksOf, h]
theorem marksOf_set (s : List Nat) (n v : Nat) (h : v < n) : (marksOf s n).set v (.int .i64 1) = marksOf (s ++ [v]) n := by
  apply List.ext_getElem?
  intro j
  rw [List.getElem?_set]
  simp only [marksOf, List.getElem?_map, List.length_map, List.length_range]
  by_cases hj : v = j
  · subst hj
    rw [if_pos rfl, if_pos h]
    simp [h]
  · rw [if_neg hj]
    rcases Nat.lt_or_ge j n with h1 | h1
    · simp only [List.getElem?_range h1, Option.map_some, List.mem_append, List.mem_singleton]
      have : ¬ j = v := fun e => hj e.symm
      simp [this]
    · rw [List.getElem?_eq_none (by simp; omega)]; rfl
theorem marks_made (n : Nat) : madeCells (Value.int .i64 0).cells (n * 1) = (marksOf [] n).toArray := by
  have e := madeCells_eq [Value.int .i64 0] n (by simp)
  have h : ((List.replicate n ()).flatMap fun _ => [Value.int .i64 0]) = marksOf [] n := by
    apply List.ext_getElem?
    intro j
    have hg := flat_get (f := fun (_ : Unit) => [Value.int .i64 0]) (sz := 1) (fun _ => rfl) (List.replicate n ()) j 0 (by omega)
    rw [Nat.mul_one, Nat.add_zero] at hg
    rw [hg]
    rcases Nat.lt_or_ge j n with h1 | h1
    · rw [marksOf_get [] n j h1]; simp [h1]
    · rw [List.getElem?_eq_none (l := List.replicate n ()) (by simpa using h1), List.getElem?_eq_none (l := marksOf [] n) (by simpa [marksOf] using h1)]; rfl
  rw [h] at e
  exact e
set_option maxRecDepth 100000 in
theorem order_any (l : List Nat) (ao : Option Addr) (cap : Nat) (w : World) (see : See w ao cap u32Cells 1 l) (hb : ∀ x ∈ l, x < 4294967296) (h1 : l.length ≤ 65536) :
    Calls Tryz.prog 36 #[.slice ao l.length cap] w (ErrPost (orderErr l) w) := by
  have hmk := run_make_n (P := Tryz.prog) 38 3 (.int .i64 0) 1 8 Tryz.underlying38 Tryz.infoInt .i64 .i64 l.length (by omega) (by omega)
  rw [marks_made] at hmk
  have HB := Lib.hid hb
  have SEE := Lib.hid see
  clear see hb
  go_enter Tryz.func36, Tryz.ntmps36
  go_wp2_with fail
  go_loopg [11] l.length (fun g vi wr => ∃ k : Nat, vi = .int .i64 k ∧ k ≤ l.length ∧ g = l.length - k ∧ orderGo l k = .nil ∧ (∀ x ∈ l.take k, x < l.length) ∧ Cells wr w.heap.size 3 (marksOf (l.take k) l.length) ∧ Below w.heap.size w wr)
  case atStart => exact ⟨0, rfl, Nat.zero_le _, rfl, rfl, by simp, Cells.new w 3 (marksOf [] l.length), (Below.refl _ _).alloc (Nat.le_refl _) _⟩
  case round =>
    obtain ⟨k, rfl, hk, hg, hn, hlt, hcs, hbl⟩ := hrel
    have HN := Lib.hid hn
    have HBL := Lib.hid hbl
    have HG := Lib.hid hg
    have HCS := Lib.hid hcs
    have HLT := Lib.hid hlt
    have hsz := hcs.lt
    clear hn hbl hg hcs hlt
    by_cases hkl : k < l.length
    · obtain ⟨x, hx⟩ : ∃ x, l[k]? = some x := ⟨_, List.getElem?_eq_getElem (by omega)⟩
      obtain ⟨b, o, ea, cc⟩ := SEE.out.cell k x hx
      have c0 := ck HBL.out (cc 0 _ rfl)
      rw [Nat.mul_one, Nat.add_zero] at c0
      have lb := block_lt c0
      have hx32 : x < 4294967296 := HB.out x (List.mem_of_getElem? hx)
      have hgx : l.getD k 0 = x := by rw [List.getD_eq_getElem?_getD, hx]; rfl
      have htk : l.take (k + 1) = l.take k ++ [x] := by rw [List.take_add_one, hx]; rfl
      have EA := Lib.hid ea
      have HGX := Lib.hid hgx
      have HTK := Lib.hid htk
      clear hgx hx cc ea htk
      rw [EA.out]
      by_cases hd : l.length ≤ x
      · have hd2 : decide (l.length ≤ x) = true := by simpa using hd
        go_wp2_with fail
        refine (at_any 3 k 20 _).mono ?_
        rintro e w1 ⟨v, rfl, hv, hb1⟩
        have hfe : orderErr l = .at 3 k 20 := orderGo_stop hkl HN.out (.inl (by rw [HGX.out]; exact hd))
        have HFE := Lib.hid hfe
        have HV := Lib.hid hv
        have HB1 := Lib.hid hb1
        clear hfe hv hb1
        go_wp2
        go_returns
        rw [HFE.out]
        exact ⟨v, rfl, HV.out, HBL.out.trans (HB1.out.mono HBL.out.size)⟩
      · have hd2 : decide (l.length ≤ x) = false := by simpa using hd
        have hxl : x < l.length := by omega
        have hm := HCS.out.cell (marksOf_get (l.take k) l.length x hxl)
        have hf := HCS.out.frozen x
        have HM2 := Lib.hid (HCS.out.set x (.int .i64 1))
        by_cases hin : x ∈ l.take k
        · rw [if_pos hin] at hm
          go_wp2_with fail
          refine (at_any 3 k 20 _).mono ?_
          rintro e w1 ⟨v, rfl, hv, hb1⟩
          have hfe : orderErr l = .at 3 k 20 := orderGo_stop hkl HN.out (.inr (by rw [HGX.out]; exact hin))
          have HFE := Lib.hid hfe
          have HV := Lib.hid hv
          have HB1 := Lib.hid hb1
          clear hfe hv hb1
          go_wp2
          go_returns
          rw [HFE.out]
          exact ⟨v, rfl, HV.out, HBL.out.trans (HB1.out.mono HBL.out.size)⟩
        · rw [if_neg hin] at hm
          go_wp2_with fail
          rw [← EA.out]
          go_roundg (l.length - (k + 1))
          case measure => rw [HG.out]; omega
          case rel =>
            refine ⟨k + 1, by go_num, by omega, rfl, ?_, ?_, ?_, HBL.out.setCell (p := ⟨w.heap.size, x, none⟩) (Nat.le_refl _) _⟩
            · unfold orderGo
              rw [HN.out]
              simp only
              rw [if_neg (by rw [HGX.out]; simp [hd, hin])]
            · intro y hy
              rw [HTK.out, List.mem_append, List.mem_singleton] at hy
              rcases hy with hy | rfl
              · exact HLT.out y hy
              · exact hxl
            · rw [HTK.out, ← marksOf_set _ _ _ hxl]
              exact HM2.out
    · obtain rfl : k = l.length := by omega
      go_wp2
      go_returns
      refine ⟨_, rfl, ?_, HBL.out⟩
      unfold orderErr
      rw [HN.out]
      rfl
def endCells (x : EndD) : List Value := [.int .u32 x.link.to, .int .u64 x.link.wt, .int .u32 x.link.left, .int .u32 x.link.right, .int .i64 x.tail, .int .i64 x.head, .int .i64 x.rank]
theorem endCells_len (x : EndD) : (endCells x).length = 7 := rfl
def EndD.ok (x : EndD) : Prop := x.link.ok ∧ x.tail < 4294967296 ∧ x.head < 4294967296 ∧ x.rank < 4294967296
theorem see_base {α : Type} {w : World} {ao : Option Addr} {cap sz : Nat} {f : α → List Value} {l : List α} (see : See w ao cap f sz l) (h0 : 0 < l.length) (hf : ∀ x, (f x).length = sz) (hs : 0 < sz) :
    ∃ b o, ao = some ⟨b, o, none⟩ ∧ b < w.heap.size ∧ ∀ (i : Nat) (x : α), l[i]? = some x → ∀ (j : Nat) (u : Value), (f x)[j]? = some u → w.cell? ⟨b, o + i * sz + j, none⟩ = some u := by
  obtain ⟨b, o, e, cc⟩ := see.cell 0 l[0] (List.getElem?_eq_getElem h0)
  have hj : 0 < (f l[0]).length := by rw [hf]; exact hs
  refine ⟨b, o, e, block_lt (cc 0 _ (List.getElem?_eq_getElem hj)), fun i x hx => ?_⟩
  obtain ⟨b', o', e', cc'⟩ := see.cell i x hx
  rw [e] at e'
  simp only [Option.some.injEq, Addr.mk.injEq, and_true] at e'
  obtain ⟨rfl, rfl⟩ := e'
  exact cc'
def BoolPost (b : Bool) (w : World) (e : Ending) (w' : World) : Prop := e = .returned (.bool b) ∧ Below w.heap.size w w'
set_option maxRecDepth 100000 in
theorem weight_any (all : List EndD) (ao : Option Addr) (cap i : Nat) (w : World) (see : See w ao cap endCells 7 all) (ok : ∀ x ∈ all, x.ok) (h1 : all.length ≤ 1048576) (hi : i < all.length)
    (hsh : (all.getD i default).link.plain = false → (all.getD i default).link.left < all.length ∧ (all.getD i default).link.right < all.length) :
    Calls Tryz.prog 39 #[.slice ao all.length cap, .int .i64 i] w (BoolPost (weightB all i) w) := by
  obtain ⟨b, o, rfl, lb, hcell⟩ := see_base see (by omega) endCells_len (by omega)
  obtain ⟨x, hx⟩ : ∃ x, all[i]? = some x := ⟨_, List.getElem?_eq_getElem hi⟩
  have hgx : all.getD i default = x := by rw [List.getD_eq_getElem?_getD, hx]; rfl
  have c0 := hcell i x hx 0 _ rfl
  have c1 := hcell i x hx 1 _ rfl
  have c2 := hcell i x hx 2 _ rfl
  have c3 := hcell i x hx 3 _ rfl
  rw [Nat.add_zero] at c0
  rw [hgx] at hsh
  have hW : weightB all i = if x.link.plain then decide (x.link.wt ≤ 2147483647) else decide (x.link.wt ≤ 140737488355328 ∧ (all.getD x.link.left default).link.wt ≤ 140737488355328 ∧ (all.getD x.link.right default).link.wt ≤ 140737488355328 ∧ (all.getD x.link.left default).link.wt + (all.getD x.link.right default).link.wt = x.link.wt) := by
    unfold weightB; simp only [hgx]
  have HC := Lib.hid hcell
  have OK := Lib.hid ok
  have HSH := Lib.hid hsh
  have hxo := ok x (List.mem_of_getElem? hx)
  have bl := hxo.1.2.2.1
  have br := hxo.1.2.2.2
  have HX := Lib.hid hxo
  clear see ok hcell hx hgx hsh hxo
  cases hp : x.link.plain with
  | true =>
    rw [hp, if_pos rfl] at hW
    have HW := Lib.hid hW
    have HP := Lib.hid hp
    clear hW hp
    go_enter Tryz.func39, Tryz.ntmps39
    go_wp2_with fail
    have m0 := (Cells.new w 63 (linkCells x.link))
    refine (plain_any x.link _).mono ?_
    rintro e w1 ⟨rfl, hb1⟩
    have m1 : w1.cell? ⟨w.heap.size, 1, none⟩ = some (.int .u64 x.link.wt) := (m0.below hb1 (by simp)).cell rfl
    have hB : Below w.heap.size w w1 := ((Below.refl w.heap.size w).alloc (Nat.le_refl _) _).trans (hb1.mono (by simp))
    have HB := Lib.hid hB
    rw [HP.out]
    clear m0 hb1 hB
    go_wp2
    go_returns
    refine ⟨?_, HB.out⟩
    rw [HW.out]
    show Ending.returned (.bool (decide ((x.link.wt : Int) ≤ 2147483647))) = _
    rw [show decide ((x.link.wt : Int) ≤ 2147483647) = decide (x.link.wt ≤ 2147483647) from by rw [decide_eq_decide]; omega]
  | false =>
    rw [hp, if_neg (by simp)] at hW
    obtain ⟨hl, hr⟩ := HSH.out hp
    obtain ⟨y, hy⟩ : ∃ y, all[x.link.left]? = some y := ⟨_, List.getElem?_eq_getElem hl⟩
    obtain ⟨z, hz⟩ : ∃ z, all[x.link.right]? = some z := ⟨_, List.getElem?_eq_getElem hr⟩
    have hgy : all.getD x.link.left default = y := by rw [List.getD_eq_getElem?_getD, hy]; rfl
    have hgz : all.getD x.link.right default = z := by rw [List.getD_eq_getElem?_getD, hz]; rfl
    rw [hgy, hgz] at hW
    have cy := HC.out _ y hy 1 _ rfl
    have cz := HC.out _ z hz 1 _ rfl
    have HW := Lib.hid hW
    have HP := Lib.hid hp
    clear hW hp hgy hgz hy hz
    go_enter Tryz.func39, Tryz.ntmps39
    go_wp2_with fail
    have m0 := (Cells.new w 63 (linkCells x.link))
    refine (plain_any x.link _).mono ?_
    rintro e w1 ⟨rfl, hb1⟩
    have m1 : w1.cell? ⟨w.heap.size, 1, none⟩ = some (.int .u64 x.link.wt) := (m0.below hb1 (by simp)).cell rfl
    have m2 : w1.cell? ⟨w.heap.size, 2, none⟩ = some (.int .u32 x.link.left) := (m0.below hb1 (by simp)).cell rfl
    have m3 : w1.cell? ⟨w.heap.size, 3, none⟩ = some (.int .u32 x.link.right) := (m0.below hb1 (by simp)).cell rfl
    have hB : Below w.heap.size w w1 := ((Below.refl w.heap.size w).alloc (Nat.le_refl _) _).trans (hb1.mono (by simp))
    have ky : w1.cell? ⟨b, o + x.link.left * 7 + 1, none⟩ = some (.int .u64 y.link.wt) := ck hB cy
    have kz : w1.cell? ⟨b, o + x.link.right * 7 + 1, none⟩ = some (.int .u64 z.link.wt) := ck hB cz
    have HB := Lib.hid hB
    rw [HP.out]
    clear m0 hb1 hB cy cz c0 c1 c2 c3
    by_cases d1 : x.link.wt ≤ 140737488355328
    · have e1 : decide (x.link.wt ≤ 140737488355328) = true := by simpa using d1
      by_cases d2 : y.link.wt ≤ 140737488355328
      · have e2 : decide (y.link.wt ≤ 140737488355328) = true := by simpa using d2
        by_cases d3 : z.link.wt ≤ 140737488355328
        · have e3 : decide (z.link.wt ≤ 140737488355328) = true := by simpa using d3
          go_wp2_with fail
          go_quiet (fail)
          go_wp2
          go_returns
          refine ⟨?_, below_drewN HB.out _⟩
          rw [HW.out]
          show Ending.returned (.bool ((y.link.wt : Int) + (z.link.wt : Int) == (x.link.wt : Int))) = _
          rw [show ((y.link.wt : Int) + (z.link.wt : Int) == (x.link.wt : Int)) = decide (x.link.wt ≤ 140737488355328 ∧ y.link.wt ≤ 140737488355328 ∧ z.link.wt ≤ 140737488355328 ∧ y.link.wt + z.link.wt = x.link.wt) from by
            rw [Bool.eq_iff_iff]; simp; omega]
        · have e3 : decide (z.link.wt ≤ 140737488355328) = false := by simpa using d3
          go_wp2_with fail
          go_quiet (fail)
          go_wp2
          go_returns
          refine ⟨?_, below_drewN HB.out _⟩
          rw [HW.out, decide_eq_false (fun h => d3 h.2.2.1)]
          rfl
      · have e2 : decide (y.link.wt ≤ 140737488355328) = false := by simpa using d2
        go_wp2_with fail
        go_quiet (fail)
        go_wp2
        go_returns
        refine ⟨?_, below_drewN HB.out _⟩
        rw [HW.out, decide_eq_false (fun h => d2 h.2.1)]
        rfl
    · have e1 : decide (x.link.wt ≤ 140737488355328) = false := by simpa using d1
      go_wp2_with fail
      go_quiet (fail)
      go_wp2
      go_returns
      refine ⟨?_, below_drewN HB.out _⟩
      rw [HW.out, decide_eq_false (fun h => d1 h.1)]
      rfl
end Go.Proofs.YtblkkjfpggcgfaaGreatDoor
