/- Contracts of package stamp, as package climb uses it: New, Set, Get, All. -/
import Derived.Test.YtjbphoophgbmiaaSee
namespace Go.Proofs.Ytjbphoophgbmiaa
open Go.ChangeShapes Go.WideShapes Go.ChangeAt Go.RowKit Go.Joins Go.Deep

def stampCells : Option Int → List Value
  | some v => [.int .u64 v, .int .u32 1]
  | none => [.int .u64 0, .int .u32 0]
theorem stampCells_len (x : Option Int) : (stampCells x).length = 2 := by cases x <;> rfl
/-- The array at the block sb, of the first age: what its places hold. -/
structure SRep (w : World) (sb cb : Nat) (ds : List (Option Int)) : Prop where
  hd : ∃ c : Nat, c ≤ ds.countP Option.isSome ∧ Cells w sb 166 [.slice (some ⟨cb, 0, none⟩) ds.length ds.length, .int .u32 1, .int .i64 c]
  cs : Cells w cb 168 (ds.flatMap stampCells)
  n : ds.length ≤ 65536
  ne : sb ≠ cb
namespace SRep
variable {w w' : World} {sb cb : Nat} {ds : List (Option Int)}
theorem kept {bs : List Nat} (h : SRep w sb cb ds) (o : Only bs w w') (h1 : sb ∉ bs) (h2 : cb ∉ bs) : SRep w' sb cb ds := by
  obtain ⟨⟨c, hc, h3⟩, h4, h5, h6⟩ := h
  exact ⟨⟨c, hc, h3.kept o h1⟩, h4.kept o h2, h5, h6⟩
theorem below (h : SRep w sb cb ds) (o : Below w.heap.size w w') : SRep w' sb cb ds := h.kept (bs := []) (Only.of_below o) (by simp) (by simp)
theorem alloc (h : SRep w sb cb ds) (o : Obj) : SRep (w.alloc o) sb cb ds := h.below ((Below.refl _ _).alloc (Nat.le_refl _) o)
theorem drew (h : SRep w sb cb ds) : SRep w.drew sb cb ds := h.below (Below.refl _ _).drew
theorem lt1 (h : SRep w sb cb ds) : sb < w.heap.size := by obtain ⟨⟨c, hc, h3⟩, -⟩ := h; exact h3.lt
theorem lt2 (h : SRep w sb cb ds) : cb < w.heap.size := h.cs.lt
theorem cell (h : SRep w sb cb ds) {i : Nat} {x : Option Int} (hx : ds[i]? = some x) : w.cell? ⟨cb, i * 2, none⟩ = (stampCells x)[0]? ∧ w.cell? ⟨cb, i * 2 + 1, none⟩ = (stampCells x)[1]? := by
  have e0 := flat_get stampCells_len ds i 0 (by omega)
  have e1 := flat_get stampCells_len ds i 1 (by omega)
  rw [Nat.add_zero, hx] at e0
  rw [hx] at e1
  cases x with
  | none => exact ⟨h.cs.cell e0, h.cs.cell e1⟩
  | some v => exact ⟨h.cs.cell e0, h.cs.cell e1⟩
end SRep
theorem countP_set_le (ds : List (Option Int)) (i : Nat) (v : Int) (hi : i < ds.length) : (ds.set i (some v)).countP Option.isSome = if (ds[i]'hi).isSome then ds.countP Option.isSome else ds.countP Option.isSome + 1 := by
  induction ds generalizing i with
  | nil => simp at hi
  | cons a l ih =>
    cases i with
    | zero => cases a <;> simp
    | succ i =>
      have hi' : i < l.length := by simpa using hi
      have := ih i hi'
      simp only [List.set_cons_succ, List.countP_cons, List.getElem_cons_succ, this]
      split <;> omega
theorem stamp_put {w : World} {sb cb c i : Nat} {ds : List (Option Int)} {v : Int} (h : SRep w sb cb ds) (hi : i < ds.length) (hc : c ≤ (ds.set i (some v)).countP Option.isSome) (w1 : World)
    (h1 : Cells w1 sb 166 [.slice (some ⟨cb, 0, none⟩) ds.length ds.length, .int .u32 1, .int .i64 c]) (h2 : Cells w1 cb 168 (ds.flatMap stampCells)) :
    SRep ((w1.setCell ⟨cb, i * 2, none⟩ (.int .u64 v)).setCell ⟨cb, i * 2 + 1, none⟩ (.int .u32 1)) sb cb (ds.set i (some v)) := by
  refine ⟨⟨c, hc, ?_⟩, ?_, by simpa using h.n, h.ne⟩
  · have := (h1.other (a := ⟨cb, i * 2, none⟩) h.ne (.int .u64 v)).other (a := ⟨cb, i * 2 + 1, none⟩) h.ne (.int .u32 1)
    simpa using this
  · have := (h2.set (i * 2) (.int .u64 v)).set (i * 2 + 1) (.int .u32 1)
    have hx : ds[i]? = some ds[i] := List.getElem?_eq_getElem hi
    have e : ((ds.flatMap stampCells).set (i * 2) (.int .u64 v)).set (i * 2 + 1) (.int .u32 1) = (ds.set i (some v)).flatMap stampCells := by
      have hl := flat_length stampCells_len ds
      apply List.ext_getElem?
      intro j
      have hdm : j / 2 * 2 + j % 2 = j := Nat.div_add_mod' j 2
      have hm : j % 2 < 2 := Nat.mod_lt _ (by omega)
      have r1 := flat_get stampCells_len (ds.set i (some v)) (j / 2) (j % 2) hm
      have r2 := flat_get stampCells_len ds (j / 2) (j % 2) hm
      rw [hdm] at r1 r2
      rw [r1]
      simp only [List.getElem?_set, List.length_set]
      by_cases c1 : i * 2 + 1 = j
      · have a1 : j / 2 = i := by omega
        have a2 : j % 2 = 1 := by omega
        rw [if_pos c1, if_pos (by omega), a1, a2, if_pos rfl, if_pos hi]
        rfl
      · rw [if_neg c1]
        by_cases c2 : i * 2 = j
        · have a1 : j / 2 = i := by omega
          have a2 : j % 2 = 0 := by omega
          rw [if_pos c2, if_pos (by omega), a1, a2, if_pos rfl, if_pos hi]
          rfl
        · have a1 : ¬ i = j / 2 := by omega
          rw [if_neg c2, if_neg a1, r2]
    rw [e] at this
    exact this

theorem rep_flat {α β : Type} (n : Nat) (a : α) (b : β) (f : α → List Value) (g : β → List Value) (h : f a = g b) : (List.replicate n a).flatMap f = (List.replicate n b).flatMap g := by
  induction n with
  | zero => rfl
  | succ n ih => simp [List.replicate_succ, h, ih]

theorem Try.infoStamp : (Try.prog.info? 168).map (fun i => (i.zero, i.size, i.bytes)) = some (some (.agg #[.int .u64 0, .int .u32 0]), 2, 16) := by kernel_rfl

theorem stampNew_any (n : Nat) (hn : n ≤ 65536) (w : World) :
    Calls Try.prog 75 #[.int .i64 n, .int .u32 1] w fun e w' => e = .returned (.tuple #[.pointer (some ⟨w.heap.size + 1, 0, none⟩), .nilIface]) ∧ SRep w' (w.heap.size + 1) w.heap.size (List.replicate n none) ∧ Below w.heap.size w w' := by
  have hmk := run_make_n (P := Try.prog) 164 168 (.agg #[.int .u64 0, .int .u32 0]) 2 16 Try.underlying164 Try.infoStamp .i64 .i64 n (by omega) (by omega)
  have em : madeCells (Value.agg #[Value.int .u64 0, Value.int .u32 0]).cells (n * 2) = ((List.replicate n (none : Option Int)).flatMap stampCells).toArray := by
    have := madeCells_eq [Value.int .u64 0, Value.int .u32 0] n (by decide)
    rw [← rep_flat n ()  none (fun _ => [Value.int .u64 0, Value.int .u32 0]) stampCells rfl]
    exact this
  rw [em] at hmk
  clear em
  generalize hL : (List.replicate n (none : Option Int)).flatMap stampCells = L at hmk
  have HL := Lib.hid hL
  clear hL
  go_enter Try.func75, Try.ntmps75
  go_wp2
  go_returns
  refine ⟨rfl, ⟨⟨0, Nat.zero_le _, ?_⟩, ?_, by simpa using hn, by simp⟩, by go_grown⟩
  · have := Cells.new (w.alloc (.cells L.toArray 168)) 166 [.slice (some ⟨w.heap.size, 0, none⟩) n n, .int .u32 1, .int .i64 0]
    simpa using this
  · rw [HL.out]
    exact (Cells.new w 168 L).alloc _

theorem stampSet_any {sb cb : Nat} {ds : List (Option Int)} (i : Nat) (v : Int) (w : World) (h : SRep w sb cb ds) (hi : i < ds.length) :
    Calls Try.prog 79 #[.pointer (some ⟨sb, 0, none⟩), .int .i64 i, .int .u64 v] w fun e w' => e = .returned .nilIface ∧ SRep w' sb cb (ds.set i (some v)) ∧ Only [sb, cb] w w' := by
  obtain ⟨c, hc, hd⟩ := h.hd
  have h0 : w.cell? ⟨sb, 0, none⟩ = some (.slice (some ⟨cb, 0, none⟩) ds.length ds.length) := hd.cell rfl
  have h1 : w.cell? ⟨sb, 1, none⟩ = some (.int .u32 1) := hd.cell rfl
  have h2 : w.cell? ⟨sb, 2, none⟩ = some (.int .i64 c) := hd.cell rfl
  have f2 := hd.frozen 2
  have f3 := h.cs.frozen (i * 2)
  have f4 := h.cs.frozen (i * 2 + 1)
  have hn := h.n
  have ne := h.ne
  have ne' : cb ≠ sb := fun e => ne e.symm
  have l1 := h.lt1
  have l2 := h.lt2
  have hcn : c ≤ 65536 := by have := List.countP_le_length (p := Option.isSome) (l := ds); omega
  obtain ⟨x, hx⟩ : ∃ x, ds[i]? = some x := ⟨_, List.getElem?_eq_getElem hi⟩
  obtain ⟨c0, c1⟩ := h.cell hx
  have hge : decide (ds.length ≤ i) = false := by simp; omega
  have hct := countP_set_le ds i v hi
  have hxi : ds[i] = x := by have := List.getElem?_eq_getElem hi; rw [hx] at this; exact (Option.some.inj this).symm
  rw [hxi] at hct
  have HCT := Lib.hid hct
  have HC := Lib.hid hc
  have H := Lib.hid h
  have HD := Lib.hid hd
  clear hct hxi hx hc h hd
  cases x with
  | none =>
    simp only [stampCells, List.getElem?_cons_zero, List.getElem?_cons_succ] at c0 c1
    go_enter Try.func79, Try.ntmps79
    go_wp2_with fail
    go_region
    go_wp2_with fail
    go_region
    go_wp2
    go_returns
    refine ⟨rfl, ?_, ?_⟩
    · have := stamp_put (c := c + 1) H.out hi (by rw [HCT.out]; simp; exact HC.out) (w.setCell ⟨sb, 2, none⟩ (.int .i64 ((c : Int) + 1))) (v := v) (HD.out.set 2 _) (H.out.cs.other ne' _)
      exact this.drew.drew
    · refine Only.drew (Only.drew (Only.setCell (Only.setCell (Only.setCell (Only.refl _ _) (.inl ?_) _) (.inl ?_) _) (.inl ?_) _)) <;> simp
  | some u =>
    simp only [stampCells, List.getElem?_cons_zero, List.getElem?_cons_succ] at c0 c1
    go_enter Try.func79, Try.ntmps79
    go_wp2_with fail
    go_region
    go_wp2_with fail
    go_region
    go_wp2
    go_returns
    refine ⟨rfl, ?_, ?_⟩
    · have := stamp_put (c := c) H.out hi (by rw [HCT.out]; simp; exact HC.out) w (v := v) HD.out H.out.cs
      exact this.drew.drew
    · refine Only.drew (Only.drew (Only.setCell (Only.setCell (Only.refl _ _) (.inl ?_) _) (.inl ?_) _)) <;> simp

/-- What Get answers. -/
def getVal : Option Int → Value
  | some v => .tuple #[.int .u64 v, .bool true]
  | none => .tuple #[.int .u64 0, .bool false]

theorem stampGet_any {sb cb : Nat} {ds : List (Option Int)} (i : Nat) (x : Option Int) (w : World) (h : SRep w sb cb ds) (hx : ds[i]? = some x) :
    Calls Try.prog 72 #[.pointer (some ⟨sb, 0, none⟩), .int .i64 i] w fun e w' => e = .returned (getVal x) ∧ Below w.heap.size w w' := by
  obtain ⟨c, hc, hd⟩ := h.hd
  have hi := (List.getElem?_eq_some_iff.1 hx).1
  have h0 : w.cell? ⟨sb, 0, none⟩ = some (.slice (some ⟨cb, 0, none⟩) ds.length ds.length) := hd.cell rfl
  have h1 : w.cell? ⟨sb, 1, none⟩ = some (.int .u32 1) := hd.cell rfl
  have hn := h.n
  obtain ⟨c0, c1⟩ := h.cell hx
  have hge : decide (ds.length ≤ i) = false := by simp; omega
  clear hx hc hd h
  cases x with
  | none =>
    simp only [stampCells, List.getElem?_cons_zero, List.getElem?_cons_succ] at c0 c1
    go_enter Try.func72, Try.ntmps72
    go_wp2_with fail
    go_quiet (fail)
    go_wp2
    go_returns
    exact ⟨rfl, below_draws _ _ _⟩
  | some u =>
    simp only [stampCells, List.getElem?_cons_zero, List.getElem?_cons_succ] at c0 c1
    go_enter Try.func72, Try.ntmps72
    go_wp2_with fail
    go_quiet (fail)
    go_wp2
    go_returns
    exact ⟨rfl, below_draws _ _ _⟩

end Go.Proofs.Ytjbphoophgbmiaa

/- The contract of stamp's All. -/
namespace Go.Proofs.Ytjbphoophgbmiaa
open Go.ChangeShapes Go.WideShapes Go.ChangeAt Go.RowKit Go.Joins Go.Deep
/-- The cells of a second new block. -/
theorem cells_new2 (w : World) (o : Obj) (t : TypeId) (l : List Value) : ∀ j u, l[j]? = some u → ((w.alloc o).alloc (.cells l.toArray t)).drew.cell? ((⟨w.heap.size + 1, 0, none⟩ : Addr).add j) = some u := by
  intro j u hu
  have e : (⟨w.heap.size + 1, 0, none⟩ : Addr).add j = ⟨w.heap.size + 1, j, none⟩ := by unfold Addr.add; split <;> simp_all
  rw [e]
  have := (Cells.new (w.alloc o) t l).cell hu
  simpa using this

/-- The places that hold a number, of the first k. -/
def allTo (ds : List (Option Int)) (k : Nat) : List Nat := (List.range k).filter fun i => (ds.getD i none).isSome
theorem allTo_succ (ds : List (Option Int)) (k : Nat) : allTo ds (k + 1) = allTo ds k ++ if (ds.getD k none).isSome then [k] else [] := by
  unfold allTo
  rw [List.range_succ, List.filter_append]
  congr 1
  by_cases h : (ds.getD k none).isSome = true
  · rw [if_pos h, List.filter_cons_of_pos (p := fun i => (ds.getD i none).isSome) h, List.filter_nil]
  · rw [if_neg h, List.filter_cons_of_neg (p := fun i => (ds.getD i none).isSome) h, List.filter_nil]
theorem allTo_le (ds : List (Option Int)) (k : Nat) : (allTo ds k).length ≤ k := by
  have := List.length_filter_le (fun i => (ds.getD i none).isSome) (List.range k)
  simpa [allTo] using this
def intCells (l : List Nat) : List Value := l.map fun (n : Nat) => .int .i64 (n : Int)

theorem Try.infoInt2 : (Try.prog.info? 3).map (fun i => (i.zero, i.size, i.bytes)) = some (some (.int .i64 0), 1, 8) := by kernel_rfl

set_option maxHeartbeats 400000 in
theorem stampAll_any {sb cb : Nat} {ds : List (Option Int)} (w : World) (h : SRep w sb cb ds) :
    Calls Try.prog 71 #[.pointer (some ⟨sb, 0, none⟩)] w fun e w' => (∃ ao cap, e = .returned (.slice ao (allTo ds ds.length).length cap) ∧ w'.ownsRow 0 3 1 (.slice ao (allTo ds ds.length).length cap) (allTo ds ds.length).length (intCells (allTo ds ds.length)) ∧
      (∀ k, (Value.slice ao (allTo ds ds.length).length cap).ownBlock = some k → w.heap.size ≤ k)) ∧ Below w.heap.size w w' := by
  obtain ⟨c, hc, hd⟩ := h.hd
  have h0 : w.cell? ⟨sb, 0, none⟩ = some (.slice (some ⟨cb, 0, none⟩) ds.length ds.length) := hd.cell rfl
  have hn := h.n
  have l1 := h.lt1
  have H := Lib.hid h
  clear hc hd h
  go_enter Try.func71, Try.ntmps71
  go_wp2_with fail
  go_loopw [3, 13] (fun vl vi wr => ∃ (k : Nat) (ao : Option Addr) (cap : Nat), vi = .int .i64 k ∧ k ≤ ds.length ∧ vl = .slice ao (allTo ds k).length cap ∧ wr.ownsRow 0 3 1 (.slice ao (allTo ds k).length cap) (allTo ds k).length (intCells (allTo ds k)) ∧
      (∀ b, (Value.slice ao (allTo ds k).length cap).ownBlock = some b → w.heap.size ≤ b) ∧ Below w.heap.size w wr) (fun _ vi _ => ds.length - (intOf vi).toNat)
  case atStart => exact ⟨0, none, 0, rfl, Nat.zero_le _, rfl, World.ownsRow_nil _ _ _ _, by simp [Value.ownBlock], Below.refl _ _⟩
  case round =>
    obtain ⟨k, ao, cap, rfl, hk, rfl, hown, hnew, hb⟩ := hrel
    by_cases hlt : k < ds.length
    · obtain ⟨x, hx⟩ : ∃ x, ds[k]? = some x := ⟨_, List.getElem?_eq_getElem hlt⟩
      have hS := H.out.below hb
      obtain ⟨c, hc, hd⟩ := hS.hd
      have hh0 : wr.cell? ⟨sb, 1, none⟩ = some (.int .u32 1) := hd.cell rfl
      have hsl : sb < wr.heap.size := hS.lt1
      have hcl : cb < wr.heap.size := hS.lt2
      obtain ⟨c0, c1⟩ := hS.cell hx
      have hsz := hb.size
      have hgx : ds.getD k none = x := by simp [List.getD_eq_getElem?_getD, hx]
      have hal := allTo_le ds k
      have HOWN := Lib.hid hown
      have HNEW := Lib.hid hnew
      have HB := Lib.hid hb
      have HGX := Lib.hid hgx
      clear hx hS hc hd hown hnew hb hgx
      cases x with
      | none =>
        simp only [stampCells, List.getElem?_cons_zero, List.getElem?_cons_succ] at c0 c1
        have es : allTo ds (k + 1) = allTo ds k := by rw [allTo_succ, HGX.out]; simp
        have ES := Lib.hid es
        clear es
        go_wp2_with fail
        go_region
        go_wp2_with fail
        go_roundw
        case rel => exact ⟨k + 1, ao, cap, by go_num, by omega, by rw [ES.out], by rw [ES.out]; exact own_drew (HOWN.out.alloc _), by rw [ES.out]; exact HNEW.out, (HB.out.alloc hsz _).drew⟩
        case measure => simp [intOf]; omega
      | some v =>
        simp only [stampCells, List.getElem?_cons_zero, List.getElem?_cons_succ] at c0 c1
        have es : allTo ds (k + 1) = allTo ds k ++ [k] := by rw [allTo_succ, HGX.out]; simp
        have ES := Lib.hid es
        clear es
        go_wp2_with fail
        go_region
        go_wp2_with (at_builtin; refine wpList_app _ rfl _ _ 40 rfl 3 (.int .i64 0) 1 8 Try.underlying40 Try.infoInt2 rfl (by decide) (.slice ao (allTo ds k).length cap) (allTo ds k).length (intCells (allTo ds k)) rfl ?own ⟨wr.heap.size + 1, 0, none⟩ 1 1 [.int .i64 k] rfl rfl ?c1 ?c2 ?c3 ?c4 ?_)
        case own => exact own_drew ((HOWN.out.alloc _).alloc _)
        case c1 => exact cells_new2 wr _ _ _
        case c2 => intro u hu; simp at hu; subst hu; rfl
        case c3 => unfold maxLen; omega
        case c4 => omega
        intro ao2 cap2 w2 hown2 ho2 hk2
        have e2 : (allTo ds (k + 1)).length = (allTo ds k).length + 1 := by rw [ES.out]; simp
        have e3 : intCells (allTo ds (k + 1)) = intCells (allTo ds k) ++ [.int .i64 k] := by rw [ES.out]; simp [intCells]
        have E2 := Lib.hid e2
        have E3 := Lib.hid e3
        have hbw : Below w.heap.size w w2 := by
          have b1 : Below w.heap.size w ((wr.alloc (.cells #[.int .u64 v, .int .u32 1] 168)).alloc (.cells #[.int .i64 k] 3)).drew := ((HB.out.alloc hsz _).alloc (by simp; omega) _).drew
          exact b1.trans (ho2.below (by simp; omega) (fun x hx => HNEW.out x (by simpa using hx)))
        have hnew2 : ∀ b, (Value.slice ao2 ((allTo ds k).length + 1) cap2).ownBlock = some b → w.heap.size ≤ b := by
          intro b hb
          rcases hk2 b hb with h1 | h1
          · exact HNEW.out b h1
          · omega
        have H2 := Lib.hid hown2
        have N2 := Lib.hid hnew2
        have B2 := Lib.hid hbw
        clear hown2 ho2 hk2 e2 e3 hbw hnew2
        go_wp2_with fail
        go_roundw
        case rel => exact ⟨k + 1, ao2, cap2, by go_num, by omega, by rw [E2.out], by rw [E2.out, E3.out]; exact H2.out, by rw [E2.out]; exact N2.out, B2.out⟩
        case measure => simp [intOf]; omega
    · obtain rfl : k = ds.length := by omega
      have HOWN := Lib.hid hown
      have HNEW := Lib.hid hnew
      have HB := Lib.hid hb
      clear hown hnew hb
      go_wp2
      go_returns
      exact ⟨⟨ao, cap, rfl, HOWN.out, HNEW.out⟩, HB.out⟩
end Go.Proofs.Ytjbphoophgbmiaa
