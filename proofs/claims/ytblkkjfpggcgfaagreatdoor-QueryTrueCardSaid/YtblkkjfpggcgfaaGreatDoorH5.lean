/- Contracts of package stamp, as package climb uses it: New, Set, Get, All. -/
import Derived.Test.YtblkkjfpggcgfaaGreatDoorH1
import Derived.Test.YtblkkjfpggcgfaaGreatDoorH2
namespace Go.Proofs.YtblkkjfpggcgfaaGreatDoor
open Go.ChangeShapes Go.WideShapes Go.ChangeAt Go.RowKit Go.Joins Go.Deep
def stampCells : Option Int → List Value
  | some v => [.int .u64 v, .int .u32 1]
  | none => [.int .u64 0, .int .u32 0]
theorem stampCells_len (x : Option Int) : (stampCells x).length = 2 := by cases x <;> rfl
structure SRep (w : World) (sb cb : Nat) (ds : List (Option Int)) : Prop where
  hd : ∃ c : Nat, c ≤ ds.countP Option.isSome ∧ Cells w sb 177 [.slice (some ⟨cb, 0, none⟩) ds.length ds.length, .int .u32 1, .int .i64 c]
  cs : Cells w cb 184 (ds.flatMap stampCells)
  n : ds.length ≤ 65536
  ne : sb ≠ cb
namespace SRep
variable {w w' : World} {sb cb : Nat} {ds : List (Option Int)}
theorem kept {bs : List Nat} (h : SRep w sb cb ds) (o : Only bs w w') (h1 : sb ∉ bs) (h2 : cb ∉ bs) : SRep w' sb cb ds := by
  obtain ⟨⟨c, hc, h3⟩, h4, h5, h6⟩ := h
  exact ⟨⟨c, hc, h3.kept o h1⟩, h4.kept o h2, h5, h6⟩
theorem below (h : SRep w sb cb ds) (o : Below w.heap.size w w') : SRep w' sb cb ds := h.kept (bs := []) (Only.of_below o) (by simp) (by simp)
theorem alloc (h : SRep w sb cb ds) (o : Obj) : SRep (w.alloc o) sb cb ds := h.below ((Below.refl _ _).alloc (Nat.le_refl _) o)
theorem drew (h : SRep w sb cb ds) : SRep w.drew sb cb ds := h.below (Below.refl _ _).drew
theorem lt1 (h : SRep w sb cb ds) : sb < w.heap.size := by obtain ⟨⟨c, hc, h3⟩, -⟩ := h; exact h3.lt
theorem lt2 (h : SRep w sb cb ds) : cb < w.heap.size := h.cs.lt
theorem cell (h : SRep w sb cb ds) {i : Nat} {x : Option Int} (hx : ds[i]? = some x) : w.cell? ⟨cb, i * 2, none⟩ = (stampCells x)[0]? ∧ w.cell? ⟨cb, i * 2 + 1, none⟩ = (stampCells x)[1]? := by
  have e0 := flat_get stampCells_len ds i 0 (by omega)
  have e1 := flat_get stampCells_len ds i 1 (by omega)
  rw [Nat.add_zero, hx] at e0
  rw [hx] at e1
  cases x with
  | none => exact ⟨h.cs.cell e0, h.cs.cell e1⟩
  | some v => exact ⟨h.cs.cell e0, h.cs.cell e1⟩
end SRep
theorem countP_set_le (ds : List (Option Int)) (i : Nat) (v : Int) (hi : i < ds.length) : (ds.set i (some v)).countP Option.isSome = if (ds[i]'hi).isSome then ds.countP Option.isSome else ds.countP Option.isSome + 1 := by
  induction ds generalizing i with
  | nil => simp at hi
  | cons a l ih =>
    cases i with
    | zero => cases a <;> simp
    | succ i =>
      have hi' : i < l.length := by simpa using hi
      have := ih i hi'
      simp only [List.set_cons_succ, List.countP_cons, List.getElem_cons_succ, this]
      split <;> omega
theorem stamp_put {w : World} {sb cb c i : Nat} {ds : List (Option Int)} {v : Int} (h : SRep w sb cb ds) (hi : i < ds.length) (hc : c ≤ (ds.set i (some v)).countP Option.isSome) (w1 : World)
    (h1 : Cells w1 sb 177 [.slice (some ⟨cb, 0, none⟩) ds.length ds.length, .int .u32 1, .int .i64 c]) (h2 : Cells w1 cb 184 (ds.flatMap stampCells)) :
    SRep ((w1.setCell ⟨cb, i * 2, none⟩ (.int .u64 v)).setCell ⟨cb, i * 2 + 1, none⟩ (.int .u32 1)) sb cb (ds.set i (some v)) := by
  refine ⟨⟨c, hc, ?_⟩, ?_, by simpa using h.n, h.ne⟩
  · have := (h1.other (a := ⟨cb, i * 2, none⟩) h.ne (.int .u64 v)).other (a := ⟨cb, i * 2 + 1, none⟩) h.ne (.int .u32 1)
    simpa using this
  · have := (h2.set (i * 2) (.int .u64 v)).set (i * 2 + 1) (.int .u32 1)
    have hx : ds[i]? = some ds[i] := List.getElem?_eq_getElem hi
    have e : ((ds.flatMap stampCells).set (i * 2) (.int .u64 v)).set (i * 2 + 1) (.int .u32 1) = (ds.set i (some v)).flatMap stampCells := by
      have hl := flat_length stampCells_len ds
      apply List.ext_getElem?
      intro j
      have hdm : j / 2 * 2 + j % 2 = j := Nat.div_add_mod' j 2
      have hm : j % 2 < 2 := Nat.mod_lt _ (by omega)
      have r1 := flat_get stampCells_len (ds.set i (some v)) (j / 2) (j % 2) hm
      have r2 := flat_get stampCells_len ds (j / 2) (j % 2) hm
      rw [hdm] at r1 r2
      rw [r1]
      simp only [List.getElem?_set, List.length_set]
      by_cases c1 : i * 2 + 1 = j
      · have a1 : j / 2 = i := by omega
        have a2 : j % 2 = 1 := by omega
        rw [if_pos c1, if_pos (by omega), a1, a2, if_pos rfl, if_pos hi]
        rfl
      · rw [if_neg c1]
        by_cases c2 : i * 2 = j
        · have a1 : j / 2 = i := by omega
          have a2 : j % 2 = 0 := by omega
          rw [if_pos c2, if_pos (by omega), a1, a2, if_pos rfl, if_pos hi]
          rfl
        · have a1 : ¬ i = j / 2 := by omega
          rw [if_neg c2, if_neg a1, r2]
    rw [e] at this
    exact this
theorem rep_flat {α β : Type} (n : Nat) (a : α) (b : β) (f : α → List Value) (g : β → List Value) (h : f a = g b) : (List.replicate n a).flatMap f = (List.replicate n b).flatMap g := by
  induction n with
  | zero => rfl
  | succ n ih => simp [List.replicate_succ, h, ih]
theorem Tryz.infoStamp : (Tryz.prog.info? 184).map (fun i => (i.zero, i.size, i.bytes)) = some (some (.agg #[.int .u64 0, .int .u32 0]), 2, 16) := by kernel_rfl
theorem stampNew_any (n : Nat) (hn : n ≤ 65536) (w : World) :
    Calls Tryz.prog 52 #[.int .i64 n, .int .u32 1] w fun e w' => e = .returned (.tuple #[.pointer (some ⟨w.heap.size + 1, 0, none⟩), .nilIface]) ∧ SRep w' (w.heap.size + 1) w.heap.size (List.replicate n none) ∧ Below w.heap.size w w' := by
  have hmk := run_make_n (P := Tryz.prog) 175 184 (.agg #[.int .u64 0, .int .u32 0]) 2 16 Tryz.underlying175 Tryz.infoStamp .i64 .i64 n (by omega) (by omega)
  have em : madeCells (Value.agg #[Value.int .u64 0, Value.int .u32 0]).cells (n * 2) = ((List.replicate n (none : Option Int)).flatMap stampCells).toArray := by
    have := madeCells_eq [Value.int .u64 0, Value.int .u32 0] n (by decide)
    rw [← rep_flat n ()  none (fun _ => [Value.int .u64 0, Value.int .u32 0]) stampCells rfl]
    exact this
  rw [em] at hmk
  clear em
  generalize hL : (List.replicate n (none : Option Int)).flatMap stampCells = L at hmk
  have HL := Lib.hid hL
  clear hL
  go_enter Tryz.func52, Tryz.ntmps52
  go_wp2
  go_returns
  refine ⟨rfl, ⟨⟨0, Nat.zero_le _, ?_⟩, ?_, by simpa using hn, by simp⟩, by go_grown⟩
  · have := Cells.new (w.alloc (.cells L.toArray 184)) 177 [.slice (some ⟨w.heap.size, 0, none⟩) n n, .int .u32 1, .int .i64 0]
    simpa using this
  · rw [HL.out]
    exact (Cells.new w 184 L).alloc _
theorem stampSet_any {sb cb : Nat} {ds : List (Option Int)} (i : Nat) (v : Int) (w : World) (h : SRep w sb cb ds) (hi : i < ds.length) :
    Calls Tryz.prog 80 #[.pointer (some ⟨sb, 0, none⟩), .int .i64 i, .int .u64 v] w fun e w' => e = .returned .nilIface ∧ SRep w' sb cb (ds.set i (some v)) ∧ Only [sb, cb] w w' := by
  obtain ⟨c, hc, hd⟩ := h.hd
  have h0 : w.cell? ⟨sb, 0, none⟩ = some (.slice (some ⟨cb, 0, none⟩) ds.length ds.length) := hd.cell rfl
  have h1 : w.cell? ⟨sb, 1, none⟩ = some (.int .u32 1) := hd.cell rfl
  have h2 : w.cell? ⟨sb, 2, none⟩ = some (.int .i64 c) := hd.cell rfl
  have f2 := hd.frozen 2
  have f3 := h.cs.frozen (i * 2)
  have f4 := h.cs.frozen (i * 2 + 1)
  have hn := h.n
  have ne := h.ne
  have ne' : cb ≠ sb := fun e => ne e.symm
  have l1 := h.lt1
  have l2 := h.lt2
  have hcn : c ≤ 65536 := by have := List.countP_le_length (p := Option.isSome) (l := ds); omega
  obtain ⟨x, hx⟩ : ∃ x, ds[i]? = some x := ⟨_, List.getElem?_eq_getElem hi⟩
  obtain ⟨c0, c1⟩ := h.cell hx
  have hge : decide (ds.length ≤ i) = false := by simp; omega
  have hct := countP_set_le ds i v hi
  have hxi : ds[i] = x := by have := List.getElem?_eq_getElem hi; rw [hx] at this; exact (Option.some.inj this).symm
  rw [hxi] at hct
  have HCT := Lib.hid hct
  have HC := Lib.hid hc
  have H := Lib.hid h
  have HD := Lib.hid hd
  clear hct hxi hx hc h hd
  cases x with
  | none =>
    simp only [stampCells, List.getElem?_cons_zero, List.getElem?_cons_succ] at c0 c1
    go_enter Tryz.func80, Tryz.ntmps80
    go_wp2_with fail
    go_region
    go_wp2_with fail
    go_region
    go_wp2
    go_returns
    refine ⟨rfl, ?_, ?_⟩
    · have := stamp_put (c := c + 1) H.out hi (by rw [HCT.out]; simp; exact HC.out) (w.setCell ⟨sb, 2, none⟩ (.int .i64 ((c : Int) + 1))) (v := v) (HD.out.set 2 _) (H.out.cs.other ne' _)
      exact this.drew.drew
    · refine Only.drew (Only.drew (Only.setCell (Only.setCell (Only.setCell (Only.refl _ _) (.inl ?_) _) (.inl ?_) _) (.inl ?_) _)) <;> simp
  | some u =>
    simp only [stampCells, List.getElem?_cons_zero, List.getElem?_cons_succ] at c0 c1
    go_enter Tryz.func80, Tryz.ntmps80
    go_wp2_with fail
    go_region
    go_wp2_with fail
    go_region
    go_wp2
    go_returns
    refine ⟨rfl, ?_, ?_⟩
    · have := stamp_put (c := c) H.out hi (by rw [HCT.out]; simp; exact HC.out) w (v := v) HD.out H.out.cs
      exact this.drew.drew
    · refine Only.drew (Only.drew (Only.setCell (Only.setCell (Only.refl _ _) (.inl ?_) _) (.inl ?_) _)) <;> simp
def getVal : Option Int → Value
  | some v => .tuple #[.int .u64 v, .bool true]
  | none => .tuple #[.int .u64 0, .bool false]
theorem stampGet_any {sb cb : Nat} {ds : List (Option Int)} (i : Nat) (x : Option Int) (w : World) (h : SRep w sb cb ds) (hx : ds[i]? = some x) :
    Calls Tryz.prog 57 #[.pointer (some ⟨sb, 0, none⟩), .int .i64 i] w fun e w' => e = .returned (getVal x) ∧ Below w.heap.size w w' := by
  obtain ⟨c, hc, hd⟩ := h.hd
  have hi := (List.getElem?_eq_some_iff.1 hx).1
  have h0 : w.cell? ⟨sb, 0, none⟩ = some (.slice (some ⟨cb, 0, none⟩) ds.length ds.length) := hd.cell rfl
  have h1 : w.cell? ⟨sb, 1, none⟩ = some (.int .u32 1) := hd.cell rfl
  have hn := h.n
  obtain ⟨c0, c1⟩ := h.cell hx
  have hge : decide (ds.length ≤ i) = false := by simp; omega
  clear hx hc hd h
  cases x with
  | none =>
    simp only [stampCells, List.getElem?_cons_zero, List.getElem?_cons_succ] at c0 c1
    go_enter Tryz.func57, Tryz.ntmps57
    go_wp2_with fail
    go_quiet (fail)
    go_wp2
    go_returns
    exact ⟨rfl, below_draws _ _ _⟩
  | some u =>
    simp only [stampCells, List.getElem?_cons_zero, List.getElem?_cons_succ] at c0 c1
    go_enter Tryz.func57, Tryz.ntmps57
    go_wp2_with fail
    go_quiet (fail)
    go_wp2
    go_returns
    exact ⟨rfl, below_draws _ _ _⟩
end Go.Proofs.YtblkkjfpggcgfaaGreatDoor
/- The contract of stamp's All. -/
namespace Go.Proofs.YtblkkjfpggcgfaaGreatDoor
open Go.ChangeShapes Go.WideShapes Go.ChangeAt Go.RowKit Go.Joins Go.Deep
theorem cells_new2 (w : World) (o : Obj) (t : TypeId) (l : List Value) : ∀ j u, l[j]? = some u → ((w.alloc o).alloc (.cells l.toArray t)).drew.cell? ((⟨w.heap.size + 1, 0, none⟩ : Addr).add j) = some u := by
  intro j u hu
  have e : (⟨w.heap.size + 1, 0, none⟩ : Addr).add j = ⟨w.heap.size + 1, j, none⟩ := by unfold Addr.add; split <;> simp_all
  rw [e]
  have := (Cells.new (w.alloc o) t l).cell hu
  simpa using this
def allTo (ds : List (Option Int)) (k : Nat) : List Nat := (List.range k).filter fun i => (ds.getD i none).isSome
theorem allTo_succ (ds : List (Option Int)) (k : Nat) : allTo ds (k + 1) = allTo ds k ++ if (ds.getD k none).isSome then [k] else [] := by
  unfold allTo
  rw [List.range_succ, List.filter_append]
  congr 1
  by_cases h : (ds.getD k none).isSome = true
  · rw [if_pos h, List.filter_cons_of_pos (p := fun i => (ds.getD i none).isSome) h, List.filter_nil]
  · rw [if_neg h, List.filter_cons_of_neg (p := fun i => (ds.getD i none).isSome) h, List.filter_nil]
theorem allTo_le (ds : List (Option Int)) (k : Nat) : (allTo ds k).length ≤ k := by
  have := List.length_filter_le (fun i => (ds.getD i none).isSome) (List.range k)
  simpa [allTo] using this
def intCells (l : List Nat) : List Value := l.map fun (n : Nat) => .int .i64 (n : Int)
theorem Tryz.infoInt2 : (Tryz.prog.info? 3).map (fun i => (i.zero, i.size, i.bytes)) = some (some (.int .i64 0), 1, 8) := by kernel_rfl
set_option maxHeartbeats 400000 in
theorem stampAll_any {sb cb : Nat} {ds : List (Option Int)} (w : World) (h : SRep w sb cb ds) :
    Calls Tryz.prog 92 #[.pointer (some ⟨sb, 0, none⟩)] w fun e w' => (∃ ao cap, e = .returned (.slice ao (allTo ds ds.length).length cap) ∧ w'.ownsRow 0 3 1 (.slice ao (allTo ds ds.length).length cap) (allTo ds ds.length).length (intCells (allTo ds ds.length)) ∧
      (∀ k, (Value.slice ao (allTo ds ds.length).length cap).ownBlock = some k → w.heap.size ≤ k)) ∧ Below w.heap.size w w' := by
  obtain ⟨c, hc, hd⟩ := h.hd
  have h0 : w.cell? ⟨sb, 0, none⟩ = some (.slice (some ⟨cb, 0, none⟩) ds.length ds.length) := hd.cell rfl
  have hn := h.n
  have l1 := h.lt1
  have H := Lib.hid h
  clear hc hd h
  go_enter Tryz.func92, Tryz.ntmps92
  go_wp2_with fail
  go_loopw [3, 13] (fun vl vi wr => ∃ (k : Nat) (ao : Option Addr) (cap : Nat), vi = .int .i64 k ∧ k ≤ ds.length ∧ vl = .slice ao (allTo ds k).length cap ∧ wr.ownsRow 0 3 1 (.slice ao (allTo ds k).length cap) (allTo ds k).length (intCells (allTo ds k)) ∧
      (∀ b, (Value.slice ao (allTo ds k).length cap).ownBlock = some b → w.heap.size ≤ b) ∧ Below w.heap.size w wr) (fun _ vi _ => ds.length - (intOf vi).toNat)
  case atStart => exact ⟨0, none, 0, rfl, Nat.zero_le _, rfl, World.ownsRow_nil _ _ _ _, by simp [Value.ownBlock], Below.refl _ _⟩
  case round =>
    obtain ⟨k, ao, cap, rfl, hk, rfl, hown, hnew, hb⟩ := hrel
    by_cases hlt : k < ds.length
    · obtain ⟨x, hx⟩ : ∃ x, ds[k]? = some x := ⟨_, List.getElem?_eq_getElem hlt⟩
      have hS := H.out.below hb
      obtain ⟨c, hc, hd⟩ := hS.hd
      have hh0 : wr.cell? ⟨sb, 1, none⟩ = some (.int .u32 1) := hd.cell rfl
      have hsl : sb < wr.heap.size := hS.lt1
      have hcl : cb < wr.heap.size := hS.lt2
      obtain ⟨c0, c1⟩ := hS.cell hx
      have hsz := hb.size
      have hgx : ds.getD k none = x := by simp [List.getD_eq_getElem?_getD, hx]
      have hal := allTo_le ds k
      have HOWN := Lib.hid hown
      have HNEW := Lib.hid hnew
      have HB := Lib.hid hb
      have HGX := Lib.hid hgx
      clear hx hS hc hd hown hnew hb hgx
      cases x with
      | none =>
        simp only [stampCells, List.getElem?_cons_zero, List.getElem?_cons_succ] at c0 c1
        have es : allTo ds (k + 1) = allTo ds k := by rw [allTo_succ, HGX.out]; simp
        have ES := Lib.hid es
        clear es
        go_wp2_with fail
        go_region
        go_wp2_with fail
        go_roundw
        case rel => exact ⟨k + 1, ao, cap, by go_num, by omega, by rw [ES.out], by rw [ES.out]; exact own_drew (HOWN.out.alloc _), by rw [ES.out]; exact HNEW.out, (HB.out.alloc hsz _).drew⟩
        case measure => simp [intOf]; omega
      | some v =>
        simp only [stampCells, List.getElem?_cons_zero, List.getElem?_cons_succ] at c0 c1
        have es : allTo ds (k + 1) = allTo ds k ++ [k] := by rw [allTo_succ, HGX.out]; simp
        have ES := Lib.hid es
        clear es
        go_wp2_with fail
        go_region
        go_wp2_with (at_builtin; refine wpList_app _ rfl _ _ 38 rfl 3 (.int .i64 0) 1 8 Tryz.underlying38 Tryz.infoInt2 rfl (by decide) (.slice ao (allTo ds k).length cap) (allTo ds k).length (intCells (allTo ds k)) rfl ?own ⟨wr.heap.size + 1, 0, none⟩ 1 1 [.int .i64 k] rfl rfl ?c1 ?c2 ?c3 ?c4 ?_)
        case own => exact own_drew ((HOWN.out.alloc _).alloc _)
        case c1 => exact cells_new2 wr _ _ _
        case c2 => intro u hu; simp at hu; subst hu; rfl
        case c3 => unfold maxLen; omega
        case c4 => omega
        intro ao2 cap2 w2 hown2 ho2 hk2
        have e2 : (allTo ds (k + 1)).length = (allTo ds k).length + 1 := by rw [ES.out]; simp
        have e3 : intCells (allTo ds (k + 1)) = intCells (allTo ds k) ++ [.int .i64 k] := by rw [ES.out]; simp [intCells]
        have E2 := Lib.hid e2
        have E3 := Lib.hid e3
        have hbw : Below w.heap.size w w2 := by
          have b1 : Below w.heap.size w ((wr.alloc (.cells #[.int .u64 v, .int .u32 1] 184)).alloc (.cells #[.int .i64 k] 3)).drew := ((HB.out.alloc hsz _).alloc (by simp; omega) _).drew
          exact b1.trans (ho2.below (by simp; omega) (fun x hx => HNEW.out x (by simpa using hx)))
        have hnew2 : ∀ b, (Value.slice ao2 ((allTo ds k).length + 1) cap2).ownBlock = some b → w.heap.size ≤ b := by
          intro b hb
          rcases hk2 b hb with h1 | h1
          · exact HNEW.out b h1
          · omega
        have H2 := Lib.hid hown2
        have N2 := Lib.hid hnew2
        have B2 := Lib.hid hbw
        clear hown2 ho2 hk2 e2 e3 hbw hnew2
        go_wp2_with fail
        go_roundw
        case rel => exact ⟨k + 1, ao2, cap2, by go_num, by omega, by rw [E2.out], by rw [E2.out, E3.out]; exact H2.out, by rw [E2.out]; exact N2.out, B2.out⟩
        case measure => simp [intOf]; omega
    · obtain rfl : k = ds.length := by omega
      have HOWN := Lib.hid hown
      have HNEW := Lib.hid hnew
      have HB := Lib.hid hb
      clear hown hnew hb
      go_wp2
      go_returns
      exact ⟨⟨ao, cap, rfl, HOWN.out, HNEW.out⟩, HB.out⟩
end Go.Proofs.YtblkkjfpggcgfaaGreatDoor
namespace Go.Proofs.YtblkkjfpggcgfaaGreatDoor
structure SideD where
  n : Nat
  first : List Nat
  links : List LinkD
  bfirst : List Nat
  back : List LinkD
def seg (first : List Nat) (links : List LinkD) (r : Nat) : List LinkD := (links.take (first.getD (r + 1) 0)).drop (first.getD r 0)
structure HalfOk (n : Nat) (first : List Nat) (links : List LinkD) : Prop where
  len : first.length = n + 1
  mono : ∀ r, r < n → first.getD r 0 ≤ first.getD (r + 1) 0
  last : ∀ r, r ≤ n → first.getD r 0 ≤ links.length
  up : ∀ r, r < n → ∀ l ∈ seg first links r, r < l.to ∧ l.to < n ∧ l.wt ≤ 140737488355328
structure SideOk (v : SideD) : Prop where
  n : v.n ≤ 65536
  fwd : HalfOk v.n v.first v.links
  bwd : HalfOk v.n v.bfirst v.back
structure IsD (n : Nat) (first : List Nat) (links : List LinkD) (s : Nat) (D : Nat → Option Int) : Prop where
  src : D s = some 0
  fwd : ∀ x d l, x < n → D x = some d → l ∈ seg first links x → ∃ e, D l.to = some e ∧ e ≤ d + l.wt
  bwd : ∀ r e, r ≠ s → D r = some e → ∃ x d l, x < n ∧ D x = some d ∧ l ∈ seg first links x ∧ l.to = r ∧ e = d + l.wt
  dom : ∀ r e, D r = some e → r < n
theorem IsD.unique {n : Nat} {first : List Nat} {links : List LinkD} (ok : HalfOk n first links) {s : Nat} {D E : Nat → Option Int} (h : IsD n first links s D) (k : IsD n first links s E) : ∀ r, D r = E r := by
  have key : ∀ (D E : Nat → Option Int), IsD n first links s D → IsD n first links s E → ∀ r, (∀ x, x < r → D x = E x) → ∀ e, D r = some e → ∃ e', E r = some e' ∧ e' ≤ e := by
    intro D E h k r ih e he
    by_cases hr : r = s
    · subst hr
      rw [h.src] at he
      exact ⟨0, k.src, by simp at he; omega⟩
    · obtain ⟨x, d, l, hx, hd, hl, hto, rfl⟩ := h.bwd r e hr he
      have hlt := (ok.up x hx l hl).1
      rw [hto] at hlt
      obtain ⟨e', h1, h2⟩ := k.fwd x d l hx (by rw [← ih x hlt]; exact hd) hl
      exact ⟨e', by rw [← hto]; exact h1, h2⟩
  intro r
  induction r using Nat.strongRecOn with
  | _ r ih =>
    cases hD : D r with
    | none =>
      cases hE : E r with
      | none => rfl
      | some e =>
        obtain ⟨e', h1, _⟩ := key E D k h r (fun x hx => (ih x hx).symm) e hE
        rw [hD] at h1; cases h1
    | some d =>
      obtain ⟨e', h1, h2⟩ := key D E h k r ih d hD
      obtain ⟨d', h3, h4⟩ := key E D k h r (fun x hx => (ih x hx).symm) e' h1
      rw [hD] at h3
      simp at h3
      rw [h1]
      congr 1
      omega
def eraseM (m : Nat → Option Int) (id : Nat) : Nat → Option Int := fun x => if x = id then none else m x
def pushM (m : Nat → Option Int) (id : Nat) (k : Int) : Nat → Option Int := fun x => if x = id then (match m id with | some o => some (if o ≤ k then o else k) | none => some k) else m x
def relax1 (ds : List (Option Int)) (d : Int) (m : Nat → Option Int) (l : LinkD) : Nat → Option Int := if (ds.getD l.to none).isSome then m else pushM m l.to (d + l.wt)
theorem Holds.push {s : HS} {n : Nat} {m : Nat → Option Int} (h : Holds s n m) (id : Nat) (k : Int) (hid : id < n) : (∀ x, keyOf (match keyOf s id with | some o => if o ≤ k then s else setP s id k | none => setP s id k) x = pushM m id k x) ∧
    Good (match keyOf s id with | some o => if o ≤ k then s else setP s id k | none => setP s id k) ∧ (match keyOf s id with | some o => if o ≤ k then s else setP s id k | none => setP s id k).2.length = n := by
  obtain ⟨g, hk, hl, -⟩ := setP_spec h.good id k (by rw [h.len]; exact hid)
  have hm := h.key id
  have hkm := h.key
  cases ho : keyOf s id with
  | none =>
    rw [ho] at hm
    refine ⟨fun x => ?_, g, hl.trans h.len⟩
    simp only [hk, pushM, ← hm, hkm]
  | some o =>
    rw [ho] at hm
    simp only
    split
    · rename_i hle
      refine ⟨fun x => ?_, h.good, h.len⟩
      simp only [pushM, ← hm, hkm, hle, if_true]
      split
      · rename_i e; rw [e, ← hm]
      · rfl
    · rename_i hle
      refine ⟨fun x => ?_, g, hl.trans h.len⟩
      simp only [hk, pushM, ← hm, hkm, hle, if_false]
section
variable {v : SideD} {s : Nat}
structure CInv (v : SideD) (s : Nat) (m : Nat → Option Int) (ds : List (Option Int)) (P : Nat → LinkD → Prop) : Prop where
  len : ds.length = v.n
  dis : ∀ x d, ds.getD x none = some d → m x = none
  src : ds.getD s none = some 0 ∨ (m s = some 0 ∧ ∀ x, ds.getD x none = none)
  fwd : ∀ x d l, ds.getD x none = some d → l ∈ seg v.first v.links x → P x l → ∃ e, (ds.getD l.to none = some e ∨ m l.to = some e) ∧ e ≤ d + l.wt
  bwd : ∀ r e, r ≠ s → (ds.getD r none = some e ∨ m r = some e) → ∃ x d l, x < v.n ∧ ds.getD x none = some d ∧ l ∈ seg v.first v.links x ∧ l.to = r ∧ e = d + l.wt
  bnd : ∀ r e, (ds.getD r none = some e ∨ m r = some e) → 0 ≤ e ∧ e ≤ r * 140737488355328 ∧ r < v.n
  ord : ∀ x d r e, ds.getD x none = some d → m r = some e → d ≤ e
theorem getD_set (ds : List (Option Int)) (i : Nat) (v : Option Int) (x : Nat) (hi : i < ds.length) : (ds.set i v).getD x none = if i = x then v else ds.getD x none := by
  simp only [List.getD_eq_getElem?_getD, List.getElem?_set]
  by_cases h : i = x
  · rw [if_pos h, if_pos h, if_pos hi]; rfl
  · rw [if_neg h, if_neg h]
theorem CInv.start (hs : s < v.n) : CInv v s (pushM (fun _ => none) s 0) (List.replicate v.n none) (fun _ _ => True) := by
  have h0 : ∀ x, (List.replicate v.n (none : Option Int)).getD x none = none := by
    intro x
    simp only [List.getD_eq_getElem?_getD, List.getElem?_replicate]
    split <;> rfl
  have hm : ∀ x e, pushM (fun _ => none) s 0 x = some e → x = s ∧ e = 0 := by
    intro x e h
    unfold pushM at h
    split at h
    · rename_i hx; exact ⟨hx, by simpa using h.symm⟩
    · cases h
  refine ⟨by simp, fun x d h => ?_, .inr ⟨by simp [pushM], h0⟩, fun x d l h => ?_, fun r e hr h => ?_, fun r e h => ?_, fun x d r e h => ?_⟩
  · rw [h0] at h; cases h
  · rw [h0] at h; cases h
  · rcases h with h | h
    · rw [h0] at h; cases h
    · exact absurd (hm r e h).1 hr
  · rcases h with h | h
    · rw [h0] at h; cases h
    · obtain ⟨rfl, rfl⟩ := hm r e h
      exact ⟨by omega, by omega, hs⟩
  · rw [h0] at h; cases h
theorem CInv.settle {m : Nat → Option Int} {ds : List (Option Int)} (h : CInv v s m ds (fun _ _ => True)) {id : Nat} {k : Int} (hk : m id = some k) (hmin : ∀ d e, m d = some e → le2 (k, id) (e, d)) :
    CInv v s (eraseM m id) (ds.set id (some k)) (fun x _ => x ≠ id) ∧ (ds.set id (some k)).getD id none = some k ∧ (∀ x d, (ds.set id (some k)).getD x none = some d → d ≤ k) := by
  obtain ⟨hk0, hk1, hidn⟩ := h.bnd id k (.inr hk)
  have hidl : id < ds.length := by rw [h.len]; exact hidn
  have hset := fun x => getD_set ds id (some k) x hidl
  have hmin' : ∀ d e, m d = some e → k ≤ e := fun d e hd => by have := (le2_iff _ _).1 (hmin d e hd); simp at this; omega
  have hnot : ds.getD id none = none := by
    cases hd : ds.getD id none with
    | none => rfl
    | some d => have := h.dis id d hd; rw [hk] at this; cases this
  have herase : ∀ x e, eraseM m id x = some e → x ≠ id ∧ m x = some e := by
    intro x e hx
    unfold eraseM at hx
    split at hx
    · cases hx
    · rename_i hne; exact ⟨hne, hx⟩
  have hstay : ∀ r e, (ds.getD r none = some e ∨ m r = some e) → ((ds.set id (some k)).getD r none = some e ∨ eraseM m id r = some e) := by
    intro r e hr
    by_cases hri : id = r
    · subst hri
      rcases hr with hr | hr
      · rw [hnot] at hr; cases hr
      · rw [hk] at hr
        exact .inl (by rw [hset, if_pos rfl, hr])
    · rcases hr with hr | hr
      · exact .inl (by rw [hset, if_neg hri]; exact hr)
      · exact .inr (by unfold eraseM; rw [if_neg (fun e => hri e.symm)]; exact hr)
  have hback : ∀ r e, ((ds.set id (some k)).getD r none = some e ∨ eraseM m id r = some e) → (ds.getD r none = some e ∨ m r = some e) := by
    intro r e hr
    rcases hr with hr | hr
    · rw [hset] at hr
      split at hr
      · rename_i e1; subst e1; exact .inr (by rw [hk]; exact hr)
      · exact .inl hr
    · exact .inr (herase r e hr).2
  refine ⟨⟨by rw [List.length_set]; exact h.len, ?_, ?_, ?_, ?_, ?_, ?_⟩, by rw [hset, if_pos rfl], ?_⟩
  · intro x d hx
    rw [hset] at hx
    unfold eraseM
    split at hx
    · rename_i e1; rw [if_pos e1.symm]
    · rename_i e1; rw [if_neg (fun e => e1 e.symm)]; exact h.dis x d hx
  · rcases h.src with h1 | ⟨h1, h2⟩
    · refine .inl ?_
      rw [hset]
      split
      · rename_i e1; subst e1; rw [hnot] at h1; cases h1
      · exact h1
    · have : id = s := by
        apply Classical.byContradiction
        intro hne
        obtain ⟨x, d, l, _, hx, _⟩ := h.bwd id k hne (.inr hk)
        rw [h2 x] at hx; cases hx
      subst this
      rw [hk] at h1
      exact .inl (by rw [hset, if_pos rfl]; exact h1)
  · intro x d l hx hl hp
    rw [hset, if_neg (fun e => hp e.symm)] at hx
    obtain ⟨e, he, hle⟩ := h.fwd x d l hx hl trivial
    exact ⟨e, hstay _ _ he, hle⟩
  · intro r e hr he
    obtain ⟨x, d, l, h1, h2, h3, h4, h5⟩ := h.bwd r e hr (hback r e he)
    refine ⟨x, d, l, h1, ?_, h3, h4, h5⟩
    rw [hset]
    split
    · rename_i e1; subst e1; rw [hnot] at h2; cases h2
    · exact h2
  · intro r e he
    exact h.bnd r e (hback r e he)
  · intro x d r e hx hr
    obtain ⟨_, hr⟩ := herase r e hr
    rw [hset] at hx
    split at hx
    · simp at hx
      have := hmin' r e hr
      omega
    · exact h.ord x d r e hx hr
  · intro x d hx
    rw [hset] at hx
    split at hx
    · simp at hx; omega
    · exact h.ord x d id k hx hk
theorem CInv.link (ok : HalfOk v.n v.first v.links) {m : Nat → Option Int} {ds : List (Option Int)} {P : Nat → LinkD → Prop} (h : CInv v s m ds P) {id : Nat} {k : Int} (hid : ds.getD id none = some k) (hmax : ∀ x d, ds.getD x none = some d → d ≤ k)
    {l : LinkD} (hl : l ∈ seg v.first v.links id) : CInv v s (relax1 ds k m l) ds (fun x l' => P x l' ∨ (x = id ∧ l' = l)) := by
  obtain ⟨hk0, hk1, hidn⟩ := h.bnd id k (.inl hid)
  obtain ⟨hup, hton, hwt⟩ := ok.up id hidn l hl
  have hsrc : ds.getD s none = some 0 := by
    rcases h.src with h1 | ⟨_, h2⟩
    · exact h1
    · rw [h2 id] at hid; cases hid
  unfold relax1
  cases hto : ds.getD l.to none with
  | some e =>
    simp only [Option.isSome_some, if_true]
    refine ⟨h.len, h.dis, h.src, ?_, h.bwd, h.bnd, h.ord⟩
    intro x d l' hx hl' hp
    rcases hp with hp | ⟨rfl, rfl⟩
    · exact h.fwd x d l' hx hl' hp
    · have := hmax _ e hto
      rw [hid] at hx
      simp at hx
      exact ⟨e, .inl hto, by omega⟩
  | none =>
    simp only [Option.isSome_none, Bool.false_eq_true, if_false]
    have hnew : ∃ e, pushM m l.to (k + l.wt) l.to = some e ∧ e ≤ k + l.wt ∧ (m l.to = some e ∨ e = k + l.wt) := by
      unfold pushM
      rw [if_pos rfl]
      cases m l.to with
      | none => exact ⟨_, rfl, by omega, .inr rfl⟩
      | some o =>
        by_cases ho : o ≤ k + l.wt
        · exact ⟨o, by simp [ho], ho, .inl rfl⟩
        · exact ⟨k + l.wt, by simp [ho], by omega, .inr rfl⟩
    obtain ⟨e0, he0, hle0, hor⟩ := hnew
    have hoth : ∀ x, x ≠ l.to → pushM m l.to (k + l.wt) x = m x := by
      intro x hx
      unfold pushM
      rw [if_neg hx]
    have hstay : ∀ r e, (ds.getD r none = some e ∨ m r = some e) → ∃ e', (ds.getD r none = some e' ∨ pushM m l.to (k + l.wt) r = some e') ∧ e' ≤ e := by
      intro r e hr
      by_cases h1 : r = l.to
      · subst h1
        rcases hr with hr | hr
        · rw [hto] at hr; cases hr
        · refine ⟨e0, .inr he0, ?_⟩
          rcases hor with h2 | h2
          · rw [hr] at h2; simp at h2; omega
          · have : pushM m l.to (k + l.wt) l.to = some (if e ≤ k + l.wt then e else k + l.wt) := by unfold pushM; rw [if_pos rfl, hr]
            rw [he0] at this
            simp at this
            split at this <;> omega
      · exact ⟨e, by rw [hoth r h1]; exact hr, by omega⟩
    have hback : ∀ r e, (ds.getD r none = some e ∨ pushM m l.to (k + l.wt) r = some e) → (ds.getD r none = some e ∨ m r = some e) ∨ (r = l.to ∧ e = k + l.wt) := by
      intro r e hr
      rcases hr with hr | hr
      · exact .inl (.inl hr)
      · by_cases h1 : r = l.to
        · subst h1
          rw [he0] at hr
          simp at hr
          subst hr
          rcases hor with h2 | h2
          · exact .inl (.inr h2)
          · exact .inr ⟨rfl, h2⟩
        · rw [hoth r h1] at hr
          exact .inl (.inr hr)
    refine ⟨h.len, ?_, .inl hsrc, ?_, ?_, ?_, ?_⟩
    · intro x d hx
      have h1 : x ≠ l.to := by rintro rfl; rw [hto] at hx; cases hx
      rw [hoth x h1]
      exact h.dis x d hx
    · intro x d l' hx hl' hp
      rcases hp with hp | ⟨rfl, rfl⟩
      · obtain ⟨e, h1, h2⟩ := h.fwd x d l' hx hl' hp
        obtain ⟨e', h3, h4⟩ := hstay _ _ h1
        exact ⟨e', h3, by omega⟩
      · rw [hid] at hx
        simp at hx
        exact ⟨e0, .inr he0, by omega⟩
    · intro r e hr he
      rcases hback r e he with h1 | ⟨rfl, rfl⟩
      · exact h.bwd r e hr h1
      · exact ⟨id, k, l, hidn, hid, hl, rfl, rfl⟩
    · intro r e he
      rcases hback r e he with h1 | ⟨rfl, rfl⟩
      · exact h.bnd r e h1
      · refine ⟨by omega, ?_, hton⟩
        have : (id : Int) + 1 ≤ l.to := by omega
        omega
    · intro x d r e hx hr
      rcases hback r e (.inr hr) with h1 | ⟨rfl, rfl⟩
      · rcases h1 with h1 | h1
        · have := h.dis r e h1
          have hne : r ≠ l.to := by rintro rfl; rw [hto] at h1; cases h1
          rw [hoth r hne, this] at hr; cases hr
        · exact h.ord x d r e hx h1
      · have := hmax x d hx
        omega
theorem CInv.links (ok : HalfOk v.n v.first v.links) {m : Nat → Option Int} {ds : List (Option Int)} {id : Nat} {k : Int} (h : CInv v s m ds (fun x _ => x ≠ id)) (hid : ds.getD id none = some k) (hmax : ∀ x d, ds.getD x none = some d → d ≤ k) (j : Nat) :
    CInv v s (((seg v.first v.links id).take j).foldl (relax1 ds k) m) ds (fun x l => x ≠ id ∨ l ∈ (seg v.first v.links id).take j) := by
  induction j with
  | zero => exact ⟨h.len, h.dis, h.src, fun x d l hx hl hp => h.fwd x d l hx hl (by simpa using hp), h.bwd, h.bnd, h.ord⟩
  | succ j ih =>
    by_cases hj : j < (seg v.first v.links id).length
    · rw [List.take_succ_eq_append_getElem hj, List.foldl_append]
      have := ih.link ok hid hmax (List.getElem_mem hj)
      refine ⟨this.len, this.dis, this.src, fun x d l hx hl hp => this.fwd x d l hx hl ?_, this.bwd, this.bnd, this.ord⟩
      rcases hp with hp | hp
      · exact .inl (.inl hp)
      · rcases List.mem_append.1 hp with hp | hp
        · exact .inl (.inr hp)
        · by_cases hxi : x = id
          · exact .inr ⟨hxi, by simpa using hp⟩
          · exact .inl (.inl hxi)
    · rw [List.take_of_length_le (by omega)]
      rw [List.take_of_length_le (by omega)] at ih
      exact ih
theorem CInv.next (ok : HalfOk v.n v.first v.links) {m : Nat → Option Int} {ds : List (Option Int)} {id : Nat} {k : Int} (h : CInv v s m ds (fun x _ => x ≠ id)) (hid : ds.getD id none = some k) (hmax : ∀ x d, ds.getD x none = some d → d ≤ k) :
    CInv v s ((seg v.first v.links id).foldl (relax1 ds k) m) ds (fun _ _ => True) := by
  have := h.links ok hid hmax (seg v.first v.links id).length
  rw [List.take_length] at this
  exact ⟨this.len, this.dis, this.src, fun x d l hx hl _ => this.fwd x d l hx hl (by
    by_cases hxi : x = id
    · subst hxi; exact .inr hl
    · exact .inl hxi), this.bwd, this.bnd, this.ord⟩
theorem CInv.done {m : Nat → Option Int} {ds : List (Option Int)} (h : CInv v s m ds (fun _ _ => True)) (hm : ∀ x, m x = none) : IsD v.n v.first v.links s (fun r => ds.getD r none) := by
  refine ⟨?_, ?_, ?_, fun r e he => (h.bnd r e (.inl he)).2.2⟩
  · rcases h.src with h1 | ⟨h1, _⟩
    · exact h1
    · rw [hm] at h1; cases h1
  · intro x d l _ hx hl
    obtain ⟨e, he, hle⟩ := h.fwd x d l hx hl trivial
    rcases he with he | he
    · exact ⟨e, he, hle⟩
    · rw [hm] at he; cases he
  · intro r e hr he
    exact h.bwd r e hr (.inl he)
end
end Go.Proofs.YtblkkjfpggcgfaaGreatDoor
