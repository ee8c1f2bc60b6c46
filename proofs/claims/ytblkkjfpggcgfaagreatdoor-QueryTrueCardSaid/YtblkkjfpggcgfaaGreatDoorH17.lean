/- The contracts of query's Distance and Meet. -/
import Derived.Test.YtblkkjfpggcgfaaGreatDoorH16
import Derived.Test.YtblkkjfpggcgfaaGreatDoorH15
import Derived.Laws.Cover3
import Derived.Laws.StructEq
namespace Go.Proofs.YtblkkjfpggcgfaaGreatDoor
open Go.ChangeShapes Go.WideShapes Go.ChangeAt Go.RowKit Go.Joins Go.Deep
theorem meet_any (A : HA) (h : HierD) (s t : Int) (w : World) (see : HSee w A h) (hs64 : s ≤ 9223372036854775807) (ht64 : t ≤ 9223372036854775807) : Calls Tryz.prog 20 #[hierVal A h, .int .i64 s, .int .i64 t] w (MeetPost h s t w) := by
  by_cases hc : checkErr h = .nil
  · by_cases hk : nodesErr h.node.length s t = .nil
    · have hr : (0 ≤ s ∧ s < h.node.length) ∧ 0 ≤ t ∧ t < h.node.length := by
        unfold nodesErr at hk
        split at hk
        · cases hk
        split at hk
        · cases hk
        omega
      obtain ⟨a, rfl⟩ : ∃ a : Nat, s = a := ⟨s.toNat, by omega⟩
      obtain ⟨b, rfl⟩ : ∃ b : Nat, t = b := ⟨t.toNat, by omega⟩
      exact meet_walk A h a b w see hc (by omega) (by omega)
    · exact meet_nodes A h s t w see hc hk hs64 ht64
  · exact meet_form A h s t w see hc
def DistPost (h : HierD) (s t : Int) (w : World) (e : Ending) (w' : World) : Prop :=
  ∃ r d x v, e = .returned (.tuple #[.int .u64 d, v]) ∧ ErrIs w' v x ∧ MeetIs h s t r d x ∧ Below w.heap.size w w'
def RankPost (h : HierD) (s t : Int) (w : World) (e : Ending) (w' : World) : Prop :=
  ∃ (r : Nat) (d : Int) (x : EV) (v : Value), e = .returned (.tuple #[.int .i64 (r : Int), v]) ∧ ErrIs w' v x ∧ MeetIs h s t r d x ∧ Below w.heap.size w w'
set_option maxRecDepth 100000 in
theorem distance_any (A : HA) (h : HierD) (s t : Int) (w : World) (see : HSee w A h) (hs64 : s ≤ 9223372036854775807) (ht64 : t ≤ 9223372036854775807) : Calls Tryz.prog 7 #[hierVal A h, .int .i64 s, .int .i64 t] w (DistPost h s t w) := by
  have SEE := Lib.hid see
  clear see
  unfold hierVal
  go_enter Tryz.func7, Tryz.ntmps7
  go_wp2_with fail
  refine (meet_any A h s t _ (SEE.out.below ((Below.refl _ _).alloc (Nat.le_refl _) _)) hs64 ht64).mono ?_
  rintro e w1 ⟨r, d, x, v, rfl, hv, hm, hb⟩
  unfold bestVal
  have HV := Lib.hid hv
  have HM := Lib.hid hm
  have HB := Lib.hid (((Below.refl w.heap.size w).alloc (Nat.le_refl _) _).trans (hb.mono (by simp)))
  clear hv hm hb
  go_wp2
  go_returns
  exact ⟨r, d, x, _, rfl, HV.out.alloc _, HM.out, HB.out.alloc HB.out.size _⟩
set_option maxRecDepth 100000 in
theorem qmeet_any (A : HA) (h : HierD) (s t : Int) (w : World) (see : HSee w A h) (hs64 : s ≤ 9223372036854775807) (ht64 : t ≤ 9223372036854775807) : Calls Tryz.prog 14 #[hierVal A h, .int .i64 s, .int .i64 t] w (RankPost h s t w) := by
  have SEE := Lib.hid see
  clear see
  unfold hierVal
  go_enter Tryz.func14, Tryz.ntmps14
  go_wp2_with fail
  refine (meet_any A h s t _ (SEE.out.below ((Below.refl _ _).alloc (Nat.le_refl _) _)) hs64 ht64).mono ?_
  rintro e w1 ⟨r, d, x, v, rfl, hv, hm, hb⟩
  unfold bestVal
  have HV := Lib.hid hv
  have HM := Lib.hid hm
  have HB := Lib.hid (((Below.refl w.heap.size w).alloc (Nat.le_refl _) _).trans (hb.mono (by simp)))
  clear hv hm hb
  go_wp2
  go_returns
  exact ⟨r, d, x, _, rfl, HV.out.alloc _, HM.out, HB.out.alloc HB.out.size _⟩
end Go.Proofs.YtblkkjfpggcgfaaGreatDoor
/- The contract of Turn's closure that turns a list of links. -/
namespace Go.Proofs.YtblkkjfpggcgfaaGreatDoor
open Go.ChangeShapes Go.WideShapes Go.ChangeAt Go.RowKit Go.Joins Go.Deep
end Go.Proofs.YtblkkjfpggcgfaaGreatDoor
/- The contract of slices.Clone at lists of words. -/
namespace Go.Proofs.YtblkkjfpggcgfaaGreatDoor
open Go.ChangeShapes Go.WideShapes Go.ChangeAt Go.RowKit Go.Joins Go.Deep
def SForm (ao : Option Addr) (cap : Nat) : Prop := (ao = none ∧ cap = 0) ∨ ∃ b o, ao = some ⟨b, o, none⟩
end Go.Proofs.YtblkkjfpggcgfaaGreatDoor
/- Each of a hierarchy's slices is nil, or has a place. -/
namespace Go.Proofs.YtblkkjfpggcgfaaGreatDoor
structure HForm (A : HA) : Prop where
  f0 : SForm A.a0 A.c0
  f1 : SForm A.a1 A.c1
  f2 : SForm A.a2 A.c2
  f3 : SForm A.a3 A.c3
  f4 : SForm A.a4 A.c4
end Go.Proofs.YtblkkjfpggcgfaaGreatDoor
namespace Go.Proofs.YtblkkjfpggcgfaaGreatDoor
open Go.ChangeShapes Go.WideShapes Go.ChangeAt Go.RowKit Go.Joins Go.Deep
theorem See.of_cells {α : Type} {w : World} {b : Nat} {t : TypeId} {f : α → List Value} {sz : Nat} {l : List α} (hf : ∀ x, (f x).length = sz) (h : Cells w b t (l.flatMap f)) (hl : l.length ≤ maxLen) : See w (some ⟨b, 0, none⟩) l.length f sz l := by
  refine ⟨Nat.le_refl _, hl, fun i x hx => ⟨b, 0, rfl, fun j u hu => ?_⟩⟩
  have hj : j < sz := by rw [← hf x]; exact (List.getElem?_eq_some_iff.1 hu).1
  have := flat_get hf l i j hj
  rw [hx] at this
  rw [Nat.zero_add]
  exact h.cell (this.trans hu)
theorem Cells.new' {w : World} {b : Nat} (hb : w.heap.size = b) (t : TypeId) (l : List Value) : Cells (w.alloc (.cells l.toArray t)) b t l := hb ▸ Cells.new w t l
theorem results_c {P : Program} {fn : Func} {p : Tmp} {ty : TypeId} (h : fn.results = #[.cell p ty]) (tmps : Array Value) (w : World) (g : Nat) (t : TypeId) (cs : List Value) (d : TypeDesc)
    (hp : tmps.getD p undef = .pointer (some ⟨g, 0, none⟩)) (hg : Cells w g t cs)
    (hu : P.underlying ty = some d) (hd : (match d with | .struct _ | .array _ _ => true | _ => false) = true) (hi : (P.info? ty).map (·.size) = some cs.length) :
    (results fn tmps).run P w = .ok (.agg cs.toArray) w := by
  have hp' : tmps[p]?.getD undef = .pointer (some ⟨g, 0, none⟩) := by simpa using hp
  have hr := run_loadVar_row (P := P) w g t ty cs.toArray (0, 0) d hg hu hd (by simpa using hi)
  simp [results, h, hp', asAddr, hr]
def HierNew (h : HierD) (w : World) (e : Ending) (w' : World) : Prop := ∃ A, e = .returned (hierVal A h) ∧ HSee w' A h ∧ HForm A ∧ Below w.heap.size w w'
def TrueNew (w : World) (e : Ending) (w' : World) : Prop := e = .returned (.bool true) ∧ Below w.heap.size w w'
theorem hier_five {w : World} {b : Nat} {t : TypeId} {A : HA} {h : HierD} (c : Cells w b t (hierCells A h)) :
    w.cell? ⟨b, 0, none⟩ = some (.slice A.a0 h.node.length A.c0) ∧ w.cell? ⟨b, 1, none⟩ = some (.slice A.a1 h.upF.length A.c1) ∧ w.cell? ⟨b, 2, none⟩ = some (.slice A.a2 h.up.length A.c2) ∧
    w.cell? ⟨b, 3, none⟩ = some (.slice A.a3 h.dnF.length A.c3) ∧ w.cell? ⟨b, 4, none⟩ = some (.slice A.a4 h.dn.length A.c4) :=
  ⟨c.cell rfl, c.cell rfl, c.cell rfl, c.cell rfl, c.cell rfl⟩
def CountPost (h : HierD) (w : World) (e : Ending) (w' : World) : Prop := ∃ c : Int, e = .returned (.int .i64 c) ∧ c = wrap64 ((h.up.length : Int) + (h.dn.length : Int)) ∧ Below w.heap.size w w'
set_option maxRecDepth 100000 in
theorem count_any (A : HA) (h : HierD) (w : World) : Calls Tryz.prog 15 #[hierVal A h] w (CountPost h w) := by
  unfold hierVal
  go_enter Tryz.func15, Tryz.ntmps15
  go_wp2_with fail
  go_returns
  exact ⟨_, rfl, rfl, (Below.refl _ _).alloc (Nat.le_refl _) _⟩
set_option maxRecDepth 100000 in
theorem three_any (w : World) : Calls Tryz.prog 13 #[] w (HierNew threeD w) := by
  go_enter Tryz.func13, Tryz.ntmps13
  go_wp2
  have c0 := (((((Cells.new w 25 [.slice (some ⟨w.heap.size + 1, 0, none⟩) 3 3, .slice (some ⟨w.heap.size + 1 + 1, 0, none⟩) 4 4, .slice (some ⟨w.heap.size + 1 + 1 + 1, 0, none⟩) 2 2, .slice (some ⟨w.heap.size + 1 + 1 + 1 + 1, 0, none⟩) 4 4, .slice (some ⟨w.heap.size + 1 + 1 + 1 + 1 + 1, 0, none⟩) 1 1]).alloc
    (.cells ([1, 0, 2].flatMap u32Cells).toArray 61)).alloc (.cells ([0, 1, 2, 2].flatMap u32Cells).toArray 61)).alloc (.cells (threeD.up.flatMap linkCells).toArray 63)).alloc (.cells ([0, 1, 1, 1].flatMap u32Cells).toArray 61)).alloc (.cells (threeD.dn.flatMap linkCells).toArray 63)
  have c1 := ((((Cells.new' (w := w.alloc (.cells #[.slice (some ⟨w.heap.size + 1, 0, none⟩) 3 3, .slice (some ⟨w.heap.size + 1 + 1, 0, none⟩) 4 4, .slice (some ⟨w.heap.size + 1 + 1 + 1, 0, none⟩) 2 2, .slice (some ⟨w.heap.size + 1 + 1 + 1 + 1, 0, none⟩) 4 4, .slice (some ⟨w.heap.size + 1 + 1 + 1 + 1 + 1, 0, none⟩) 1 1] 25)) (b := w.heap.size + 1) (by simp) 61 ([1, 0, 2].flatMap u32Cells)).alloc
    (.cells ([0, 1, 2, 2].flatMap u32Cells).toArray 61)).alloc (.cells (threeD.up.flatMap linkCells).toArray 63)).alloc (.cells ([0, 1, 1, 1].flatMap u32Cells).toArray 61)).alloc (.cells (threeD.dn.flatMap linkCells).toArray 63)
  have c2 := (((Cells.new' (w := (w.alloc (.cells #[.slice (some ⟨w.heap.size + 1, 0, none⟩) 3 3, .slice (some ⟨w.heap.size + 1 + 1, 0, none⟩) 4 4, .slice (some ⟨w.heap.size + 1 + 1 + 1, 0, none⟩) 2 2, .slice (some ⟨w.heap.size + 1 + 1 + 1 + 1, 0, none⟩) 4 4, .slice (some ⟨w.heap.size + 1 + 1 + 1 + 1 + 1, 0, none⟩) 1 1] 25)).alloc
    (.cells ([1, 0, 2].flatMap u32Cells).toArray 61)) (b := w.heap.size + 1 + 1) (by simp) 61 ([0, 1, 2, 2].flatMap u32Cells)).alloc (.cells (threeD.up.flatMap linkCells).toArray 63)).alloc (.cells ([0, 1, 1, 1].flatMap u32Cells).toArray 61)).alloc (.cells (threeD.dn.flatMap linkCells).toArray 63)
  have c3 := ((Cells.new' (w := ((w.alloc (.cells #[.slice (some ⟨w.heap.size + 1, 0, none⟩) 3 3, .slice (some ⟨w.heap.size + 1 + 1, 0, none⟩) 4 4, .slice (some ⟨w.heap.size + 1 + 1 + 1, 0, none⟩) 2 2, .slice (some ⟨w.heap.size + 1 + 1 + 1 + 1, 0, none⟩) 4 4, .slice (some ⟨w.heap.size + 1 + 1 + 1 + 1 + 1, 0, none⟩) 1 1] 25)).alloc
    (.cells ([1, 0, 2].flatMap u32Cells).toArray 61)).alloc (.cells ([0, 1, 2, 2].flatMap u32Cells).toArray 61)) (b := w.heap.size + 1 + 1 + 1) (by simp) 63 (threeD.up.flatMap linkCells)).alloc (.cells ([0, 1, 1, 1].flatMap u32Cells).toArray 61)).alloc (.cells (threeD.dn.flatMap linkCells).toArray 63)
  have c4 := (Cells.new' (w := (((w.alloc (.cells #[.slice (some ⟨w.heap.size + 1, 0, none⟩) 3 3, .slice (some ⟨w.heap.size + 1 + 1, 0, none⟩) 4 4, .slice (some ⟨w.heap.size + 1 + 1 + 1, 0, none⟩) 2 2, .slice (some ⟨w.heap.size + 1 + 1 + 1 + 1, 0, none⟩) 4 4, .slice (some ⟨w.heap.size + 1 + 1 + 1 + 1 + 1, 0, none⟩) 1 1] 25)).alloc
    (.cells ([1, 0, 2].flatMap u32Cells).toArray 61)).alloc (.cells ([0, 1, 2, 2].flatMap u32Cells).toArray 61)).alloc (.cells (threeD.up.flatMap linkCells).toArray 63)) (b := w.heap.size + 1 + 1 + 1 + 1) (by simp) 61 ([0, 1, 1, 1].flatMap u32Cells)).alloc (.cells (threeD.dn.flatMap linkCells).toArray 63)
  have c5 := Cells.new' (w := ((((w.alloc (.cells #[.slice (some ⟨w.heap.size + 1, 0, none⟩) 3 3, .slice (some ⟨w.heap.size + 1 + 1, 0, none⟩) 4 4, .slice (some ⟨w.heap.size + 1 + 1 + 1, 0, none⟩) 2 2, .slice (some ⟨w.heap.size + 1 + 1 + 1 + 1, 0, none⟩) 4 4, .slice (some ⟨w.heap.size + 1 + 1 + 1 + 1 + 1, 0, none⟩) 1 1] 25)).alloc
    (.cells ([1, 0, 2].flatMap u32Cells).toArray 61)).alloc (.cells ([0, 1, 2, 2].flatMap u32Cells).toArray 61)).alloc (.cells (threeD.up.flatMap linkCells).toArray 63)).alloc (.cells ([0, 1, 1, 1].flatMap u32Cells).toArray 61)) (b := w.heap.size + 1 + 1 + 1 + 1 + 1) (by simp) 63 (threeD.dn.flatMap linkCells)
  have hsz : (Tryz.prog.info? 25).map (·.size) = some 5 := by kernel_rfl
  refine bodyPost_ret (results_c rfl _ _ w.heap.size 25 [.slice (some ⟨w.heap.size + 1, 0, none⟩) 3 3, .slice (some ⟨w.heap.size + 1 + 1, 0, none⟩) 4 4, .slice (some ⟨w.heap.size + 1 + 1 + 1, 0, none⟩) 2 2, .slice (some ⟨w.heap.size + 1 + 1 + 1 + 1, 0, none⟩) 4 4, .slice (some ⟨w.heap.size + 1 + 1 + 1 + 1 + 1, 0, none⟩) 1 1] _ rfl c0 Tryz.underlying25 rfl (by rw [hsz]; rfl)) rfl ?_
  refine ⟨⟨some ⟨w.heap.size + 1, 0, none⟩, some ⟨w.heap.size + 1 + 1, 0, none⟩, some ⟨w.heap.size + 1 + 1 + 1, 0, none⟩, some ⟨w.heap.size + 1 + 1 + 1 + 1, 0, none⟩, some ⟨w.heap.size + 1 + 1 + 1 + 1 + 1, 0, none⟩, 3, 4, 2, 4, 1⟩, rfl,
    ⟨See.of_cells u32Cells_len c1 (by simp [maxLen]), See.of_cells u32Cells_len c2 (by simp [maxLen]), See.of_cells linkCells_len c3 (by simp [maxLen, threeD]), See.of_cells u32Cells_len c4 (by simp [maxLen]), See.of_cells linkCells_len c5 (by simp [maxLen, threeD]), by decide, by decide, by decide, ?_, ?_⟩, ⟨.inr ⟨_, _, rfl⟩, .inr ⟨_, _, rfl⟩, .inr ⟨_, _, rfl⟩, .inr ⟨_, _, rfl⟩, .inr ⟨_, _, rfl⟩⟩, by go_grown⟩
  · intro l hl
    simp only [threeD, List.mem_cons, List.not_mem_nil, or_false] at hl
    rcases hl with rfl | rfl <;> simp [LinkD.ok]
  · intro l hl
    simp only [threeD, List.mem_cons, List.not_mem_nil, or_false] at hl
    rcases hl with rfl
    simp [LinkD.ok]
set_option maxRecDepth 100000 in
theorem awake_any (w : World) : Calls Tryz.prog 4 #[] w (TrueNew w) := by
  go_enter Tryz.func4, Tryz.ntmps4
  go_wp2_with fail
  refine (three_any _).mono ?_
  rintro e w1 ⟨A1, rfl, s1, -, b1⟩
  have B1 := Lib.hid b1
  have S1 := Lib.hid s1
  clear b1 s1
  go_wp2_with fail
  refine (distance_any A1 threeD 0 2 _ S1.out (by omega) (by omega)).mono ?_
  rintro e w2 ⟨r, d, x, v, rfl, hv, hm, hb⟩
  obtain ⟨-, rfl, rfl⟩ := three_02 hm
  obtain rfl := hv.nilv rfl
  have B2 := Lib.hid (B1.out.trans (hb.mono B1.out.size))
  clear hb hv hm B1 S1
  go_wp2_with fail
  refine (three_any _).mono ?_
  rintro e w3 ⟨A3, rfl, s3, -, b3⟩
  have B3 := Lib.hid (B2.out.trans (b3.mono B2.out.size))
  have S3 := Lib.hid s3
  clear b3 s3 B2
  go_wp2_with fail
  refine (qmeet_any A3 threeD 0 1 _ S3.out (by omega) (by omega)).mono ?_
  rintro e w4 ⟨r, d, x, v, rfl, hv, hm, hb⟩
  obtain ⟨rfl, rfl, rfl⟩ := three_01 hm
  obtain rfl := hv.nilv rfl
  have B4 := Lib.hid (B3.out.trans (hb.mono B3.out.size))
  clear hb hv hm B3 S3
  go_wp2
  go_returns
  exact ⟨rfl, B4.out⟩
theorem results_e {P : Program} {fn : Func} {p : Tmp} {ty : TypeId} (h : fn.results = #[.cell p ty]) (tmps : Array Value) (w : World) (g : Nat) (t : TypeId) (cs : List Value) (d : TypeDesc)
    (hp : tmps.getD p undef = .pointer (some ⟨g, 0, none⟩)) (hg : Cells w g t cs)
    (hu : P.underlying ty = some d) (hd : (match d with | .struct _ | .array _ _ => true | _ => false) = true) (hi : (P.info? ty).map (·.size) = some cs.length) :
    (results fn tmps).run P w = .ok (.agg cs.toArray) w := by
  have hp' : tmps[p]?.getD undef = .pointer (some ⟨g, 0, none⟩) := by simpa using hp
  have hr := run_loadVar_row (P := P) w g t ty cs.toArray (0, 0) d hg hu hd (by simpa using hi)
  simp [results, h, hp', asAddr, hr]
theorem cells_at {w : World} {b : Nat} (hb : w.heap.size = b) (t : TypeId) (l : List Value) : Cells (w.alloc (.cells l.toArray t)) b t l := hb ▸ Cells.new w t l
def ErrV (w : World) (v : Value) : EV → Prop
  | .nil => v = .agg #[.int .i64 0, .slice none 0 0]
  | .code n => v = .agg #[.int .i64 n, .slice none 0 0]
  | .at k i n => ∃ g, v = .agg #[.int .i64 n, .slice (some ⟨g, 0, none⟩) 1 1] ∧ Cells w g 93 [.int .i64 k, .int .i64 i]
theorem ErrV.below {w w' : World} {v : Value} {x : EV} (h : ErrV w v x) (o : Below w.heap.size w w') : ErrV w' v x := by
  cases x with
  | nil => exact h
  | code n => exact h
  | «at» k i n => obtain ⟨b, e, hc⟩ := h; exact ⟨b, e, hc.below o hc.lt⟩
def EV.pos : EV → Prop
  | .nil => True
  | .code n => 1 ≤ n ∧ n ≤ 20
  | .at _ _ n => 1 ≤ n ∧ n ≤ 20
theorem ErrV.form {w : World} {v : Value} {x : EV} (h : ErrV w v x) : ∃ (c : Int) (ao : Option Addr) (n cap : Nat), v = .agg #[.int .i64 c, .slice ao n cap] := by
  cases x with
  | nil => exact ⟨_, _, _, _, h⟩
  | code n => exact ⟨_, _, _, _, h⟩
  | «at» k i n => obtain ⟨b, e, hc⟩ := h; exact ⟨_, _, _, _, e⟩
theorem ErrV.parts {w : World} {c : Int} {ao : Option Addr} {n cap : Nat} {x : EV} (h : ErrV w (.agg #[.int .i64 c, .slice ao n cap]) x) (hp : x.pos) : (x = .nil ∧ c = 0 ∧ n = 0) ∨ (x ≠ .nil ∧ 1 ≤ c ∧ c ≤ 20) := by
  cases x with
  | nil =>
    simp only [ErrV] at h
    simp at h
    exact .inl ⟨rfl, h.1, h.2.2.1⟩
  | code m =>
    simp only [ErrV] at h
    simp at h
    simp only [EV.pos] at hp
    exact .inr ⟨by simp, by omega, by omega⟩
  | «at» k i m =>
    obtain ⟨b, e, -⟩ := h
    simp at e
    simp only [EV.pos] at hp
    exact .inr ⟨by simp, by omega, by omega⟩
theorem EV.isNil_iff {x : EV} : x.isNil = true ↔ x = .nil := by cases x <;> simp [EV.isNil]
def BoolIs (b : Bool) (w : World) (e : Ending) (w' : World) : Prop := e = .returned (.bool b) ∧ Below w.heap.size w w'
set_option maxRecDepth 100000 in
theorem bad_any (v : Value) (x : EV) (w : World) (h : ErrV w v x) (hp : x.pos) : Calls Tryz.prog 32 #[v] w (BoolIs (!x.isNil) w) := by
  obtain ⟨c, ao, n, cap, rfl⟩ := h.form
  rcases h.parts hp with ⟨rfl, rfl, rfl⟩ | ⟨h1, h2, -⟩
  · clear h hp
    go_enter Tryz.func32, Tryz.ntmps32
    go_wp2
    go_returns
    exact ⟨rfl, by go_grown⟩
  · have hb : x.isNil = false := by rw [← Bool.not_eq_true, EV.isNil_iff]; exact h1
    have d1 : (c == 0) = false := by simp; omega
    rw [hb]
    clear h hp h1 hb
    go_enter Tryz.func32, Tryz.ntmps32
    go_wp2
    go_returns
    exact ⟨rfl, by go_grown⟩
theorem Tryz.sizeErr : (Tryz.prog.info? 51).map (·.size) = some 2 := by kernel_rfl
def ErrNew (x : EV) (w : World) (e : Ending) (w' : World) : Prop := ∃ v, e = .returned v ∧ ErrV w' v x ∧ Below w.heap.size w w'
set_option maxRecDepth 100000 in
theorem e_any (n : Int) (w : World) : Calls Tryz.prog 12 #[.int .i64 n] w (ErrNew (.code n) w) := by
  go_enter Tryz.func12, Tryz.ntmps12
  go_wp2
  refine bodyPost_ret (results_e rfl _ _ w.heap.size 51 [.int .i64 n, .slice none 0 0] _ rfl (Cells.new w _ _) Tryz.underlying51 rfl (by rw [Tryz.sizeErr]; rfl)) rfl ?_
  exact ⟨_, rfl, rfl, by go_grown⟩
end Go.Proofs.YtblkkjfpggcgfaaGreatDoor
/- The reference's Link, Plain and EndOf. -/
namespace Go.Proofs.YtblkkjfpggcgfaaGreatDoor
open Go.ChangeShapes Go.WideShapes Go.ChangeAt Go.RowKit Go.Joins Go.Deep
def linkAt (h : HierD) (i : Nat) : LinkD := if i < h.up.length then h.up.getD i default else h.dn.getD (i - h.up.length) default
def i64Cells (n : Nat) : List Value := [.int .i64 n]
theorem i64Cells_len (n : Nat) : (i64Cells n).length = 1 := rfl
theorem ups_links {h : HierD} (u : FirstsOk h.node.length h.upF h.up.length) : ∀ n, n ≤ h.node.length → (((List.range n).flatMap (endsUp h.upF h.up)).map (·.link)) = h.up.take (h.upF.getD n 0) := by
  intro n
  induction n with
  | zero => intro _; rw [u.zero]; simp
  | succ n ih =>
    intro hn
    rw [List.range_succ, List.flatMap_append, List.map_append, ih (by omega)]
    simp only [List.flatMap_cons, List.flatMap_nil, List.append_nil, endsUp, List.map_map]
    have hm := u.mono n (by omega)
    have : (List.map ((fun x => x.link) ∘ fun l => (⟨l, n, l.to, n⟩ : EndD)) (seg h.upF h.up n)) = seg h.upF h.up n := by
      rw [show ((fun x : EndD => x.link) ∘ fun l => (⟨l, n, l.to, n⟩ : EndD)) = id from rfl, List.map_id]
    rw [this]
    unfold seg
    have h2 := List.take_append_drop (h.upF.getD n 0) (h.up.take (h.upF.getD (n + 1) 0))
    rw [List.take_take, Nat.min_eq_left hm] at h2
    exact h2
theorem dns_links {h : HierD} (u : FirstsOk h.node.length h.dnF h.dn.length) : ∀ n, n ≤ h.node.length → (((List.range n).flatMap (endsDn h.dnF h.dn)).map (·.link)) = h.dn.take (h.dnF.getD n 0) := by
  intro n
  induction n with
  | zero => intro _; rw [u.zero]; simp
  | succ n ih =>
    intro hn
    rw [List.range_succ, List.flatMap_append, List.map_append, ih (by omega)]
    simp only [List.flatMap_cons, List.flatMap_nil, List.append_nil, endsDn, List.map_map]
    have hm := u.mono n (by omega)
    have : (List.map ((fun x => x.link) ∘ fun l => (⟨l, l.to, n, n⟩ : EndD)) (seg h.dnF h.dn n)) = seg h.dnF h.dn n := by
      rw [show ((fun x : EndD => x.link) ∘ fun l => (⟨l, l.to, n, n⟩ : EndD)) = id from rfl, List.map_id]
    rw [this]
    unfold seg
    have h2 := List.take_append_drop (h.dnF.getD n 0) (h.dn.take (h.dnF.getD (n + 1) 0))
    rw [List.take_take, Nat.min_eq_left hm] at h2
    exact h2
theorem ends_links {h : HierD} (u : FirstsOk h.node.length h.upF h.up.length) (d : FirstsOk h.node.length h.dnF h.dn.length) : (endsOf h).map (·.link) = h.up ++ h.dn := by
  unfold endsOf
  rw [List.map_append, ups_links u _ (Nat.le_refl _), dns_links d _ (Nat.le_refl _), u.last, d.last, List.take_length, List.take_length]
theorem ends_link {h : HierD} (u : FirstsOk h.node.length h.upF h.up.length) (d : FirstsOk h.node.length h.dnF h.dn.length) (i : Nat) (hi : i < h.up.length + h.dn.length) : ((endsOf h).getD i default).link = linkAt h i := by
  have hl := endsOf_length u d
  have h1 : ((endsOf h).map (·.link)).getD i default = ((endsOf h).getD i default).link := getD_map_lt _ _ _ _ _ (by omega)
  rw [← h1, ends_links u d]
  unfold linkAt
  split
  · rename_i h2; exact getD_app_left _ _ _ _ h2
  · rename_i h2; exact getD_app_right _ _ _ _ (by omega)
theorem ends_tail {h : HierD} (u : FirstsOk h.node.length h.upF h.up.length) (d : FirstsOk h.node.length h.dnF h.dn.length) (i : Nat) (hi : i < h.up.length + h.dn.length) : let x := (endsOf h).getD i default
    if i < h.up.length then x.tail = x.rank ∧ x.head = x.link.to else x.tail = x.link.to ∧ x.head = x.rank := by
  have hl := endsOf_length u d
  have lu := endsUp_length u _ (Nat.le_refl _)
  rw [u.last] at lu
  simp only
  split
  · rename_i h1
    unfold endsOf
    rw [getD_app_left _ _ _ _ (by omega)]
    have hm : ((List.range h.node.length).flatMap (endsUp h.upF h.up)).getD i default ∈ (List.range h.node.length).flatMap (endsUp h.upF h.up) := by
      rw [List.getD_eq_getElem?_getD, List.getElem?_eq_getElem (by omega)]
      exact List.getElem_mem _
    obtain ⟨r, -, hr⟩ := List.mem_flatMap.1 hm
    simp only [endsUp, List.mem_map] at hr
    obtain ⟨l, -, he⟩ := hr
    rw [← he]
    exact ⟨rfl, rfl⟩
  · rename_i h1
    unfold endsOf
    rw [getD_app_right _ _ _ _ (by omega)]
    have ld := endsDn_length d _ (Nat.le_refl _)
    rw [d.last] at ld
    have hm : ((List.range h.node.length).flatMap (endsDn h.dnF h.dn)).getD (i - ((List.range h.node.length).flatMap (endsUp h.upF h.up)).length) default ∈ (List.range h.node.length).flatMap (endsDn h.dnF h.dn) := by
      rw [List.getD_eq_getElem?_getD, List.getElem?_eq_getElem (by omega)]
      exact List.getElem_mem _
    obtain ⟨r, -, hr⟩ := List.mem_flatMap.1 hm
    simp only [endsDn, List.mem_map] at hr
    obtain ⟨l, -, he⟩ := hr
    rw [← he]
    exact ⟨rfl, rfl⟩
theorem ErrV.put {w : World} {x : EV} {B : Nat} {l : List Value} {c : Int} {ao : Option Addr} {n cap : Nat} (h : ErrV w (.agg #[.int .i64 c, .slice ao n cap]) x) (hc : Cells w B 51 l) (a b : Value) :
    ErrV ((w.setCell ⟨B, 0, none⟩ a).setCell ⟨B, 1, none⟩ b) (.agg #[.int .i64 c, .slice ao n cap]) x := by
  cases x with
  | nil => exact h
  | code n => exact h
  | «at» k i n =>
    obtain ⟨g, e, hg⟩ := h
    have hne : g ≠ B := by
      rintro rfl
      have := (show w.heap[g]? = _ from hg).symm.trans hc
      simp at this
    exact ⟨g, e, (hg.other (a := ⟨B, 0, none⟩) hne _).other (a := ⟨B, 1, none⟩) hne _⟩
def errZero : List Value := [.int .i64 0, .slice none 0 0]
end Go.Proofs.YtblkkjfpggcgfaaGreatDoor
/- The reference's ranks of all links. -/
namespace Go.Proofs.YtblkkjfpggcgfaaGreatDoor
open Go.ChangeShapes Go.WideShapes Go.ChangeAt Go.RowKit Go.Joins Go.Deep
theorem seg_length {n : Nat} {first : List Nat} {links : List LinkD} (u : FirstsOk n first links.length) (r : Nat) (hr : r < n) : (seg first links r).length = first.getD (r + 1) 0 - first.getD r 0 := by
  have h2 := u.le (r + 1) (by omega)
  unfold seg
  rw [List.length_drop, List.length_take]
  omega
end Go.Proofs.YtblkkjfpggcgfaaGreatDoor
/- The reference's EndOf. -/
namespace Go.Proofs.YtblkkjfpggcgfaaGreatDoor
open Go.ChangeShapes Go.WideShapes Go.ChangeAt Go.RowKit Go.Joins Go.Deep
end Go.Proofs.YtblkkjfpggcgfaaGreatDoor
