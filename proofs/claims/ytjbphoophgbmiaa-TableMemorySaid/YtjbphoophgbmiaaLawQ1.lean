/- The example of three nodes; whether a hierarchy has few links; the law's waking. -/
import Derived.Test.YtjbphoophgbmiaaForm
import Derived.Test.YtjbphoophgbmiaaDistP
namespace Go.Proofs.Ytjbphoophgbmiaa
open Go.ChangeShapes Go.WideShapes Go.ChangeAt Go.RowKit Go.Joins Go.Deep

/-- A block that is a slice's from its head on. -/
theorem See.of_cells {α : Type} {w : World} {b : Nat} {t : TypeId} {f : α → List Value} {sz : Nat} {l : List α} (hf : ∀ x, (f x).length = sz) (h : Cells w b t (l.flatMap f)) (hl : l.length ≤ maxLen) : See w (some ⟨b, 0, none⟩) l.length f sz l := by
  refine ⟨Nat.le_refl _, hl, fun i x hx => ⟨b, 0, rfl, fun j u hu => ?_⟩⟩
  have hj : j < sz := by rw [← hf x]; exact (List.getElem?_eq_some_iff.1 hu).1
  have := flat_get hf l i j hj
  rw [hx] at this
  rw [Nat.zero_add]
  exact h.cell (this.trans hu)
theorem Cells.new' {w : World} {b : Nat} (hb : w.heap.size = b) (t : TypeId) (l : List Value) : Cells (w.alloc (.cells l.toArray t)) b t l := hb ▸ Cells.new w t l
/-- One result, which lies in a block of its own. -/
theorem results_c {P : Program} {fn : Func} {p : Tmp} {ty : TypeId} (h : fn.results = #[.cell p ty]) (tmps : Array Value) (w : World) (g : Nat) (t : TypeId) (cs : List Value) (d : TypeDesc)
    (hp : tmps.getD p undef = .pointer (some ⟨g, 0, none⟩)) (hg : Cells w g t cs)
    (hu : P.underlying ty = some d) (hd : (match d with | .struct _ | .array _ _ => true | _ => false) = true) (hi : (P.info? ty).map (·.size) = some cs.length) :
    (results fn tmps).run P w = .ok (.agg cs.toArray) w := by
  have hp' : tmps[p]?.getD undef = .pointer (some ⟨g, 0, none⟩) := by simpa using hp
  have hr := run_loadVar_row (P := P) w g t ty cs.toArray (0, 0) d hg hu hd (by simpa using hi)
  simp [results, h, hp', asAddr, hr]

def HierNew (h : HierD) (w : World) (e : Ending) (w' : World) : Prop := ∃ A, e = .returned (hierVal A h) ∧ HSee w' A h ∧ HForm A ∧ Below w.heap.size w w'

/-- A law's answer. -/
def TrueNew (w : World) (e : Ending) (w' : World) : Prop := e = .returned (.bool true) ∧ Below w.heap.size w w'
def BoolNew (w : World) (e : Ending) (w' : World) : Prop := ∃ b : Bool, e = .returned (.bool b) ∧ Below w.heap.size w w'
theorem hier_five {w : World} {b : Nat} {t : TypeId} {A : HA} {h : HierD} (c : Cells w b t (hierCells A h)) :
    w.cell? ⟨b, 0, none⟩ = some (.slice A.a0 h.node.length A.c0) ∧ w.cell? ⟨b, 1, none⟩ = some (.slice A.a1 h.upF.length A.c1) ∧ w.cell? ⟨b, 2, none⟩ = some (.slice A.a2 h.up.length A.c2) ∧
    w.cell? ⟨b, 3, none⟩ = some (.slice A.a3 h.dnF.length A.c3) ∧ w.cell? ⟨b, 4, none⟩ = some (.slice A.a4 h.dn.length A.c4) :=
  ⟨c.cell rfl, c.cell rfl, c.cell rfl, c.cell rfl, c.cell rfl⟩

def CountPost (h : HierD) (w : World) (e : Ending) (w' : World) : Prop := ∃ c : Int, e = .returned (.int .i64 c) ∧ c = wrap64 ((h.up.length : Int) + (h.dn.length : Int)) ∧ Below w.heap.size w w'
set_option maxRecDepth 100000 in
theorem count_any (A : HA) (h : HierD) (w : World) : Calls Try.prog 22 #[hierVal A h] w (CountPost h w) := by
  unfold hierVal
  go_enter Try.func22, Try.ntmps22
  go_wp2_with fail
  go_returns
  exact ⟨_, rfl, rfl, (Below.refl _ _).alloc (Nat.le_refl _) _⟩
set_option maxRecDepth 100000 in
theorem great_any (A : HA) (h : HierD) (w : World) : Calls Try.prog 7 #[hierVal A h] w (BoolNew w) := by
  unfold hierVal
  go_enter Try.func7, Try.ntmps7
  go_wp2_with fail
  refine (count_any A h _).mono ?_
  rintro e w1 ⟨c, rfl, -, hb⟩
  have hbx1 := (Cells.new w 25 (hierCells A h)).below hb (by simp)
  have HB1 := Lib.hid (((Below.refl w.heap.size w).alloc (Nat.le_refl _) _).trans (hb.mono (by simp)))
  obtain ⟨k0, k1, k2, k3, k4⟩ := hier_five hbx1
  clear hb hbx1
  by_cases hd : 2000 < c
  · have d1 : decide (2000 < c) = true := by simpa using hd
    clear hd
    go_wp2_with fail
    refine (count_any A h _).mono ?_
    rintro e w2 ⟨c2, rfl, -, hb⟩
    have HB2 := Lib.hid (HB1.out.trans (hb.mono HB1.out.size))
    clear hb k0 k1 k2 k3 k4
    go_wp2
    go_returns
    exact ⟨_, rfl, HB2.out⟩
  · have d1 : decide (2000 < c) = false := by simpa using hd
    clear hd
    go_wp2
    go_returns
    exact ⟨_, rfl, HB1.out⟩

set_option maxRecDepth 100000 in
theorem three_any (w : World) : Calls Try.prog 21 #[] w (HierNew threeD w) := by
  go_enter Try.func21, Try.ntmps21
  go_wp2
  have c0 := (((((Cells.new w 25 [.slice (some ⟨w.heap.size + 1, 0, none⟩) 3 3, .slice (some ⟨w.heap.size + 1 + 1, 0, none⟩) 4 4, .slice (some ⟨w.heap.size + 1 + 1 + 1, 0, none⟩) 2 2, .slice (some ⟨w.heap.size + 1 + 1 + 1 + 1, 0, none⟩) 4 4, .slice (some ⟨w.heap.size + 1 + 1 + 1 + 1 + 1, 0, none⟩) 1 1]).alloc
    (.cells ([1, 0, 2].flatMap u32Cells).toArray 38)).alloc (.cells ([0, 1, 2, 2].flatMap u32Cells).toArray 38)).alloc (.cells (threeD.up.flatMap linkCells).toArray 60)).alloc (.cells ([0, 1, 1, 1].flatMap u32Cells).toArray 38)).alloc (.cells (threeD.dn.flatMap linkCells).toArray 60)
  have c1 := ((((Cells.new' (w := w.alloc (.cells #[.slice (some ⟨w.heap.size + 1, 0, none⟩) 3 3, .slice (some ⟨w.heap.size + 1 + 1, 0, none⟩) 4 4, .slice (some ⟨w.heap.size + 1 + 1 + 1, 0, none⟩) 2 2, .slice (some ⟨w.heap.size + 1 + 1 + 1 + 1, 0, none⟩) 4 4, .slice (some ⟨w.heap.size + 1 + 1 + 1 + 1 + 1, 0, none⟩) 1 1] 25)) (b := w.heap.size + 1) (by simp) 38 ([1, 0, 2].flatMap u32Cells)).alloc
    (.cells ([0, 1, 2, 2].flatMap u32Cells).toArray 38)).alloc (.cells (threeD.up.flatMap linkCells).toArray 60)).alloc (.cells ([0, 1, 1, 1].flatMap u32Cells).toArray 38)).alloc (.cells (threeD.dn.flatMap linkCells).toArray 60)
  have c2 := (((Cells.new' (w := (w.alloc (.cells #[.slice (some ⟨w.heap.size + 1, 0, none⟩) 3 3, .slice (some ⟨w.heap.size + 1 + 1, 0, none⟩) 4 4, .slice (some ⟨w.heap.size + 1 + 1 + 1, 0, none⟩) 2 2, .slice (some ⟨w.heap.size + 1 + 1 + 1 + 1, 0, none⟩) 4 4, .slice (some ⟨w.heap.size + 1 + 1 + 1 + 1 + 1, 0, none⟩) 1 1] 25)).alloc
    (.cells ([1, 0, 2].flatMap u32Cells).toArray 38)) (b := w.heap.size + 1 + 1) (by simp) 38 ([0, 1, 2, 2].flatMap u32Cells)).alloc (.cells (threeD.up.flatMap linkCells).toArray 60)).alloc (.cells ([0, 1, 1, 1].flatMap u32Cells).toArray 38)).alloc (.cells (threeD.dn.flatMap linkCells).toArray 60)
  have c3 := ((Cells.new' (w := ((w.alloc (.cells #[.slice (some ⟨w.heap.size + 1, 0, none⟩) 3 3, .slice (some ⟨w.heap.size + 1 + 1, 0, none⟩) 4 4, .slice (some ⟨w.heap.size + 1 + 1 + 1, 0, none⟩) 2 2, .slice (some ⟨w.heap.size + 1 + 1 + 1 + 1, 0, none⟩) 4 4, .slice (some ⟨w.heap.size + 1 + 1 + 1 + 1 + 1, 0, none⟩) 1 1] 25)).alloc
    (.cells ([1, 0, 2].flatMap u32Cells).toArray 38)).alloc (.cells ([0, 1, 2, 2].flatMap u32Cells).toArray 38)) (b := w.heap.size + 1 + 1 + 1) (by simp) 60 (threeD.up.flatMap linkCells)).alloc (.cells ([0, 1, 1, 1].flatMap u32Cells).toArray 38)).alloc (.cells (threeD.dn.flatMap linkCells).toArray 60)
  have c4 := (Cells.new' (w := (((w.alloc (.cells #[.slice (some ⟨w.heap.size + 1, 0, none⟩) 3 3, .slice (some ⟨w.heap.size + 1 + 1, 0, none⟩) 4 4, .slice (some ⟨w.heap.size + 1 + 1 + 1, 0, none⟩) 2 2, .slice (some ⟨w.heap.size + 1 + 1 + 1 + 1, 0, none⟩) 4 4, .slice (some ⟨w.heap.size + 1 + 1 + 1 + 1 + 1, 0, none⟩) 1 1] 25)).alloc
    (.cells ([1, 0, 2].flatMap u32Cells).toArray 38)).alloc (.cells ([0, 1, 2, 2].flatMap u32Cells).toArray 38)).alloc (.cells (threeD.up.flatMap linkCells).toArray 60)) (b := w.heap.size + 1 + 1 + 1 + 1) (by simp) 38 ([0, 1, 1, 1].flatMap u32Cells)).alloc (.cells (threeD.dn.flatMap linkCells).toArray 60)
  have c5 := Cells.new' (w := ((((w.alloc (.cells #[.slice (some ⟨w.heap.size + 1, 0, none⟩) 3 3, .slice (some ⟨w.heap.size + 1 + 1, 0, none⟩) 4 4, .slice (some ⟨w.heap.size + 1 + 1 + 1, 0, none⟩) 2 2, .slice (some ⟨w.heap.size + 1 + 1 + 1 + 1, 0, none⟩) 4 4, .slice (some ⟨w.heap.size + 1 + 1 + 1 + 1 + 1, 0, none⟩) 1 1] 25)).alloc
    (.cells ([1, 0, 2].flatMap u32Cells).toArray 38)).alloc (.cells ([0, 1, 2, 2].flatMap u32Cells).toArray 38)).alloc (.cells (threeD.up.flatMap linkCells).toArray 60)).alloc (.cells ([0, 1, 1, 1].flatMap u32Cells).toArray 38)) (b := w.heap.size + 1 + 1 + 1 + 1 + 1) (by simp) 60 (threeD.dn.flatMap linkCells)
  have hsz : (Try.prog.info? 25).map (·.size) = some 5 := by kernel_rfl
  refine bodyPost_ret (results_c rfl _ _ w.heap.size 25 [.slice (some ⟨w.heap.size + 1, 0, none⟩) 3 3, .slice (some ⟨w.heap.size + 1 + 1, 0, none⟩) 4 4, .slice (some ⟨w.heap.size + 1 + 1 + 1, 0, none⟩) 2 2, .slice (some ⟨w.heap.size + 1 + 1 + 1 + 1, 0, none⟩) 4 4, .slice (some ⟨w.heap.size + 1 + 1 + 1 + 1 + 1, 0, none⟩) 1 1] _ rfl c0 Try.underlying25 rfl (by rw [hsz]; rfl)) rfl ?_
  refine ⟨⟨some ⟨w.heap.size + 1, 0, none⟩, some ⟨w.heap.size + 1 + 1, 0, none⟩, some ⟨w.heap.size + 1 + 1 + 1, 0, none⟩, some ⟨w.heap.size + 1 + 1 + 1 + 1, 0, none⟩, some ⟨w.heap.size + 1 + 1 + 1 + 1 + 1, 0, none⟩, 3, 4, 2, 4, 1⟩, rfl,
    ⟨See.of_cells u32Cells_len c1 (by simp [maxLen]), See.of_cells u32Cells_len c2 (by simp [maxLen]), See.of_cells linkCells_len c3 (by simp [maxLen, threeD]), See.of_cells u32Cells_len c4 (by simp [maxLen]), See.of_cells linkCells_len c5 (by simp [maxLen, threeD]), by decide, by decide, by decide, ?_, ?_⟩, ⟨.inr ⟨_, _, rfl⟩, .inr ⟨_, _, rfl⟩, .inr ⟨_, _, rfl⟩, .inr ⟨_, _, rfl⟩, .inr ⟨_, _, rfl⟩⟩, by go_grown⟩
  · intro l hl
    simp only [threeD, List.mem_cons, List.not_mem_nil, or_false] at hl
    rcases hl with rfl | rfl <;> simp [LinkD.ok]
  · intro l hl
    simp only [threeD, List.mem_cons, List.not_mem_nil, or_false] at hl
    rcases hl with rfl
    simp [LinkD.ok]
set_option maxRecDepth 100000 in
theorem awake_any (w : World) : Calls Try.prog 6 #[] w (TrueNew w) := by
  go_enter Try.func6, Try.ntmps6
  go_wp2_with fail
  refine (three_any _).mono ?_
  rintro e w1 ⟨A1, rfl, s1, -, b1⟩
  have B1 := Lib.hid b1
  have S1 := Lib.hid s1
  clear b1 s1
  go_wp2_with fail
  refine (distance_any A1 threeD 0 2 _ S1.out (by omega) (by omega)).mono ?_
  rintro e w2 ⟨r, d, x, v, rfl, hv, hm, hb⟩
  obtain ⟨-, rfl, rfl⟩ := three_02 hm
  obtain rfl := hv.nilv rfl
  have B2 := Lib.hid (B1.out.trans (hb.mono B1.out.size))
  clear hb hv hm B1 S1
  go_wp2_with fail
  refine (three_any _).mono ?_
  rintro e w3 ⟨A3, rfl, s3, -, b3⟩
  have B3 := Lib.hid (B2.out.trans (b3.mono B2.out.size))
  have S3 := Lib.hid s3
  clear b3 s3 B2
  go_wp2_with fail
  refine (qmeet_any A3 threeD 0 1 _ S3.out (by omega) (by omega)).mono ?_
  rintro e w4 ⟨r, d, x, v, rfl, hv, hm, hb⟩
  obtain ⟨rfl, rfl, rfl⟩ := three_01 hm
  obtain rfl := hv.nilv rfl
  have B4 := Lib.hid (B3.out.trans (hb.mono B3.out.size))
  clear hb hv hm B3 S3
  go_wp2
  go_returns
  exact ⟨rfl, B4.out⟩
end Go.Proofs.Ytjbphoophgbmiaa
