/- The laws of layer 16: half, awake, few. -/
import Derived.Test.YtjbphoophgbmiaaDoorSoundP
import Derived.Test.YtjbphoophgbmiaaDoorSame
namespace Go.Proofs.YtjbphoophgbmiaaDoor
open Go.ChangeShapes Go.WideShapes Go.ChangeAt Go.RowKit Go.Joins Go.Deep

theorem run_sub_to {P : Program} (t e : TypeId) (sz : Nat) (ht : P.underlying t = some (.slice e)) (hs : ∀ w, (sizeOf e).run P w = .ok sz w) (ao : Option Addr) (n cap hi : Nat) (kh : IntKind) (h2 : hi ≤ cap) (w : World) :
    (Instr.slice t (.slice ao n cap) none (some (.int kh (hi : Int))) none).run P w = .ok (.slice (slBase ao 0 cap sz) hi cap) w := by
  have he : P.elem t = e := by simp [Program.elem, ht]
  have h := run_slice_h (P := P) (w := w) t ao n cap (by rw [ht, he]) kh (hi : Int) (by omega) (by omega)
  rw [h, he, hs]
  simp [Result.andThen, sliced, slBase]
def HierSee (h : HierD) (w : World) (e : Ending) (w' : World) : Prop := ∃ A, e = .returned (hierVal A h) ∧ HSee w' A h ∧ Below w.heap.size w w'
set_option linter.unusedSimpArgs false in
set_option maxRecDepth 100000 in
set_option maxHeartbeats 8000000 in
theorem few_any (A : HA) (h : HierD) (w : World) : Calls Tryd.prog 13 #[hierVal A h] w (BoolNew w) := by
  have HX := Lib.hid (Cells.new w 25 (hierCells A h))
  have HB := Lib.hid ((Below.refl w.heap.size w).alloc (Nat.le_refl _) (.cells (hierCells A h).toArray 25))
  obtain ⟨k0, k1, k2, k3, k4⟩ := hier_five HX.out
  unfold hierVal
  by_cases hf : h.node.length ≤ 14
  · have d1 : decide (h.node.length ≤ 14) = true := by simpa using hf
    have d2 : decide ((h.node.length : Int) ≤ 14) = true := by simp; omega
    clear hf
    go_enter Tryd.func13, Tryd.ntmps13
    go_wp2_with fail
    refine (count_any A h _).mono ?_
    rintro e w1 ⟨c, rfl, -, hb⟩
    have HB1 := Lib.hid (HB.out.trans (hb.mono HB.out.size))
    clear hb k0 k1 k2 k3 k4
    go_wp2
    go_returns
    exact ⟨_, rfl, HB1.out⟩
  · have d1 : decide (h.node.length ≤ 14) = false := by simpa using hf
    have d2 : decide ((h.node.length : Int) ≤ 14) = false := by simp; omega
    clear hf
    go_enter Tryd.func13, Tryd.ntmps13
    go_wp2
    go_returns
    exact ⟨_, rfl, HB.out⟩
theorem See.ne_block {α : Type} {w : World} {ao : Option Addr} {cap sz B : Nat} {f : α → List Value} {l : List α} {t : TypeId} {L : List Value} (see : See w ao cap f sz l) {x : α} (hx : l[0]? = some x) {u : Value} (hu : (f x)[0]? = some u) (hc : Cells w B t L) (hL : ∀ v ∈ L, v ≠ u) : ∀ b off, ao = some ⟨b, off, none⟩ → b ≠ B := by
  rintro b off e rfl
  obtain ⟨b', off', e', hcell⟩ := see.cell 0 x hx
  rw [e] at e'
  simp only [Option.some.injEq, Addr.mk.injEq, and_true] at e'
  obtain ⟨rfl, rfl⟩ := e'
  have h1 := hcell 0 u hu
  rw [cell_of_row w b _ L.toArray t (0, 0) hc] at h1
  have h2 : u ∈ L := List.mem_of_getElem? (by simpa using h1)
  exact hL u h2 rfl
set_option linter.unusedSimpArgs false in
set_option maxRecDepth 100000 in
set_option maxHeartbeats 8000000 in
theorem half_any (w : World) : Calls Tryd.prog 40 #[] w (HierSee halfD w) := by
  have hz := Cells.new w 25 [.slice none 0 0, .slice none 0 0, .slice none 0 0, .slice none 0 0, .slice none 0 0]
  have HZ := Lib.hid hz
  have HB := Lib.hid ((Below.refl w.heap.size w).alloc (Nat.le_refl _) (.cells #[.slice none 0 0, .slice none 0 0, .slice none 0 0, .slice none 0 0, .slice none 0 0] 25))
  clear hz
  go_enter Tryd.func40, Tryd.ntmps40
  apply wp_seq_k
  intro K0 hK
  have HK0 := Lib.hid hK
  clear hK
  go_wp2_with fail
  refine HK0.out _ _ ?_
  clear HK0
  apply wp_seq_k
  intro K1 hK
  have HK1 := Lib.hid hK
  clear hK
  go_wp2_with fail
  refine (three_any _).mono ?_
  rintro e w1 ⟨A, rfl, see, -, hb⟩
  have HS := Lib.hid see
  have hc2 : 2 ≤ A.c2 := see.up.hcap
  have HZ1 := Lib.hid ((HZ.out.below hb HZ.out.lt).alloc (.cells (hierCells A threeD).toArray 25))
  have HX1 := Lib.hid (Cells.new w1 25 (hierCells A threeD))
  have HB1 := Lib.hid ((HB.out.trans (hb.mono HB.out.size)).alloc (HB.out.trans (hb.mono HB.out.size)).size (.cells (hierCells A threeD).toArray 25))
  have HO1 := Lib.hid ((Below.refl w1.heap.size w1).alloc (Nat.le_refl _) (.cells (hierCells A threeD).toArray 25))
  have lz : w.heap.size < w1.heap.size := by have := hb.size; simp at this; omega
  clear see hb HZ HB
  unfold hierVal
  go_wp2_with fail
  obtain ⟨wx, hwx⟩ : ∃ wx, w1.alloc (.cells (hierCells A threeD).toArray 25) = wx := ⟨_, rfl⟩
  have hz1 := HZ1.out
  have hx1 := HX1.out
  have hb1 := HB1.out
  have ho1 := HO1.out
  rw [hwx] at hz1 hx1 hb1 ho1
  try rw [show w1.alloc (.cells #[.slice A.a0 threeD.node.length A.c0, .slice A.a1 threeD.upF.length A.c1, .slice A.a2 threeD.up.length A.c2, .slice A.a3 threeD.dnF.length A.c3, .slice A.a4 threeD.dn.length A.c4] 25) = wx from hwx]
  refine HK1.out _ _ ?_
  obtain ⟨bX, hbX⟩ : ∃ bX, w1.heap.size = bX := ⟨_, rfl⟩
  rw [hbX] at hx1 lz ⊢
  have hsl : ∀ W, (Instr.slice 23 (.slice A.a2 threeD.up.length A.c2) none (some (.int .i64 1)) none).run Tryd.prog W = .ok (.slice (slBase A.a2 0 A.c2 4) 1 A.c2) W := fun W => run_sub_to (P := Tryd.prog) 23 39 4 Tryd.underlying23 Tryd.sizeLink A.a2 threeD.up.length A.c2 1 .i64 (by omega) W
  obtain ⟨k0, k1, k2, k3, k4⟩ := hier_five hx1
  have g0 := hx1.frozen 1
  have g1 := hx1.frozen 2
  have lx := hx1.lt
  have z0 : wx.cell? ⟨w.heap.size, 0, none⟩ = some (.slice none 0 0) := hz1.cell rfl
  have z1 : wx.cell? ⟨w.heap.size, 1, none⟩ = some (.slice none 0 0) := hz1.cell rfl
  have z2 : wx.cell? ⟨w.heap.size, 2, none⟩ = some (.slice none 0 0) := hz1.cell rfl
  have z3 : wx.cell? ⟨w.heap.size, 3, none⟩ = some (.slice none 0 0) := hz1.cell rfl
  have z4 : wx.cell? ⟨w.heap.size, 4, none⟩ = some (.slice none 0 0) := hz1.cell rfl
  have f0 := hz1.frozen 0
  have f1 := hz1.frozen 1
  have f2 := hz1.frozen 2
  have f3 := hz1.frozen 3
  have f4 := hz1.frozen 4
  have lzz := hz1.lt
  have lbx := hx1.lt
  have q1 : ¬ w.heap.size = bX := by omega
  have q2 : ¬ bX = w.heap.size := by omega
  have HZX := Lib.hid hz1
  have HBX := Lib.hid hb1
  have HXX := Lib.hid hx1
  have HOX := Lib.hid ho1
  clear HK1 hx1 hz1 hb1 ho1 hwx HZ1 HX1 HB1 HO1 hc2
  apply wp_seq_k
  intro K2 hK
  have HK2 := Lib.hid hK
  clear hK
  go_wp2_with fail
  have hx2 := (HXX.out.set 1 (.slice (some ⟨wx.heap.size, 0, none⟩) 4 4)).alloc (.cells #[.int .u32 0, .int .u32 1, .int .u32 1, .int .u32 1] 36)
  have hz2 := (HZX.out.other (a := ⟨bX, 1, none⟩) q1 (.slice (some ⟨wx.heap.size, 0, none⟩) 4 4)).alloc (.cells #[.int .u32 0, .int .u32 1, .int .u32 1, .int .u32 1] 36)
  have hl2 : Cells ((wx.setCell ⟨bX, 1, none⟩ (.slice (some ⟨wx.heap.size, 0, none⟩) 4 4)).alloc (.cells #[.int .u32 0, .int .u32 1, .int .u32 1, .int .u32 1] 36)) wx.heap.size 36 [.int .u32 0, .int .u32 1, .int .u32 1, .int .u32 1] := cells_at (by simp) _ _
  have hb2 := (HBX.out.setCell (p := ⟨bX, 1, none⟩) (Nat.le_of_lt lz) (.slice (some ⟨wx.heap.size, 0, none⟩) 4 4)).alloc (by simp; exact HBX.out.size) (.cells #[.int .u32 0, .int .u32 1, .int .u32 1, .int .u32 1] 36)
  have ho2 := (HOX.out.setCell (p := ⟨bX, 1, none⟩) (Nat.le_of_eq hbX) (.slice (some ⟨wx.heap.size, 0, none⟩) 4 4)).alloc (by simp; exact HOX.out.size) (.cells #[.int .u32 0, .int .u32 1, .int .u32 1, .int .u32 1] 36)
  obtain ⟨w2, hw2⟩ : ∃ w2, (wx.setCell ⟨bX, 1, none⟩ (.slice (some ⟨wx.heap.size, 0, none⟩) 4 4)).alloc (.cells #[.int .u32 0, .int .u32 1, .int .u32 1, .int .u32 1] 36) = w2 := ⟨_, rfl⟩
  rw [hw2] at hx2 hz2 hl2 hb2 ho2 ⊢
  have HX2 := Lib.hid hx2
  have HZ2 := Lib.hid hz2
  have HL2 := Lib.hid hl2
  have HB2 := Lib.hid hb2
  have HO2 := Lib.hid ho2
  clear k0 k1 k2 k3 k4 g0 g1 lx z0 z1 z2 z3 z4 f0 f1 f2 f3 f4 lzz HXX HZX HBX HOX hw2
  refine HK2.out _ _ ?_
  clear HK2
  apply wp_seq_k
  intro K3 hK
  have HK3 := Lib.hid hK
  clear hK
  have k2 : w2.cell? ⟨bX, 2, none⟩ = some (.slice A.a2 threeD.up.length A.c2) := hx2.cell rfl
  have g1 := hx2.frozen 2
  have lx := hx2.lt
  clear hx2 hz2 hl2 hb2 ho2
  go_wp2_with fail
  have hx3 := HX2.out.set 2 (.slice (slBase A.a2 0 A.c2 4) 1 A.c2)
  have hz3 := HZ2.out.other (a := ⟨bX, 2, none⟩) q1 (.slice (slBase A.a2 0 A.c2 4) 1 A.c2)
  have hl3 := HL2.out.other (a := ⟨bX, 2, none⟩) (by show wx.heap.size ≠ bX; omega) (.slice (slBase A.a2 0 A.c2 4) 1 A.c2)
  have hb3 := HB2.out.setCell (p := ⟨bX, 2, none⟩) (Nat.le_of_lt lz) (.slice (slBase A.a2 0 A.c2 4) 1 A.c2)
  have ho3 := HO2.out.setCell (p := ⟨bX, 2, none⟩) (Nat.le_of_eq hbX) (.slice (slBase A.a2 0 A.c2 4) 1 A.c2)
  obtain ⟨w3, hw3⟩ : ∃ w3, w2.setCell ⟨bX, 2, none⟩ (.slice (slBase A.a2 0 A.c2 4) 1 A.c2) = w3 := ⟨_, rfl⟩
  rw [hw3] at hx3 hz3 hl3 hb3 ho3 ⊢
  have HX3 := Lib.hid hx3
  have HZ3 := Lib.hid hz3
  have HL3 := Lib.hid hl3
  have HB3 := Lib.hid hb3
  have HO3 := Lib.hid ho3
  clear k2 g1 lx HX2 HZ2 HL2 HB2 HO2 hw3 hsl
  refine HK3.out _ _ ?_
  clear HK3
  have x0 : w3.cell? ⟨bX, 0, none⟩ = some (.slice A.a0 threeD.node.length A.c0) := hx3.cell rfl
  have x1 : w3.cell? ⟨bX, 1, none⟩ = some (.slice (some ⟨wx.heap.size, 0, none⟩) 4 4) := hx3.cell rfl
  have x2 : w3.cell? ⟨bX, 2, none⟩ = some (.slice (slBase A.a2 0 A.c2 4) 1 A.c2) := hx3.cell rfl
  have x3 : w3.cell? ⟨bX, 3, none⟩ = some (.slice A.a3 threeD.dnF.length A.c3) := hx3.cell rfl
  have x4 : w3.cell? ⟨bX, 4, none⟩ = some (.slice A.a4 threeD.dn.length A.c4) := hx3.cell rfl
  have z0 : w3.cell? ⟨w.heap.size, 0, none⟩ = some (.slice none 0 0) := hz3.cell rfl
  have f0 := hz3.frozen 0
  have z1 : w3.cell? ⟨w.heap.size, 1, none⟩ = some (.slice none 0 0) := hz3.cell rfl
  have f1 := hz3.frozen 1
  have z2 : w3.cell? ⟨w.heap.size, 2, none⟩ = some (.slice none 0 0) := hz3.cell rfl
  have f2 := hz3.frozen 2
  have z3 : w3.cell? ⟨w.heap.size, 3, none⟩ = some (.slice none 0 0) := hz3.cell rfl
  have f3 := hz3.frozen 3
  have z4 : w3.cell? ⟨w.heap.size, 4, none⟩ = some (.slice none 0 0) := hz3.cell rfl
  have f4 := hz3.frozen 4
  have lzz := hz3.lt
  have lx := hx3.lt
  clear hx3 hz3 hl3 hb3 ho3
  go_wp2
  have hsz5 : (Tryd.prog.info? 25).map (·.size) = some 5 := by kernel_rfl
  refine bodyPost_ret (results_c rfl _ _ w.heap.size 25 [.slice A.a0 threeD.node.length A.c0, .slice (some ⟨wx.heap.size, 0, none⟩) 4 4, .slice (slBase A.a2 0 A.c2 4) 1 A.c2, .slice A.a3 threeD.dnF.length A.c3, .slice A.a4 threeD.dn.length A.c4] _ rfl (((((HZ3.out.set 0 _).set 1 _).set 2 _).set 3 _).set 4 _) Tryd.underlying25 rfl (by rw [hsz5]; rfl)) rfl ?_
  have hs3 := HS.out.below HO3.out
  have hup := hs3.up.sub 0 1 (by decide)
  have hz := HZ3.out
  have hne : ∀ v ∈ ([.slice none 0 0, .slice none 0 0, .slice none 0 0, .slice none 0 0, .slice none 0 0] : List Value), ∀ k n, v ≠ .int k n := by
    intro v hv k n
    simp only [List.mem_cons, List.not_mem_nil, or_false] at hv
    rcases hv with rfl | rfl | rfl | rfl | rfl <;> simp
  have hl := See.of_cells (l := halfD.upF) u32Cells_len HL3.out (by decide)
  have n0 := hs3.node.ne_block (x := 1) rfl (u := .int .u32 1) rfl hz (fun v hv => hne v hv _ _)
  have n1 := hl.ne_block (x := 0) rfl (u := .int .u32 0) rfl hz (fun v hv => hne v hv _ _)
  have n2 := hup.ne_block (x := ⟨2, 1, 4294967295, 4294967295⟩) rfl (u := .int .u32 2) rfl hz (fun v hv => hne v hv _ _)
  have n3 := hs3.dnF.ne_block (x := 0) rfl (u := .int .u32 0) rfl hz (fun v hv => hne v hv _ _)
  have n4 := hs3.dn.ne_block (x := ⟨1, 4, 4294967295, 4294967295⟩) rfl (u := .int .u32 1) rfl hz (fun v hv => hne v hv _ _)
  have ho : ∀ v0 v1 v2 v3 v4, Only [w.heap.size] w3 (((((w3.setCell ⟨w.heap.size, 0, none⟩ v0).setCell ⟨w.heap.size, 1, none⟩ v1).setCell ⟨w.heap.size, 2, none⟩ v2).setCell ⟨w.heap.size, 3, none⟩ v3).setCell ⟨w.heap.size, 4, none⟩ v4) := fun v0 v1 v2 v3 v4 =>
    (((((Only.refl [w.heap.size] w3).setCell (p := ⟨w.heap.size, 0, none⟩) (.inl (by simp)) v0).setCell (p := ⟨w.heap.size, 1, none⟩) (.inl (by simp)) v1).setCell (p := ⟨w.heap.size, 2, none⟩) (.inl (by simp)) v2).setCell (p := ⟨w.heap.size, 3, none⟩) (.inl (by simp)) v3).setCell (p := ⟨w.heap.size, 4, none⟩) (.inl (by simp)) v4
  have nm : ∀ {ao : Option Addr}, (∀ b off, ao = some ⟨b, off, none⟩ → b ≠ w.heap.size) → ∀ b off, ao = some ⟨b, off, none⟩ → b ∉ [w.heap.size] := fun h b off e hm => h b off e (by simpa using hm)
  exact ⟨⟨A.a0, some ⟨wx.heap.size, 0, none⟩, slBase A.a2 0 A.c2 4, A.a3, A.a4, A.c0, 4, A.c2, A.c3, A.c4⟩, rfl,
    ⟨hs3.node.kept (ho _ _ _ _ _) (nm n0), hl.kept (ho _ _ _ _ _) (nm n1), hup.kept (ho _ _ _ _ _) (nm n2), hs3.dnF.kept (ho _ _ _ _ _) (nm n3), hs3.dn.kept (ho _ _ _ _ _) (nm n4), by decide, by decide, by decide, fun l hl => hs3.bup l (by simp only [halfD, List.mem_singleton] at hl; subst hl; simp [threeD]), hs3.bdn⟩,
    ((((HB3.out.setCell (p := ⟨w.heap.size, 0, none⟩) (Nat.le_refl _) _).setCell (p := ⟨w.heap.size, 1, none⟩) (Nat.le_refl _) _).setCell (p := ⟨w.heap.size, 2, none⟩) (Nat.le_refl _) _).setCell (p := ⟨w.heap.size, 3, none⟩) (Nat.le_refl _) _).setCell (p := ⟨w.heap.size, 4, none⟩) (Nat.le_refl _) _⟩
set_option linter.unusedSimpArgs false in
set_option maxRecDepth 100000 in
set_option maxHeartbeats 8000000 in
theorem awake16_any (w : World) (hg : EVar w) : Calls Tryd.prog 12 #[] w (BoolIs true w) := by
  have HG := Lib.hid hg
  have HB0 := Lib.hid (Below.refl w.heap.size w)
  clear hg
  go_enter Tryd.func12, Tryd.ntmps12
  go_wp2_with fail
  refine (three_any _).mono ?_
  rintro e w1 ⟨A1, rfl, s1, -, hb⟩
  have HB1 := Lib.hid (HB0.out.trans (hb.mono HB0.out.size))
  have S1 := Lib.hid s1
  clear hb s1 HB0
  go_wp2_with fail
  refine (above_any A1 threeD 0 1 2 _ S1.out).mono ?_
  rintro e w2 ⟨d, v, x, rfl, hv, hm, hb⟩
  obtain ⟨rfl, rfl⟩ := above_three hm
  obtain rfl := hv.nilv rfl
  have HB2 := Lib.hid (HB1.out.trans (hb.mono HB1.out.size))
  clear hb hv hm S1 HB1
  go_wp2_with fail
  refine (three_any _).mono ?_
  rintro e w3 ⟨A2, rfl, s2, -, hb⟩
  have HB3 := Lib.hid (HB2.out.trans (hb.mono HB2.out.size))
  have S2 := Lib.hid s2
  clear hb s2 HB2
  go_wp2_with fail
  refine (scheck_any A2 threeD _ S2.out).mono ?_
  rintro e w4 ⟨v, x, rfl, hv, hm, hb⟩
  obtain rfl := three_true hm
  obtain rfl := hv.nilv rfl
  have HB4 := Lib.hid (HB3.out.trans (hb.mono HB3.out.size))
  clear hb hv hm S2 HB3
  go_wp2_with fail
  refine (half_any _).mono ?_
  rintro e w5 ⟨A3, rfl, s3, hb⟩
  have HB5 := Lib.hid (HB4.out.trans (hb.mono HB4.out.size))
  have S3 := Lib.hid s3
  clear hb s3 HB4
  go_wp2_with fail
  refine (scheck_any A3 halfD _ S3.out).mono ?_
  rintro e w6 ⟨v, x, rfl, hv, hm, hb⟩
  obtain rfl := half_false hm
  have HB6 := Lib.hid (HB5.out.trans (hb.mono HB5.out.size))
  have HV6 := Lib.hid hv
  clear hb hv hm S3 HB5
  go_wp2_with fail
  refine (e_any 15 _).mono ?_
  rintro e w7 ⟨u, rfl, hu, hb⟩
  obtain rfl : u = _ := hu
  have HB7 := Lib.hid (HB6.out.trans (hb.mono HB6.out.size))
  have HV7 := Lib.hid (HV6.out.below hb)
  clear hb HB6 HV6
  go_wp2_with fail
  refine (rat_any 3 0 15 _).mono ?_
  rintro e w8 ⟨u, rfl, hu, hb⟩
  have HB8 := Lib.hid (HB7.out.trans (hb.mono HB7.out.size))
  have HV8 := Lib.hid (HV7.out.below hb)
  have HU8 := Lib.hid hu
  clear hb HB7 HV7 hu
  go_wp2_with fail
  refine (same_any (.at 3 0 15) v u _ ⟨by omega, by omega⟩ (HG.out.below HB8.out) HV8.out HU8.out).mono ?_
  rintro e w9 ⟨rfl, hb⟩
  have HB9 := Lib.hid (HB8.out.trans (hb.mono HB8.out.size))
  clear hb HB8
  go_wp2
  go_returns
  exact ⟨rfl, HB9.out⟩
end Go.Proofs.YtjbphoophgbmiaaDoor
