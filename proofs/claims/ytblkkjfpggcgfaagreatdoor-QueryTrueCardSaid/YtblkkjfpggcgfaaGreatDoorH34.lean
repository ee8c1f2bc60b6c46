/- What the form's own reach says of a hierarchy that comes in. -/
import Derived.Test.YtblkkjfpggcgfaaGreatDoorH33
import Derived.Test.YtblkkjfpggcgfaaGreatDoorH25
import Derived.Test.YtblkkjfpggcgfaaGreatDoorH17
import Derived.Test.YtblkkjfpggcgfaaGreatDoorCards
import Derived.Test.YtblkkjfpggcgfaaGreatDoorTie
import Derived.ChangeSame
import Derived.ChangeVars
import Derived.JoinedOf
import Derived.LaidLaws
import Derived.LaidHandle
import Derived.Stop.Joined
import Derived.SevenTiedAt
namespace Go.Proofs.YtblkkjfpggcgfaaGreatDoor
open Go.ChangeShapes Go.WideShapes Go.ChangeAt Go.RowKit Go.Joins Go.Deep
section
variable {H : Type} {enc : TypeId × Value → H} {P : Program} {w : World}
theorem slice_weight {t e : TypeId} {ao : Option Addr} {k cap base n : Nat} {spare : Nat → Bool} {held : Bool} {y : DataW H × List MemPlace} {B : Nat} (ht : P.underlying t = some (.slice e)) (h : DataW.trod enc P w base spare held n t [.slice ao k cap] = some y)
    (hw : (y.1.weights P t).all (· ≤ B) = true) : k * P.bytesOf e ≤ B := by
  rcases DataW.trod_slice ht h with ⟨h1, -⟩ | ⟨a, len, cap2, elems, rest, m, -, h1, rfl, -, -, -, hl, -⟩
  · simp only [List.cons.injEq, and_true, Value.slice.injEq] at h1
    obtain ⟨-, rfl, -⟩ := h1
    simp
  · simp only [List.cons.injEq, and_true, Value.slice.injEq] at h1
    obtain ⟨-, rfl, -⟩ := h1
    simp only [DataW.weights, ht, List.all_cons, Bool.and_eq_true, decide_eq_true_eq, List.length_map] at hw
    refine Nat.le_trans ?_ hw.1
    exact Nat.mul_le_mul_right _ (by omega)
theorem hier_reach_of {u a b x l : TypeId} {A : HA} {D : HierD} {base : Nat} {spare : Nat → Bool} {held : Bool} {d : DataW H} {p : List MemPlace} (ht : HierType P u a b) (hta : P.underlying a = some (.slice x)) (htb : P.underlying b = some (.slice l)) (bx : P.bytesOf x = 4) (bl : P.bytesOf l = 24)
    (h : DataW.Trod enc P w base spare held u (hierVal A D) d p) (hw : (d.weights P u).all (· ≤ reachBytes) = true) : Reach5 D := by
  obtain ⟨hcs, hct, f0, f1, f2, f3, f4, hu, hone, t0, t1, t2, t3, t4⟩ := ht
  obtain ⟨fuel, hf⟩ := h
  obtain ⟨xs, n, _, hx, _, hlen, hg⟩ := DataW.trod_struct hu hf
  obtain ⟨o0, k0⟩ := hone_of hone 0 f0 rfl
  obtain ⟨o1, k1⟩ := hone_of hone 1 f1 rfl
  obtain ⟨o2, k2⟩ := hone_of hone 2 f2 rfl
  obtain ⟨o3, k3⟩ := hone_of hone 3 f3 rfl
  obtain ⟨o4, k4⟩ := hone_of hone 4 f4 rfl
  match xs, hlen with
  | [y0, y1, y2, y3, y4], _ =>
    have h0 : DataW.trod enc P w base spare held n f0.type [.slice A.a0 D.node.length A.c0] = some y0 := by simpa [hierVal, Value.cells, o0, k0] using hg 0 f0 rfl
    have h1 : DataW.trod enc P w base spare held n f1.type [.slice A.a1 D.upF.length A.c1] = some y1 := by simpa [hierVal, Value.cells, o1, k1] using hg 1 f1 rfl
    have h2 : DataW.trod enc P w base spare held n f2.type [.slice A.a2 D.up.length A.c2] = some y2 := by simpa [hierVal, Value.cells, o2, k2] using hg 2 f2 rfl
    have h3 : DataW.trod enc P w base spare held n f3.type [.slice A.a3 D.dnF.length A.c3] = some y3 := by simpa [hierVal, Value.cells, o3, k3] using hg 3 f3 rfl
    have h4 : DataW.trod enc P w base spare held n f4.type [.slice A.a4 D.dn.length A.c4] = some y4 := by simpa [hierVal, Value.cells, o4, k4] using hg 4 f4 rfl
    rw [t0] at h0; rw [t1] at h1; rw [t2] at h2; rw [t3] at h3; rw [t4] at h4
    simp only [Prod.mk.injEq] at hx
    obtain ⟨rfl, -⟩ := hx
    simp only [DataW.weights, hu, List.map_cons, List.map_nil, DataW.weightsEach, List.all_append, List.append_nil, Bool.and_eq_true, t0, t1, t2, t3, t4] at hw
    obtain ⟨w0, w1, w2, w3, w4⟩ := hw
    have r0 := slice_weight hta h0 w0
    have r1 := slice_weight hta h1 w1
    have r2 := slice_weight htb h2 w2
    have r3 := slice_weight hta h3 w3
    have r4 := slice_weight htb h4 w4
    rw [bx] at r0 r1 r3
    rw [bl] at r2 r4
    have hB : reachBytes ≤ 140737488355328 := by decide
    exact ⟨by omega, by omega, by omega, by omega, by omega⟩
theorem hier_reach {A : HA} {D : HierD} {base : Nat} {spare : Nat → Bool} {held : Bool} {d : DataW H} {p : List MemPlace}
    (h : DataW.Trod enc Tryz.prog w base spare held 25 (hierVal A D) d p) (hw : (d.weights Tryz.prog 25).all (· ≤ reachBytes) = true) : Reach5 D :=
  hier_reach_of Tryz.hierType Tryz.underlying22 Tryz.underlying23 (by kernel_rfl) (by kernel_rfl) h hw
end
theorem Tryz.own : ownKnob Tryz.prog.godebug = none := by kernel_rfl
theorem Tryz.laid : laidOutB Tryz.prog = true := by kernel_rfl
theorem Tryz.et : Tryz.prog.globalNamed "errors.errorType" = some 0 := by kernel_rfl
theorem Tryz.rt : (Tryz.prog.cutTypes.find? (·.1 == "internal/reflectlite.rtype")).map (·.2) = some 186 := by kernel_rfl
theorem Tryz.oneRow : ((List.range 248).filter fun t => Tryz.prog.rowNamed t [101, 114, 114, 111, 114]) = [32] := by kernel_rfl
theorem Tryz.typesSize : Tryz.prog.types.size = 248 := by kernel_rfl
theorem readHier : Tryz.prog.readableRec 25 = true ∧ 25 < Tryz.prog.types.size := ⟨by kernel_rfl, of_decide_eq_true (by kernel_rfl)⟩
theorem readInt : Tryz.prog.readableRec 3 = true ∧ 3 < Tryz.prog.types.size := ⟨by kernel_rfl, of_decide_eq_true (by kernel_rfl)⟩
theorem wf64 {x : Int} (h : (Lit.int .i64 x).wf = true) : -9223372036854775808 ≤ x ∧ x ≤ 9223372036854775807 := by
  simp [Lit.wf, IntKind.min, IntKind.max, IntKind.signed, IntKind.bits] at h
  exact ⟨by omega, by omega⟩
theorem evar_of_laid {W : World} (h : laidMetH Tryz.prog [("errors.errorType", Rows.laid_errors_errorType)] W) : EVar W := by
  have h' : laidMet Tryz.prog [] W ∧ handlesMet Tryz.prog [("errors.errorType", Rows.laid_errors_errorType)] W := h
  obtain ⟨name, u, ty, e1, e2, e3, e4, e5⟩ := h'.2 _ (List.mem_singleton.2 rfl)
  have en : name = [101, 114, 114, 111, 114] := (Option.some.inj e1).symm
  subst en
  obtain rfl := Option.some.inj (Tryz.rt.symm.trans e2)
  have hm : ty ∈ (List.range 248).filter fun t => Tryz.prog.rowNamed t [101, 114, 114, 111, 114] := List.mem_filter.2 ⟨List.mem_range.2 (by rw [← Tryz.typesSize]; exact e3), e4⟩
  rw [Tryz.oneRow] at hm
  obtain rfl := List.mem_singleton.1 hm
  have hh : typeHandle Tryz.prog 32 = .pointer (some ⟨1, 32, none⟩) := by kernel_rfl
  rw [hh] at e5
  simpa [EVar] using World.var?_cell Tryz.et e5 0
noncomputable def laidWorld (os : Os) : World :=
  let w0 := World.holding Tryz.prog os ⟨#[], #[], []⟩
  { w0 with heap := w0.heap.modify 0 fun
      | .cells _ t frozen => .cells #[.iface 186 (.agg #[.pointer (some ⟨1, 32, none⟩)])] t frozen
      | o => o }
theorem laidWorld_met (os : Os) (args : Array Value) : laidMetH Tryz.prog [("errors.errorType", Rows.laid_errors_errorType)] ((laidWorld os).forCall (fun _ _ => 0) ⟨#[], args, []⟩).memory :=
  laidMetH_of_parts (laidMet_nil _ _) (by kernel_rfl)
end Go.Proofs.YtblkkjfpggcgfaaGreatDoor
