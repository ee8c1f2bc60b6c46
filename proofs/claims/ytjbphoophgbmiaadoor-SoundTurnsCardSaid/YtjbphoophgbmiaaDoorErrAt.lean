/- errors.As: a fault round a number, at a number; a number, at a pointer to a fault. -/
import Derived.Test.YtjbphoophgbmiaaDoorErrAs
namespace Go.Proofs.YtjbphoophgbmiaaDoor
open Go.RowKit Go.Extern.Stop Go.Stop Go.Extern

set_option maxRecDepth 100000 in
set_option maxHeartbeats 4000000 in
theorem as_fault_num_run (g : Nat) (e : Int) (t : Addr) (old : Value) (w : World) (hg : w.cell? ⟨0, 0, none⟩ = some (.iface 163 (.agg #[.pointer (some ⟨1, 34, none⟩)]))) (ht0 : w.cell? t = some old) (hf0 : w.frozen? t = false) (hg3 : w.cell? ⟨g, 2, none⟩ = some (.iface 45 (.int .i64 e))) :
    Calls Tryd.prog 46 #[.iface 83 (.pointer (some ⟨g, 0, none⟩)), .iface 88 (.pointer (some t))] w fun ev w' => ev = .returned (.bool true) ∧ w' = ((((w.alloc (.cells #[.pointer (some t)] 88)).alloc (.cells #[.pointer (some ⟨1, 88, none⟩), .pointer (some ⟨w.heap.size, 0, none⟩), .int .u64 150] 126)).alloc (.cells #[.pointer (some ⟨1, 88, none⟩), .pointer (some ⟨w.heap.size, 0, none⟩), .int .u64 150] 126)).alloc (.cells #[.int .i64 e] 45)).setCell t (.int .i64 e) := by
  have x6 := fun (args : Array Value) (W : World) => run_callFunc_extern (P := Tryd.prog) (f := 74) (e := fun args => ReflectliteValue.unpack (args.getD 0 (.tuple #[]))) Tryd.func74 (by kernel_rfl) (by kernel_rfl) (by kernel_rfl) (by kernel_rfl) args W
  have x7 := fun (args : Array Value) (W : World) => run_callFunc_extern (P := Tryd.prog) (f := 75) (e := ReflectliteValue.methodAny (ReflectliteValue.valueError "reflectlite.Value.Type" 0) (fun t _ _ _ => ReflectliteType.toType t)) Tryd.func75 (by kernel_rfl) (by kernel_rfl) (by kernel_rfl) (by kernel_rfl) args W
  have x8 := fun (args : Array Value) (W : World) => run_callFunc_extern (P := Tryd.prog) (f := 76) (e := ReflectliteValue.method (ReflectliteValue.valueError "reflectlite.Value.IsNil" 0) ReflectliteValue.isNil) Tryd.func76 (by kernel_rfl) (by kernel_rfl) (by kernel_rfl) (by kernel_rfl) args W
  have x27 := fun (args : Array Value) (W : World) => run_callFunc_extern (P := Tryd.prog) (f := 131) (e := ReflectliteType.abiMethod fun t => do pure (.int .u8 (← Rtype.kind t))) Tryd.func131 (by kernel_rfl) (by kernel_rfl) (by kernel_rfl) (by kernel_rfl) args W
  have x37 := fun (args : Array Value) (W : World) => run_callFunc_extern (P := Tryd.prog) (f := 144) (e := ReflectliteType.method ReflectliteType.elem) Tryd.func144 (by kernel_rfl) (by kernel_rfl) (by kernel_rfl) (by kernel_rfl) args W
  have x38 := fun (args : Array Value) (W : World) => run_callFunc_extern (P := Tryd.prog) (f := 145) (e := ReflectliteType.relation "Implements" ReflectliteType.implements_) Tryd.func145 (by kernel_rfl) (by kernel_rfl) (by kernel_rfl) (by kernel_rfl) args W
  have x10 := fun (args : Array Value) (W : World) => run_callFunc_extern (P := Tryd.prog) (f := 78) (e := ReflectliteType.typeOf) Tryd.func78 (by kernel_rfl) (by kernel_rfl) (by kernel_rfl) (by kernel_rfl) args W
  have x35 := fun (args : Array Value) (W : World) => run_callFunc_extern (P := Tryd.prog) (f := 142) (e := ReflectliteType.relation "AssignableTo" ReflectliteType.assignableTo) Tryd.func142 (by kernel_rfl) (by kernel_rfl) (by kernel_rfl) (by kernel_rfl) args W
  have x11 := fun (args : Array Value) (W : World) => run_callFunc_extern (P := Tryd.prog) (f := 90) (e := ReflectliteValue.method (ReflectliteValue.valueError "reflectlite.Value.Elem" 0) ReflectliteValue.elem) Tryd.func90 (by kernel_rfl) (by kernel_rfl) (by kernel_rfl) (by kernel_rfl) args W
  have x12 := fun (args : Array Value) (W : World) => run_callFunc_extern (P := Tryd.prog) (f := 91) (e := ReflectliteValue.set) Tryd.func91 (by kernel_rfl) (by kernel_rfl) (by kernel_rfl) (by kernel_rfl) args W
  have f6 := Tryd.valueOfENP
  have f7 := Tryd.typeENP
  have k27 := Tryd.kindENP
  have k25 := Tryd.kindEENP
  have e27 := Tryd.elemENP
  have i25 := Tryd.implementsENP
  have n8 := Tryd.isNilENP ⟨w.heap.size, 0, none⟩ t ((w.alloc (.cells #[.pointer (some t)] 88)).alloc (.cells #[.pointer (some ⟨1, 88, none⟩), .pointer (some ⟨w.heap.size, 0, none⟩), .int .u64 150] 126)) (by simp)
  have hlt : 0 < w.heap.size := World.block_lt_of_cell? w _ hg
  have hg2 : ((w.alloc (.cells #[.pointer (some t)] 88)).alloc (.cells #[.pointer (some ⟨1, 88, none⟩), .pointer (some ⟨w.heap.size, 0, none⟩), .int .u64 150] 126)).cell? ⟨0, 0, none⟩ = some (.iface 163 (.agg #[.pointer (some ⟨1, 34, none⟩)])) := by
    rw [World.cell?_alloc_lt _ _ ⟨0, 0, none⟩ (by simp), World.cell?_alloc_lt _ _ ⟨0, 0, none⟩ hlt]; exact hg
  have htl : t.block < w.heap.size := World.block_lt_of_cell? w _ ht0
  have el := Tryd.elemVENP ⟨w.heap.size, 0, none⟩ t (((w.alloc (.cells #[.pointer (some t)] 88)).alloc (.cells #[.pointer (some ⟨1, 88, none⟩), .pointer (some ⟨w.heap.size, 0, none⟩), .int .u64 150] 126)).alloc (.cells #[.pointer (some ⟨1, 88, none⟩), .pointer (some ⟨w.heap.size, 0, none⟩), .int .u64 150] 126)) (by rw [World.cell?_alloc_lt _ _ ⟨w.heap.size, 0, none⟩ (by simp; omega)]; simp)
  have st := Tryd.setENP t ⟨w.heap.size + 1 + 1 + 1, 0, none⟩ e old ((((w.alloc (.cells #[.pointer (some t)] 88)).alloc (.cells #[.pointer (some ⟨1, 88, none⟩), .pointer (some ⟨w.heap.size, 0, none⟩), .int .u64 150] 126)).alloc (.cells #[.pointer (some ⟨1, 88, none⟩), .pointer (some ⟨w.heap.size, 0, none⟩), .int .u64 150] 126)).alloc (.cells #[.int .i64 e] 45))
    (by rw [World.cell?_alloc_at _ _ _ _ (by simp)]; rfl)
    (by rw [World.cell?_alloc_lt _ _ t (by simp; omega), World.cell?_alloc_lt _ _ t (by simp; omega), World.cell?_alloc_lt _ _ t (by simp; omega), World.cell?_alloc_lt _ _ t htl]; exact ht0)
    (by rw [World.frozen?_alloc_old _ _ t (by simp; omega), World.frozen?_alloc_old _ _ t (by simp; omega), World.frozen?_alloc_old _ _ t (by simp; omega), World.frozen?_alloc_old _ _ t (Nat.ne_of_lt htl)]; exact hf0)
  have hgl : g < w.heap.size := World.block_lt_of_cell? w _ hg3
  have hg4 : (((w.alloc (.cells #[.pointer (some t)] 88)).alloc (.cells #[.pointer (some ⟨1, 88, none⟩), .pointer (some ⟨w.heap.size, 0, none⟩), .int .u64 150] 126)).alloc (.cells #[.pointer (some ⟨1, 88, none⟩), .pointer (some ⟨w.heap.size, 0, none⟩), .int .u64 150] 126)).cell? ⟨g, 2, none⟩ = some (.iface 45 (.int .i64 e)) := by
    rw [World.cell?_alloc_lt _ _ ⟨g, 2, none⟩ (by simp; omega), World.cell?_alloc_lt _ _ ⟨g, 2, none⟩ (by simp; omega), World.cell?_alloc_lt _ _ ⟨g, 2, none⟩ hgl]; exact hg3
  have tO := Tryd.typeOfE
  have tF := Tryd.typeOfF
  have a25 := Tryd.assignEE
  have aF := Tryd.assignFE
  have v25 := Tryd.valueOfE
  have nF := Tryd.noAsF
  have uF := Tryd.unwF
  go_enter Tryd.func46, Tryd.ntmps46
  go_wp2
  refine wp_loop_rounds 2 ?_
  rw [rounds_succ]
  go_wp2
  rw [rounds_succ]
  go_wp2
  go_ret
  exact ⟨rfl, rfl⟩
/-- errors.As of a fault round a number, at a number. -/
theorem as_fault_errno (g : Nat) (e : Int) (tb : Nat) (old : Value) (w : World) (hg : EVar w) (ht : Cells w tb 45 [old]) (hg3 : w.cell? ⟨g, 2, none⟩ = some (.iface 45 (.int .i64 e))) :
    Calls Tryd.prog 46 #[.iface 83 (.pointer (some ⟨g, 0, none⟩)), .iface 88 (.pointer (some ⟨tb, 0, none⟩))] w fun ev w' => ev = .returned (.bool true) ∧ Cells w' tb 45 [.int .i64 e] ∧ Only [tb] w w' :=
  (as_fault_num_run g e ⟨tb, 0, none⟩ old w hg (ht.cell rfl) (ht.frozen 0) hg3).mono fun ev w' ⟨h1, h2⟩ => ⟨h1, h2 ▸ (((((ht.alloc _).alloc _).alloc _).alloc _).set 0 _), h2 ▸ (((((Only.refl [tb] w).alloc _).alloc _).alloc _).alloc _).setCell (.inl (by simp)) _⟩

set_option maxRecDepth 100000 in
set_option maxHeartbeats 4000000 in
/-- errors.As of a number, at a pointer to a fault: no. -/
theorem as_num_fault (e : Int) (t : Addr) (w : World) (hg : EVar w) :
    Calls Tryd.prog 46 #[.iface 45 (.int .i64 e), .iface 85 (.pointer (some t))] w fun ev w' => ev = .returned (.bool false) ∧ Below w.heap.size w w' := by
  unfold EVar at hg
  have x6 := fun (args : Array Value) (W : World) => run_callFunc_extern (P := Tryd.prog) (f := 74) (e := fun args => ReflectliteValue.unpack (args.getD 0 (.tuple #[]))) Tryd.func74 (by kernel_rfl) (by kernel_rfl) (by kernel_rfl) (by kernel_rfl) args W
  have x7 := fun (args : Array Value) (W : World) => run_callFunc_extern (P := Tryd.prog) (f := 75) (e := ReflectliteValue.methodAny (ReflectliteValue.valueError "reflectlite.Value.Type" 0) (fun t _ _ _ => ReflectliteType.toType t)) Tryd.func75 (by kernel_rfl) (by kernel_rfl) (by kernel_rfl) (by kernel_rfl) args W
  have x8 := fun (args : Array Value) (W : World) => run_callFunc_extern (P := Tryd.prog) (f := 76) (e := ReflectliteValue.method (ReflectliteValue.valueError "reflectlite.Value.IsNil" 0) ReflectliteValue.isNil) Tryd.func76 (by kernel_rfl) (by kernel_rfl) (by kernel_rfl) (by kernel_rfl) args W
  have x27 := fun (args : Array Value) (W : World) => run_callFunc_extern (P := Tryd.prog) (f := 131) (e := ReflectliteType.abiMethod fun t => do pure (.int .u8 (← Rtype.kind t))) Tryd.func131 (by kernel_rfl) (by kernel_rfl) (by kernel_rfl) (by kernel_rfl) args W
  have x37 := fun (args : Array Value) (W : World) => run_callFunc_extern (P := Tryd.prog) (f := 144) (e := ReflectliteType.method ReflectliteType.elem) Tryd.func144 (by kernel_rfl) (by kernel_rfl) (by kernel_rfl) (by kernel_rfl) args W
  have x38 := fun (args : Array Value) (W : World) => run_callFunc_extern (P := Tryd.prog) (f := 145) (e := ReflectliteType.relation "Implements" ReflectliteType.implements_) Tryd.func145 (by kernel_rfl) (by kernel_rfl) (by kernel_rfl) (by kernel_rfl) args W
  have x10 := fun (args : Array Value) (W : World) => run_callFunc_extern (P := Tryd.prog) (f := 78) (e := ReflectliteType.typeOf) Tryd.func78 (by kernel_rfl) (by kernel_rfl) (by kernel_rfl) (by kernel_rfl) args W
  have x35 := fun (args : Array Value) (W : World) => run_callFunc_extern (P := Tryd.prog) (f := 142) (e := ReflectliteType.relation "AssignableTo" ReflectliteType.assignableTo) Tryd.func142 (by kernel_rfl) (by kernel_rfl) (by kernel_rfl) (by kernel_rfl) args W
  have x11 := fun (args : Array Value) (W : World) => run_callFunc_extern (P := Tryd.prog) (f := 90) (e := ReflectliteValue.method (ReflectliteValue.valueError "reflectlite.Value.Elem" 0) ReflectliteValue.elem) Tryd.func90 (by kernel_rfl) (by kernel_rfl) (by kernel_rfl) (by kernel_rfl) args W
  have x12 := fun (args : Array Value) (W : World) => run_callFunc_extern (P := Tryd.prog) (f := 91) (e := ReflectliteValue.set) Tryd.func91 (by kernel_rfl) (by kernel_rfl) (by kernel_rfl) (by kernel_rfl) args W
  have f6 := Tryd.valueOfFPP
  have f7 := Tryd.typeFPP
  have k27 := Tryd.kindFPP
  have k25 := Tryd.kindEFPP
  have e27 := Tryd.elemFPP
  have i25 := Tryd.implementsFPP
  have n8 := Tryd.isNilFPP ⟨w.heap.size, 0, none⟩ t ((w.alloc (.cells #[.pointer (some t)] 85)).alloc (.cells #[.pointer (some ⟨1, 85, none⟩), .pointer (some ⟨w.heap.size, 0, none⟩), .int .u64 150] 126)) (by simp)
  have hlt : 0 < w.heap.size := World.block_lt_of_cell? w _ hg
  have hg2 : ((w.alloc (.cells #[.pointer (some t)] 85)).alloc (.cells #[.pointer (some ⟨1, 85, none⟩), .pointer (some ⟨w.heap.size, 0, none⟩), .int .u64 150] 126)).cell? ⟨0, 0, none⟩ = some (.iface 163 (.agg #[.pointer (some ⟨1, 34, none⟩)])) := by
    rw [World.cell?_alloc_lt _ _ ⟨0, 0, none⟩ (by simp), World.cell?_alloc_lt _ _ ⟨0, 0, none⟩ hlt]; exact hg
  have tO := Tryd.typeOfE
  have aE := Tryd.assignEF
  have nE := Tryd.noAsE
  have uE := Tryd.unwE
  have vE := Tryd.unwsE
  go_enter Tryd.func46, Tryd.ntmps46
  go_wp2
  refine wp_loop_rounds 1 ?_
  rw [rounds_succ]
  go_wp2
  go_ret
  exact ⟨rfl, by go_grown⟩
end Go.Proofs.YtjbphoophgbmiaaDoor
