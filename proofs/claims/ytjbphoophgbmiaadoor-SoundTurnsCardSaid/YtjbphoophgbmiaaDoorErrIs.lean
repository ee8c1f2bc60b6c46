/- errors.Is, where an error is a number, or a fault round a number, and the target is a number. -/
import Derived.Test.YtjbphoophgbmiaaDoorQuery4
import Derived.LaidEql
import Derived.Stop.Asserts
import Derived.RowKitTokens
namespace Go.Proofs.YtjbphoophgbmiaaDoor
open Go.RowKit Go.Extern.Stop Go.Stop Go.Extern

/-- Two errors that are numbers: alike where the numbers are. -/
theorem run_equalIn_num {P : Program} (w : World) (d : Nat) {ti tn : TypeId} {ms : Array (String × TypeId)} {i : TypeInfo} {k : IntKind} (a b : Int)
    (hi : P.underlying ti = some (.interface ms)) (hn : P.underlying tn = some (.int k)) (hinfo : P.info? tn = some i) (hcomp : i.comparable = true) :
    (Op.equalIn (d + 2) ti (.iface tn (.int k a)) (.iface tn (.int k b))).run P w = .ok (a == b) w := by
  simp [Op.equalIn, run_underlying hi, run_underlying hn, typeInfo, hinfo, hcomp]
theorem run_eql_num {P : Program} (w : World) {ti tn : TypeId} {ms : Array (String × TypeId)} {i : TypeInfo} {k : IntKind} (a b : Int)
    (hi : P.underlying ti = some (.interface ms)) (hn : P.underlying tn = some (.int k)) (hinfo : P.info? tn = some i) (hcomp : i.comparable = true) :
    (binOp .eql ti (.iface tn (.int k a)) (.iface tn (.int k b))).run P w = .ok (.bool (a == b)) w := by
  simp only [binOp]
  simp [Op.equal, Op.maxDepth, run_equalIn_num w 9998 a b hi hn hinfo hcomp]

theorem Tryd.errCmp : (Tryd.prog.info? 45).map (·.comparable) = some true := by kernel_rfl
theorem Tryd.eqlErrno (a b : Int) (w : World) : (binOp .eql 34 (.iface 45 (.int .i64 a)) (.iface 45 (.int .i64 b))).run Tryd.prog w = .ok (.bool (a == b)) w := by
  obtain ⟨i, hi, hc⟩ := Option.map_eq_some_iff.1 Tryd.errCmp
  exact run_eql_num w a b Tryd.underlying34 Tryd.underlying45 hi hc
theorem Tryd.eqlFault (g : Option Addr) (b : Int) (w : World) : (binOp .eql 34 (.iface 83 (.pointer g)) (.iface 45 (.int .i64 b))).run Tryd.prog w = .ok (.bool false) w :=
  run_eql_iface_types (P := Tryd.prog) 83 45 (.pointer g) (.int .i64 b) Tryd.underlying34 (by decide) w
theorem Tryd.typeOfErrno (v : Value) (w : World) : (ReflectliteType.typeOf #[.iface 45 v]).run Tryd.prog w = .ok (.iface 163 (.agg #[.pointer (some ⟨1, 45, none⟩)])) w := by kernel_rfl
theorem Tryd.comparableErrno (w : World) : ((ReflectliteType.method fun t => do Rtype.noPackHeld "Comparable" t; (fun a => Value.bool a.comparable) <$> typeInfo t) #[.agg #[.pointer (some ⟨1, 45, none⟩)]]).run Tryd.prog w = .ok (.bool true) w := by kernel_rfl
theorem Tryd.noIsErrno (v : Value) (xT : TypeId) (w : World) : (Instr.typeAssert (.iface 45 v) xT 174 true).run Tryd.prog w = .ok (.tuple #[.nilIface, .bool false]) w := run_typeAssert_lacksB Tryd.underlying174 (by kernel_rfl) (by kernel_rfl) v xT w
theorem Tryd.noUnwrapErrno (v : Value) (xT : TypeId) (w : World) : (Instr.typeAssert (.iface 45 v) xT 170 true).run Tryd.prog w = .ok (.tuple #[.nilIface, .bool false]) w := run_typeAssert_lacksB Tryd.underlying170 (by kernel_rfl) (by kernel_rfl) v xT w
theorem Tryd.noUnwrapsErrno (v : Value) (xT : TypeId) (w : World) : (Instr.typeAssert (.iface 45 v) xT 172 true).run Tryd.prog w = .ok (.tuple #[.nilIface, .bool false]) w := run_typeAssert_lacksB Tryd.underlying172 (by kernel_rfl) (by kernel_rfl) v xT w
theorem Tryd.noIsFault (v : Value) (xT : TypeId) (w : World) : (Instr.typeAssert (.iface 83 v) xT 174 true).run Tryd.prog w = .ok (.tuple #[.nilIface, .bool false]) w := run_typeAssert_lacksB Tryd.underlying174 (by kernel_rfl) (by kernel_rfl) v xT w
theorem Tryd.hasUnwrapFault (v : Value) (xT : TypeId) (w : World) : (Instr.typeAssert (.iface 83 v) xT 170 true).run Tryd.prog w = .ok (.tuple #[.iface 83 v, .bool true]) w := run_typeAssert_hasB Tryd.underlying170 (by kernel_rfl) v xT w

set_option maxRecDepth 100000 in
theorem is_errno (n m : Int) (w : World) : Calls Tryd.prog 47 #[.iface 45 (.int .i64 n), .iface 45 (.int .i64 m)] w fun e w' => e = .returned (.bool (n == m)) ∧ w' = w := by
  have h8 := fun (args : Array Value) (W : World) => run_callFunc_extern (P := Tryd.prog) (f := 78) (e := ReflectliteType.typeOf) Tryd.func78 (by kernel_rfl) (by kernel_rfl) (by kernel_rfl) (by kernel_rfl) args W
  have h32 := fun (args : Array Value) (W : World) => run_callFunc_extern (P := Tryd.prog) (f := 143) (e := ReflectliteType.method fun t => do Rtype.noPackHeld "Comparable" t; pure (.bool (← typeInfo t).comparable)) Tryd.func143 (by kernel_rfl) (by kernel_rfl) (by kernel_rfl) (by kernel_rfl) args W
  have tT := Tryd.typeOfErrno
  have cT := Tryd.comparableErrno
  have heq := Tryd.eqlErrno n m
  have nE := Tryd.noIsErrno
  have uE := Tryd.noUnwrapErrno
  have vE := Tryd.noUnwrapsErrno
  have hd : ((n == m) = true) ∨ ((n == m) = false) := by cases n == m <;> simp
  rcases hd with hd | hd
  all_goals
    rw [hd]
    go_enter Tryd.func47, Tryd.ntmps47
    go_wp2
    refine wp_loop_rounds 1 ?_
    rw [rounds_succ]
    go_wp2
    go_returns
    exact ⟨rfl, rfl⟩
set_option maxRecDepth 100000 in
theorem is_fault (g : Nat) (n m : Int) (w : World) (hg : w.cell? ⟨g, 2, none⟩ = some (.iface 45 (.int .i64 n))) :
    Calls Tryd.prog 47 #[.iface 83 (.pointer (some ⟨g, 0, none⟩)), .iface 45 (.int .i64 m)] w fun e w' => e = .returned (.bool (n == m)) ∧ w' = w := by
  have h8 := fun (args : Array Value) (W : World) => run_callFunc_extern (P := Tryd.prog) (f := 78) (e := ReflectliteType.typeOf) Tryd.func78 (by kernel_rfl) (by kernel_rfl) (by kernel_rfl) (by kernel_rfl) args W
  have h32 := fun (args : Array Value) (W : World) => run_callFunc_extern (P := Tryd.prog) (f := 143) (e := ReflectliteType.method fun t => do Rtype.noPackHeld "Comparable" t; pure (.bool (← typeInfo t).comparable)) Tryd.func143 (by kernel_rfl) (by kernel_rfl) (by kernel_rfl) (by kernel_rfl) args W
  have tT := Tryd.typeOfErrno
  have cT := Tryd.comparableErrno
  have heq := Tryd.eqlErrno n m
  have hne := Tryd.eqlFault (some ⟨g, 0, none⟩) m
  have nE := Tryd.noIsErrno
  have uE := Tryd.noUnwrapErrno
  have vE := Tryd.noUnwrapsErrno
  have nF := Tryd.noIsFault
  have uF := Tryd.hasUnwrapFault
  have hd : ((n == m) = true) ∨ ((n == m) = false) := by cases n == m <;> simp
  rcases hd with hd | hd
  all_goals
    rw [hd]
    go_enter Tryd.func47, Tryd.ntmps47
    go_wp2
    refine wp_loop_rounds 2 ?_
    rw [rounds_succ]
    go_wp2
    rw [rounds_succ]
    go_wp2
    go_returns
    exact ⟨rfl, rfl⟩
end Go.Proofs.YtjbphoophgbmiaaDoor
