/- errors.Is, where an error is a number, or a fault round a number, and the target is a number. -/
import Derived.Test.YtjbphoophgbmiaaQuery4
import Derived.LaidEql
import Derived.Stop.Asserts
import Derived.RowKitTokens
namespace Go.Proofs.Ytjbphoophgbmiaa
open Go.RowKit Go.Extern.Stop Go.Stop Go.Extern

/-- Two errors that are numbers: alike where the numbers are. -/
theorem run_equalIn_num {P : Program} (w : World) (d : Nat) {ti tn : TypeId} {ms : Array (String × TypeId)} {i : TypeInfo} {k : IntKind} (a b : Int)
    (hi : P.underlying ti = some (.interface ms)) (hn : P.underlying tn = some (.int k)) (hinfo : P.info? tn = some i) (hcomp : i.comparable = true) :
    (Op.equalIn (d + 2) ti (.iface tn (.int k a)) (.iface tn (.int k b))).run P w = .ok (a == b) w := by
  simp [Op.equalIn, run_underlying hi, run_underlying hn, typeInfo, hinfo, hcomp]
theorem run_eql_num {P : Program} (w : World) {ti tn : TypeId} {ms : Array (String × TypeId)} {i : TypeInfo} {k : IntKind} (a b : Int)
    (hi : P.underlying ti = some (.interface ms)) (hn : P.underlying tn = some (.int k)) (hinfo : P.info? tn = some i) (hcomp : i.comparable = true) :
    (binOp .eql ti (.iface tn (.int k a)) (.iface tn (.int k b))).run P w = .ok (.bool (a == b)) w := by
  simp only [binOp]
  simp [Op.equal, Op.maxDepth, run_equalIn_num w 9998 a b hi hn hinfo hcomp]

theorem Try.errCmp : (Try.prog.info? 74).map (·.comparable) = some true := by kernel_rfl
theorem Try.eqlErrno (a b : Int) (w : World) : (binOp .eql 29 (.iface 74 (.int .i64 a)) (.iface 74 (.int .i64 b))).run Try.prog w = .ok (.bool (a == b)) w := by
  obtain ⟨i, hi, hc⟩ := Option.map_eq_some_iff.1 Try.errCmp
  exact run_eql_num w a b Try.underlying29 Try.underlying74 hi hc
theorem Try.eqlFault (g : Option Addr) (b : Int) (w : World) : (binOp .eql 29 (.iface 120 (.pointer g)) (.iface 74 (.int .i64 b))).run Try.prog w = .ok (.bool false) w :=
  run_eql_iface_types (P := Try.prog) 120 74 (.pointer g) (.int .i64 b) Try.underlying29 (by decide) w
theorem Try.typeOfErrno (v : Value) (w : World) : (ReflectliteType.typeOf #[.iface 74 v]).run Try.prog w = .ok (.iface 146 (.agg #[.pointer (some ⟨0, 74, none⟩)])) w := by kernel_rfl
theorem Try.comparableErrno (w : World) : ((ReflectliteType.method fun t => do Rtype.noPackHeld "Comparable" t; (fun a => Value.bool a.comparable) <$> typeInfo t) #[.agg #[.pointer (some ⟨0, 74, none⟩)]]).run Try.prog w = .ok (.bool true) w := by kernel_rfl
theorem Try.noIsErrno (v : Value) (xT : TypeId) (w : World) : (Instr.typeAssert (.iface 74 v) xT 148 true).run Try.prog w = .ok (.tuple #[.nilIface, .bool false]) w := run_typeAssert_lacksB Try.underlying148 (by kernel_rfl) (by kernel_rfl) v xT w
theorem Try.noUnwrapErrno (v : Value) (xT : TypeId) (w : World) : (Instr.typeAssert (.iface 74 v) xT 151 true).run Try.prog w = .ok (.tuple #[.nilIface, .bool false]) w := run_typeAssert_lacksB Try.underlying151 (by kernel_rfl) (by kernel_rfl) v xT w
theorem Try.noUnwrapsErrno (v : Value) (xT : TypeId) (w : World) : (Instr.typeAssert (.iface 74 v) xT 153 true).run Try.prog w = .ok (.tuple #[.nilIface, .bool false]) w := run_typeAssert_lacksB Try.underlying153 (by kernel_rfl) (by kernel_rfl) v xT w
theorem Try.noIsFault (v : Value) (xT : TypeId) (w : World) : (Instr.typeAssert (.iface 120 v) xT 148 true).run Try.prog w = .ok (.tuple #[.nilIface, .bool false]) w := run_typeAssert_lacksB Try.underlying148 (by kernel_rfl) (by kernel_rfl) v xT w
theorem Try.hasUnwrapFault (v : Value) (xT : TypeId) (w : World) : (Instr.typeAssert (.iface 120 v) xT 151 true).run Try.prog w = .ok (.tuple #[.iface 120 v, .bool true]) w := run_typeAssert_hasB Try.underlying151 (by kernel_rfl) v xT w

set_option maxRecDepth 100000 in
theorem is_errno (n m : Int) (w : World) : Calls Try.prog 53 #[.iface 74 (.int .i64 n), .iface 74 (.int .i64 m)] w fun e w' => e = .returned (.bool (n == m)) ∧ w' = w := by
  have h8 := fun (args : Array Value) (W : World) => run_callFunc_extern (P := Try.prog) (f := 62) (e := ReflectliteType.typeOf) Try.func62 (by kernel_rfl) (by kernel_rfl) (by kernel_rfl) (by kernel_rfl) args W
  have h32 := fun (args : Array Value) (W : World) => run_callFunc_extern (P := Try.prog) (f := 112) (e := ReflectliteType.method fun t => do Rtype.noPackHeld "Comparable" t; pure (.bool (← typeInfo t).comparable)) Try.func112 (by kernel_rfl) (by kernel_rfl) (by kernel_rfl) (by kernel_rfl) args W
  have tT := Try.typeOfErrno
  have cT := Try.comparableErrno
  have heq := Try.eqlErrno n m
  have nE := Try.noIsErrno
  have uE := Try.noUnwrapErrno
  have vE := Try.noUnwrapsErrno
  have hd : ((n == m) = true) ∨ ((n == m) = false) := by cases n == m <;> simp
  rcases hd with hd | hd
  all_goals
    rw [hd]
    go_enter Try.func53, Try.ntmps53
    go_wp2
    refine wp_loop_rounds 1 ?_
    rw [rounds_succ]
    go_wp2
    go_returns
    exact ⟨rfl, rfl⟩
set_option maxRecDepth 100000 in
theorem is_fault (g : Nat) (n m : Int) (w : World) (hg : w.cell? ⟨g, 2, none⟩ = some (.iface 74 (.int .i64 n))) :
    Calls Try.prog 53 #[.iface 120 (.pointer (some ⟨g, 0, none⟩)), .iface 74 (.int .i64 m)] w fun e w' => e = .returned (.bool (n == m)) ∧ w' = w := by
  have h8 := fun (args : Array Value) (W : World) => run_callFunc_extern (P := Try.prog) (f := 62) (e := ReflectliteType.typeOf) Try.func62 (by kernel_rfl) (by kernel_rfl) (by kernel_rfl) (by kernel_rfl) args W
  have h32 := fun (args : Array Value) (W : World) => run_callFunc_extern (P := Try.prog) (f := 112) (e := ReflectliteType.method fun t => do Rtype.noPackHeld "Comparable" t; pure (.bool (← typeInfo t).comparable)) Try.func112 (by kernel_rfl) (by kernel_rfl) (by kernel_rfl) (by kernel_rfl) args W
  have tT := Try.typeOfErrno
  have cT := Try.comparableErrno
  have heq := Try.eqlErrno n m
  have hne := Try.eqlFault (some ⟨g, 0, none⟩) m
  have nE := Try.noIsErrno
  have uE := Try.noUnwrapErrno
  have vE := Try.noUnwrapsErrno
  have nF := Try.noIsFault
  have uF := Try.hasUnwrapFault
  have hd : ((n == m) = true) ∨ ((n == m) = false) := by cases n == m <;> simp
  rcases hd with hd | hd
  all_goals
    rw [hd]
    go_enter Try.func53, Try.ntmps53
    go_wp2
    refine wp_loop_rounds 2 ?_
    rw [rounds_succ]
    go_wp2
    rw [rounds_succ]
    go_wp2
    go_returns
    exact ⟨rfl, rfl⟩
end Go.Proofs.Ytjbphoophgbmiaa
