/- errors.Is, where an error is a number, or a fault round a number, and the target is a number. -/
import Derived.Test.YtjbphoophgbmiaaDoorM5
import Derived.LaidEql
import Derived.Stop.Asserts
import Derived.RowKitTokens
import Derived.Test.YtjbphoophgbmiaaDoorM1
import Derived.Test.YtjbphoophgbmiaaDoorM6
import Derived.Deep.RegionHeld3
import Derived.Test.YtjbphoophgbmiaaDoorCards
import Derived.Test.YtjbphoophgbmiaaDoorTie
import Derived.ChangeSame
import Derived.ChangeVars
import Derived.JoinedOf
import Derived.LaidLaws
import Derived.LaidHandle
import Derived.Stop.Joined
import Derived.SevenTiedAt
namespace Go.Proofs.YtjbphoophgbmiaaDoor
open Go.RowKit Go.Extern.Stop Go.Stop Go.Extern

/-- Two errors that are numbers: alike where the numbers are. -/
theorem run_equalIn_num {P : Program} (w : World) (d : Nat) {ti tn : TypeId} {ms : Array (String × TypeId)} {i : TypeInfo} {k : IntKind} (a b : Int)
    (hi : P.underlying ti = some (.interface ms)) (hn : P.underlying tn = some (.int k)) (hinfo : P.info? tn = some i) (hcomp : i.comparable = true) :
    (Op.equalIn (d + 2) ti (.iface tn (.int k a)) (.iface tn (.int k b))).run P w = .ok (a == b) w := by
  simp [Op.equalIn, run_underlying hi, run_underlying hn, typeInfo, hinfo, hcomp]
theorem run_eql_num {P : Program} (w : World) {ti tn : TypeId} {ms : Array (String × TypeId)} {i : TypeInfo} {k : IntKind} (a b : Int)
    (hi : P.underlying ti = some (.interface ms)) (hn : P.underlying tn = some (.int k)) (hinfo : P.info? tn = some i) (hcomp : i.comparable = true) :
    (binOp .eql ti (.iface tn (.int k a)) (.iface tn (.int k b))).run P w = .ok (.bool (a == b)) w := by
  simp only [binOp]
  simp [Op.equal, Op.maxDepth, run_equalIn_num w 9998 a b hi hn hinfo hcomp]

theorem Tryd.errCmp : (Tryd.prog.info? 45).map (·.comparable) = some true := by kernel_rfl
theorem Tryd.eqlErrno (a b : Int) (w : World) : (binOp .eql 34 (.iface 45 (.int .i64 a)) (.iface 45 (.int .i64 b))).run Tryd.prog w = .ok (.bool (a == b)) w := by
  obtain ⟨i, hi, hc⟩ := Option.map_eq_some_iff.1 Tryd.errCmp
  exact run_eql_num w a b Tryd.underlying34 Tryd.underlying45 hi hc
theorem Tryd.eqlFault (g : Option Addr) (b : Int) (w : World) : (binOp .eql 34 (.iface 83 (.pointer g)) (.iface 45 (.int .i64 b))).run Tryd.prog w = .ok (.bool false) w :=
  run_eql_iface_types (P := Tryd.prog) 83 45 (.pointer g) (.int .i64 b) Tryd.underlying34 (by decide) w
theorem Tryd.typeOfErrno (v : Value) (w : World) : (ReflectliteType.typeOf #[.iface 45 v]).run Tryd.prog w = .ok (.iface 163 (.agg #[.pointer (some ⟨1, 45, none⟩)])) w := by kernel_rfl
theorem Tryd.comparableErrno (w : World) : ((ReflectliteType.method fun t => do Rtype.noPackHeld "Comparable" t; (fun a => Value.bool a.comparable) <$> typeInfo t) #[.agg #[.pointer (some ⟨1, 45, none⟩)]]).run Tryd.prog w = .ok (.bool true) w := by kernel_rfl
theorem Tryd.noIsErrno (v : Value) (xT : TypeId) (w : World) : (Instr.typeAssert (.iface 45 v) xT 174 true).run Tryd.prog w = .ok (.tuple #[.nilIface, .bool false]) w := run_typeAssert_lacksB Tryd.underlying174 (by kernel_rfl) (by kernel_rfl) v xT w
theorem Tryd.noUnwrapErrno (v : Value) (xT : TypeId) (w : World) : (Instr.typeAssert (.iface 45 v) xT 170 true).run Tryd.prog w = .ok (.tuple #[.nilIface, .bool false]) w := run_typeAssert_lacksB Tryd.underlying170 (by kernel_rfl) (by kernel_rfl) v xT w
theorem Tryd.noUnwrapsErrno (v : Value) (xT : TypeId) (w : World) : (Instr.typeAssert (.iface 45 v) xT 172 true).run Tryd.prog w = .ok (.tuple #[.nilIface, .bool false]) w := run_typeAssert_lacksB Tryd.underlying172 (by kernel_rfl) (by kernel_rfl) v xT w
theorem Tryd.noIsFault (v : Value) (xT : TypeId) (w : World) : (Instr.typeAssert (.iface 83 v) xT 174 true).run Tryd.prog w = .ok (.tuple #[.nilIface, .bool false]) w := run_typeAssert_lacksB Tryd.underlying174 (by kernel_rfl) (by kernel_rfl) v xT w
theorem Tryd.hasUnwrapFault (v : Value) (xT : TypeId) (w : World) : (Instr.typeAssert (.iface 83 v) xT 170 true).run Tryd.prog w = .ok (.tuple #[.iface 83 v, .bool true]) w := run_typeAssert_hasB Tryd.underlying170 (by kernel_rfl) v xT w

set_option maxRecDepth 100000 in
theorem is_errno (n m : Int) (w : World) : Calls Tryd.prog 47 #[.iface 45 (.int .i64 n), .iface 45 (.int .i64 m)] w fun e w' => e = .returned (.bool (n == m)) ∧ w' = w := by
  have h8 := fun (args : Array Value) (W : World) => run_callFunc_extern (P := Tryd.prog) (f := 78) (e := ReflectliteType.typeOf) Tryd.func78 (by kernel_rfl) (by kernel_rfl) (by kernel_rfl) (by kernel_rfl) args W
  have h32 := fun (args : Array Value) (W : World) => run_callFunc_extern (P := Tryd.prog) (f := 143) (e := ReflectliteType.method fun t => do Rtype.noPackHeld "Comparable" t; pure (.bool (← typeInfo t).comparable)) Tryd.func143 (by kernel_rfl) (by kernel_rfl) (by kernel_rfl) (by kernel_rfl) args W
  have tT := Tryd.typeOfErrno
  have cT := Tryd.comparableErrno
  have heq := Tryd.eqlErrno n m
  have nE := Tryd.noIsErrno
  have uE := Tryd.noUnwrapErrno
  have vE := Tryd.noUnwrapsErrno
  have hd : ((n == m) = true) ∨ ((n == m) = false) := by cases n == m <;> simp
  rcases hd with hd | hd
  all_goals
    rw [hd]
    go_enter Tryd.func47, Tryd.ntmps47
    go_wp2
    refine wp_loop_rounds 1 ?_
    rw [rounds_succ]
    go_wp2
    go_returns
    exact ⟨rfl, rfl⟩
set_option maxRecDepth 100000 in
theorem is_fault (g : Nat) (n m : Int) (w : World) (hg : w.cell? ⟨g, 2, none⟩ = some (.iface 45 (.int .i64 n))) :
    Calls Tryd.prog 47 #[.iface 83 (.pointer (some ⟨g, 0, none⟩)), .iface 45 (.int .i64 m)] w fun e w' => e = .returned (.bool (n == m)) ∧ w' = w := by
  have h8 := fun (args : Array Value) (W : World) => run_callFunc_extern (P := Tryd.prog) (f := 78) (e := ReflectliteType.typeOf) Tryd.func78 (by kernel_rfl) (by kernel_rfl) (by kernel_rfl) (by kernel_rfl) args W
  have h32 := fun (args : Array Value) (W : World) => run_callFunc_extern (P := Tryd.prog) (f := 143) (e := ReflectliteType.method fun t => do Rtype.noPackHeld "Comparable" t; pure (.bool (← typeInfo t).comparable)) Tryd.func143 (by kernel_rfl) (by kernel_rfl) (by kernel_rfl) (by kernel_rfl) args W
  have tT := Tryd.typeOfErrno
  have cT := Tryd.comparableErrno
  have heq := Tryd.eqlErrno n m
  have hne := Tryd.eqlFault (some ⟨g, 0, none⟩) m
  have nE := Tryd.noIsErrno
  have uE := Tryd.noUnwrapErrno
  have vE := Tryd.noUnwrapsErrno
  have nF := Tryd.noIsFault
  have uF := Tryd.hasUnwrapFault
  have hd : ((n == m) = true) ∨ ((n == m) = false) := by cases n == m <;> simp
  rcases hd with hd | hd
  all_goals
    rw [hd]
    go_enter Tryd.func47, Tryd.ntmps47
    go_wp2
    refine wp_loop_rounds 2 ?_
    rw [rounds_succ]
    go_wp2
    rw [rounds_succ]
    go_wp2
    go_returns
    exact ⟨rfl, rfl⟩
end Go.Proofs.YtjbphoophgbmiaaDoor

/- errors.As at the two targets that the laws hand it: a pointer to a fault, a number. -/
namespace Go.Proofs.YtjbphoophgbmiaaDoor
open Go.RowKit Go.Extern.Stop Go.Stop Go.Extern

/-- What errors.errorType holds. -/
def EVar (w : World) : Prop := w.cell? ⟨0, 0, none⟩ = some (.iface 163 (.agg #[.pointer (some ⟨1, 34, none⟩)]))
theorem EVar.below {w w' : World} (h : EVar w) (b : Below w.heap.size w w') : EVar w' := (b.cell (p := ⟨0, 0, none⟩) (World.block_lt_of_cell? w _ h)).trans h
theorem EVar.kept {w w' : World} {bs : List Nat} (h : EVar w) (o : Only bs w w') (hn : 0 ∉ bs) : EVar w' := o.cell h hn
theorem Tryd.valueOfFPP (t : Addr) (w : World) : (ReflectliteValue.unpack (.iface 85 (.pointer (some t)))).run Tryd.prog w
    = .ok (.agg #[.pointer (some ⟨1, 85, none⟩), .pointer (some ⟨w.heap.size, 0, none⟩), .int .u64 150]) (w.alloc (.cells #[.pointer (some t)] 85)) := by kernel_rfl
theorem Tryd.typeFPP (a : Addr) (w : World) : (ReflectliteValue.methodAny (ReflectliteValue.valueError "reflectlite.Value.Type" 0) (fun t _ _ _ => ReflectliteType.toType t) #[.agg #[.pointer (some ⟨1, 85, none⟩), .pointer (some a), .int .u64 150]]).run Tryd.prog w
    = .ok (.iface 163 (.agg #[.pointer (some ⟨1, 85, none⟩)])) w := by kernel_rfl
theorem Tryd.kindFPP (w : World) : ((ReflectliteType.abiMethod fun t => (fun a : Nat => Value.int IntKind.u8 (a : Int)) <$> Rtype.kind t) #[.pointer (some ⟨1, 85, none⟩)]).run Tryd.prog w = .ok (.int .u8 22) w := by kernel_rfl
theorem Tryd.kindEFPP (w : World) : ((ReflectliteType.abiMethod fun t => (fun a : Nat => Value.int IntKind.u8 (a : Int)) <$> Rtype.kind t) #[.pointer (some ⟨1, 83, none⟩)]).run Tryd.prog w = .ok (.int .u8 22) w := by kernel_rfl
theorem Tryd.partsFPP (a : Addr) (w : World) : (ReflectliteValue.parts (.agg #[.pointer (some ⟨1, 85, none⟩), .pointer (some a), .int .u64 150])).run Tryd.prog w = .ok (some (85, a, 150)) w := by kernel_rfl
theorem Tryd.elemFPP (w : World) : (ReflectliteType.method ReflectliteType.elem #[.agg #[.pointer (some ⟨1, 85, none⟩)]]).run Tryd.prog w = .ok (.iface 163 (.agg #[.pointer (some ⟨1, 83, none⟩)])) w := by kernel_rfl
theorem Tryd.implementsFPP (w : World) : (ReflectliteType.relation "Implements" ReflectliteType.implements_ #[.agg #[.pointer (some ⟨1, 83, none⟩)], .iface 163 (.agg #[.pointer (some ⟨1, 34, none⟩)])]).run Tryd.prog w = .ok (.bool true) w := by kernel_rfl
theorem Tryd.elemOfFPP (w : World) : (Rtype.elem? 85).run Tryd.prog w = .ok (some 83) w := by kernel_rfl
theorem Tryd.mkFPP (p : Addr) (w : World) : (ReflectliteValue.mk 83 p ReflectliteValue.flagAddr).run Tryd.prog w = .ok (.agg #[.pointer (some ⟨1, 83, none⟩), .pointer (some p), .int .u64 406]) w := by kernel_rfl
theorem Tryd.partsAFPP (a : Addr) (w : World) : (ReflectliteValue.parts (.agg #[.pointer (some ⟨1, 83, none⟩), .pointer (some a), .int .u64 406])).run Tryd.prog w = .ok (some (83, a, 406)) w := by kernel_rfl
theorem Tryd.partsBFPP (a : Addr) (w : World) : (ReflectliteValue.parts (.agg #[.pointer (some ⟨1, 83, none⟩), .pointer (some a), .int .u64 150])).run Tryd.prog w = .ok (some (83, a, 150)) w := by kernel_rfl
theorem Tryd.directFPP (w : World) : (Rtype.directlyAssignable 83 83).run Tryd.prog w = .ok true w := by kernel_rfl
theorem Tryd.sizeFPP (w : World) : (sizeOf 83).run Tryd.prog w = .ok 1 w := by kernel_rfl
theorem Tryd.valueOfENP (t : Addr) (w : World) : (ReflectliteValue.unpack (.iface 88 (.pointer (some t)))).run Tryd.prog w
    = .ok (.agg #[.pointer (some ⟨1, 88, none⟩), .pointer (some ⟨w.heap.size, 0, none⟩), .int .u64 150]) (w.alloc (.cells #[.pointer (some t)] 88)) := by kernel_rfl
theorem Tryd.typeENP (a : Addr) (w : World) : (ReflectliteValue.methodAny (ReflectliteValue.valueError "reflectlite.Value.Type" 0) (fun t _ _ _ => ReflectliteType.toType t) #[.agg #[.pointer (some ⟨1, 88, none⟩), .pointer (some a), .int .u64 150]]).run Tryd.prog w
    = .ok (.iface 163 (.agg #[.pointer (some ⟨1, 88, none⟩)])) w := by kernel_rfl
theorem Tryd.kindENP (w : World) : ((ReflectliteType.abiMethod fun t => (fun a : Nat => Value.int IntKind.u8 (a : Int)) <$> Rtype.kind t) #[.pointer (some ⟨1, 88, none⟩)]).run Tryd.prog w = .ok (.int .u8 22) w := by kernel_rfl
theorem Tryd.kindEENP (w : World) : ((ReflectliteType.abiMethod fun t => (fun a : Nat => Value.int IntKind.u8 (a : Int)) <$> Rtype.kind t) #[.pointer (some ⟨1, 45, none⟩)]).run Tryd.prog w = .ok (.int .u8 2) w := by kernel_rfl
theorem Tryd.partsENP (a : Addr) (w : World) : (ReflectliteValue.parts (.agg #[.pointer (some ⟨1, 88, none⟩), .pointer (some a), .int .u64 150])).run Tryd.prog w = .ok (some (88, a, 150)) w := by kernel_rfl
theorem Tryd.elemENP (w : World) : (ReflectliteType.method ReflectliteType.elem #[.agg #[.pointer (some ⟨1, 88, none⟩)]]).run Tryd.prog w = .ok (.iface 163 (.agg #[.pointer (some ⟨1, 45, none⟩)])) w := by kernel_rfl
theorem Tryd.implementsENP (w : World) : (ReflectliteType.relation "Implements" ReflectliteType.implements_ #[.agg #[.pointer (some ⟨1, 45, none⟩)], .iface 163 (.agg #[.pointer (some ⟨1, 34, none⟩)])]).run Tryd.prog w = .ok (.bool true) w := by kernel_rfl
theorem Tryd.elemOfENP (w : World) : (Rtype.elem? 88).run Tryd.prog w = .ok (some 45) w := by kernel_rfl
theorem Tryd.mkENP (p : Addr) (w : World) : (ReflectliteValue.mk 45 p ReflectliteValue.flagAddr).run Tryd.prog w = .ok (.agg #[.pointer (some ⟨1, 45, none⟩), .pointer (some p), .int .u64 386]) w := by kernel_rfl
theorem Tryd.partsAENP (a : Addr) (w : World) : (ReflectliteValue.parts (.agg #[.pointer (some ⟨1, 45, none⟩), .pointer (some a), .int .u64 386])).run Tryd.prog w = .ok (some (45, a, 386)) w := by kernel_rfl
theorem Tryd.partsBENP (a : Addr) (w : World) : (ReflectliteValue.parts (.agg #[.pointer (some ⟨1, 45, none⟩), .pointer (some a), .int .u64 130])).run Tryd.prog w = .ok (some (45, a, 130)) w := by kernel_rfl
theorem Tryd.directENP (w : World) : (Rtype.directlyAssignable 45 45).run Tryd.prog w = .ok true w := by kernel_rfl
theorem Tryd.sizeENP (w : World) : (sizeOf 45).run Tryd.prog w = .ok 1 w := by kernel_rfl
theorem rlm (z : Sem Value) (f : TypeId → Addr → Nat → Nat → Sem Value) (v : Value) :
    ReflectliteValue.method z f #[v] = (do match ← ReflectliteValue.parts v with | none => z | some (t, a, fl) => f t a fl (fl % 32)) := rfl
theorem rls (v x : Value) : ReflectliteValue.set #[v, x] = (do
    let (some (dst, a, fl), some (src, b, _)) := (← ReflectliteValue.parts v, ← ReflectliteValue.parts x)
      | unsupported (.noEntry "extern/(internal/reflectlite.Value).Set.zeroValue")
    if fl / ReflectliteValue.flagAddr % 2 == 0 then unsupported (.noEntry "extern/(internal/reflectlite.Value).Set.unaddressable")
    let val ← loadVar src b
    if ← Rtype.directlyAssignable dst src then storeVar dst a val
    else if ← Rtype.implements dst src then
      if (← Rtype.kind src) == 20 then
        match val with
        | .nilIface => unsupported (.noEntry "extern/reflectlite: a nil value of one interface type handed on as a value of another")
        | _ => storeVar dst a val
      else storeVar dst a (.iface src val)
    else panicString ("reflectlite.Set: value of type " ++ (← Rtype.spelt src) ++ " is not assignable to type " ++ (← Rtype.spelt dst))
    pure (.tuple #[])) := rfl
theorem Tryd.isNilFPP (a p : Addr) (W : World) (ha : W.cell? a = some (.pointer (some p))) :
    (ReflectliteValue.method (ReflectliteValue.valueError "reflectlite.Value.IsNil" 0) ReflectliteValue.isNil #[.agg #[.pointer (some ⟨1, 85, none⟩), .pointer (some a), .int .u64 150]]).run Tryd.prog W = .ok (.bool false) W := by
  rw [rlm]
  simp only [Sem.run_bind, Tryd.partsFPP, Result.andThen]
  simp [ReflectliteValue.isNil, loadVar, isAgg, underlying, Tryd.underlying85, ha, Result.andThen]
theorem Tryd.elemVFPP (a p : Addr) (W : World) (ha : W.cell? a = some (.pointer (some p))) :
    (ReflectliteValue.method (ReflectliteValue.valueError "reflectlite.Value.Elem" 0) ReflectliteValue.elem #[.agg #[.pointer (some ⟨1, 85, none⟩), .pointer (some a), .int .u64 150]]).run Tryd.prog W
      = .ok (.agg #[.pointer (some ⟨1, 83, none⟩), .pointer (some p), .int .u64 406]) W := by
  rw [rlm]
  simp only [Sem.run_bind, Tryd.partsFPP, Result.andThen]
  simp [ReflectliteValue.elem, loadVar, isAgg, underlying, Tryd.underlying85, ha, Result.andThen, Tryd.elemOfFPP, Tryd.mkFPP]
theorem Tryd.setFPP (ta b : Addr) (e : Addr) (old : Value) (W : World) (hb : W.cell? b = some (.pointer (some e))) (ht : W.cell? ta = some old) (hf : W.frozen? ta = false) :
    (ReflectliteValue.set #[.agg #[.pointer (some ⟨1, 83, none⟩), .pointer (some ta), .int .u64 406], .agg #[.pointer (some ⟨1, 83, none⟩), .pointer (some b), .int .u64 150]]).run Tryd.prog W
      = .ok (.tuple #[]) (W.setCell ta (.pointer (some e))) := by
  rw [rls]
  simp only [Sem.run_bind, Tryd.partsAFPP, Tryd.partsBFPP, Result.andThen]
  simp [ReflectliteValue.flagAddr, loadVar, isAgg, underlying, Tryd.underlying83, hb, Result.andThen, Tryd.directFPP, storeVar, Value.cells, storeCells, Addr.add]
  rw [run_store Tryd.prog W ta _ _ (by rfl)]
  simp [ht, hf]
theorem Tryd.isNilENP (a p : Addr) (W : World) (ha : W.cell? a = some (.pointer (some p))) :
    (ReflectliteValue.method (ReflectliteValue.valueError "reflectlite.Value.IsNil" 0) ReflectliteValue.isNil #[.agg #[.pointer (some ⟨1, 88, none⟩), .pointer (some a), .int .u64 150]]).run Tryd.prog W = .ok (.bool false) W := by
  rw [rlm]
  simp only [Sem.run_bind, Tryd.partsENP, Result.andThen]
  simp [ReflectliteValue.isNil, loadVar, isAgg, underlying, Tryd.underlying88, ha, Result.andThen]
theorem Tryd.elemVENP (a p : Addr) (W : World) (ha : W.cell? a = some (.pointer (some p))) :
    (ReflectliteValue.method (ReflectliteValue.valueError "reflectlite.Value.Elem" 0) ReflectliteValue.elem #[.agg #[.pointer (some ⟨1, 88, none⟩), .pointer (some a), .int .u64 150]]).run Tryd.prog W
      = .ok (.agg #[.pointer (some ⟨1, 45, none⟩), .pointer (some p), .int .u64 386]) W := by
  rw [rlm]
  simp only [Sem.run_bind, Tryd.partsENP, Result.andThen]
  simp [ReflectliteValue.elem, loadVar, isAgg, underlying, Tryd.underlying88, ha, Result.andThen, Tryd.elemOfENP, Tryd.mkENP]
theorem Tryd.setENP (ta b : Addr) (e : Int) (old : Value) (W : World) (hb : W.cell? b = some (.int .i64 e)) (ht : W.cell? ta = some old) (hf : W.frozen? ta = false) :
    (ReflectliteValue.set #[.agg #[.pointer (some ⟨1, 45, none⟩), .pointer (some ta), .int .u64 386], .agg #[.pointer (some ⟨1, 45, none⟩), .pointer (some b), .int .u64 130]]).run Tryd.prog W
      = .ok (.tuple #[]) (W.setCell ta (.int .i64 e)) := by
  rw [rls]
  simp only [Sem.run_bind, Tryd.partsAENP, Tryd.partsBENP, Result.andThen]
  simp [ReflectliteValue.flagAddr, loadVar, isAgg, underlying, Tryd.underlying45, hb, Result.andThen, Tryd.directENP, storeVar, Value.cells, storeCells, Addr.add]
  rw [run_store Tryd.prog W ta _ _ (by rfl)]
  simp [ht, hf]
theorem Tryd.typeOfF (v : Value) (w : World) : (ReflectliteType.typeOf #[.iface 83 v]).run Tryd.prog w = .ok (.iface 163 (.agg #[.pointer (some ⟨1, 83, none⟩)])) w := by kernel_rfl
theorem Tryd.valueOfF (e : Addr) (w : World) : (ReflectliteValue.unpack (.iface 83 (.pointer (some e)))).run Tryd.prog w
    = .ok (.agg #[.pointer (some ⟨1, 83, none⟩), .pointer (some ⟨w.heap.size, 0, none⟩), .int .u64 150]) (w.alloc (.cells #[.pointer (some e)] 83)) := by kernel_rfl
theorem Tryd.noAsF (v : Value) (xT : TypeId) (w : World) : (Instr.typeAssert (.iface 83 v) xT 167 true).run Tryd.prog w = .ok (.tuple #[.nilIface, .bool false]) w := run_typeAssert_lacksB Tryd.underlying167 (by kernel_rfl) (by kernel_rfl) v xT w
theorem Tryd.assignFF (w : World) : (ReflectliteType.relation "AssignableTo" ReflectliteType.assignableTo #[.agg #[.pointer (some ⟨1, 83, none⟩)], .iface 163 (.agg #[.pointer (some ⟨1, 83, none⟩)])]).run Tryd.prog w = .ok (.bool true) w := by kernel_rfl
theorem Tryd.assignFE (w : World) : (ReflectliteType.relation "AssignableTo" ReflectliteType.assignableTo #[.agg #[.pointer (some ⟨1, 83, none⟩)], .iface 163 (.agg #[.pointer (some ⟨1, 45, none⟩)])]).run Tryd.prog w = .ok (.bool false) w := by kernel_rfl
theorem Tryd.typeOfE (v : Value) (w : World) : (ReflectliteType.typeOf #[.iface 45 v]).run Tryd.prog w = .ok (.iface 163 (.agg #[.pointer (some ⟨1, 45, none⟩)])) w := by kernel_rfl
theorem Tryd.valueOfE (e : Int) (w : World) : (ReflectliteValue.unpack (.iface 45 (.int .i64 e))).run Tryd.prog w
    = .ok (.agg #[.pointer (some ⟨1, 45, none⟩), .pointer (some ⟨w.heap.size, 0, none⟩), .int .u64 130]) (w.alloc (.cells #[.int .i64 e] 45)) := by kernel_rfl
theorem Tryd.noAsE (v : Value) (xT : TypeId) (w : World) : (Instr.typeAssert (.iface 45 v) xT 167 true).run Tryd.prog w = .ok (.tuple #[.nilIface, .bool false]) w := run_typeAssert_lacksB Tryd.underlying167 (by kernel_rfl) (by kernel_rfl) v xT w
theorem Tryd.assignEF (w : World) : (ReflectliteType.relation "AssignableTo" ReflectliteType.assignableTo #[.agg #[.pointer (some ⟨1, 45, none⟩)], .iface 163 (.agg #[.pointer (some ⟨1, 83, none⟩)])]).run Tryd.prog w = .ok (.bool false) w := by kernel_rfl
theorem Tryd.assignEE (w : World) : (ReflectliteType.relation "AssignableTo" ReflectliteType.assignableTo #[.agg #[.pointer (some ⟨1, 45, none⟩)], .iface 163 (.agg #[.pointer (some ⟨1, 45, none⟩)])]).run Tryd.prog w = .ok (.bool true) w := by kernel_rfl
theorem Tryd.unwF (v : Value) (xT : TypeId) (w : World) : (Instr.typeAssert (.iface 83 v) xT 170 true).run Tryd.prog w = .ok (.tuple #[.iface 83 v, .bool true]) w := run_typeAssert_hasB Tryd.underlying170 (by kernel_rfl) v xT w
theorem Tryd.unwE (v : Value) (xT : TypeId) (w : World) : (Instr.typeAssert (.iface 45 v) xT 170 true).run Tryd.prog w = .ok (.tuple #[.nilIface, .bool false]) w := run_typeAssert_lacksB Tryd.underlying170 (by kernel_rfl) (by kernel_rfl) v xT w
theorem Tryd.unwsE (v : Value) (xT : TypeId) (w : World) : (Instr.typeAssert (.iface 45 v) xT 172 true).run Tryd.prog w = .ok (.tuple #[.nilIface, .bool false]) w := run_typeAssert_lacksB Tryd.underlying172 (by kernel_rfl) (by kernel_rfl) v xT w

set_option maxRecDepth 100000 in
set_option maxHeartbeats 4000000 in
theorem as_fault_run (e t : Addr) (old : Value) (w : World) (hg : w.cell? ⟨0, 0, none⟩ = some (.iface 163 (.agg #[.pointer (some ⟨1, 34, none⟩)]))) (ht0 : w.cell? t = some old) (hf0 : w.frozen? t = false) :
    Calls Tryd.prog 46 #[.iface 83 (.pointer (some e)), .iface 85 (.pointer (some t))] w fun ev w' => ev = .returned (.bool true) ∧ w' = ((((w.alloc (.cells #[.pointer (some t)] 85)).alloc (.cells #[.pointer (some ⟨1, 85, none⟩), .pointer (some ⟨w.heap.size, 0, none⟩), .int .u64 150] 126)).alloc (.cells #[.pointer (some ⟨1, 85, none⟩), .pointer (some ⟨w.heap.size, 0, none⟩), .int .u64 150] 126)).alloc (.cells #[.pointer (some e)] 83)).setCell t (.pointer (some e)) := by
  have x6 := fun (args : Array Value) (W : World) => run_callFunc_extern (P := Tryd.prog) (f := 74) (e := fun args => ReflectliteValue.unpack (args.getD 0 (.tuple #[]))) Tryd.func74 (by kernel_rfl) (by kernel_rfl) (by kernel_rfl) (by kernel_rfl) args W
  have x7 := fun (args : Array Value) (W : World) => run_callFunc_extern (P := Tryd.prog) (f := 75) (e := ReflectliteValue.methodAny (ReflectliteValue.valueError "reflectlite.Value.Type" 0) (fun t _ _ _ => ReflectliteType.toType t)) Tryd.func75 (by kernel_rfl) (by kernel_rfl) (by kernel_rfl) (by kernel_rfl) args W
  have x8 := fun (args : Array Value) (W : World) => run_callFunc_extern (P := Tryd.prog) (f := 76) (e := ReflectliteValue.method (ReflectliteValue.valueError "reflectlite.Value.IsNil" 0) ReflectliteValue.isNil) Tryd.func76 (by kernel_rfl) (by kernel_rfl) (by kernel_rfl) (by kernel_rfl) args W
  have x27 := fun (args : Array Value) (W : World) => run_callFunc_extern (P := Tryd.prog) (f := 131) (e := ReflectliteType.abiMethod fun t => do pure (.int .u8 (← Rtype.kind t))) Tryd.func131 (by kernel_rfl) (by kernel_rfl) (by kernel_rfl) (by kernel_rfl) args W
  have x37 := fun (args : Array Value) (W : World) => run_callFunc_extern (P := Tryd.prog) (f := 144) (e := ReflectliteType.method ReflectliteType.elem) Tryd.func144 (by kernel_rfl) (by kernel_rfl) (by kernel_rfl) (by kernel_rfl) args W
  have x38 := fun (args : Array Value) (W : World) => run_callFunc_extern (P := Tryd.prog) (f := 145) (e := ReflectliteType.relation "Implements" ReflectliteType.implements_) Tryd.func145 (by kernel_rfl) (by kernel_rfl) (by kernel_rfl) (by kernel_rfl) args W
  have x10 := fun (args : Array Value) (W : World) => run_callFunc_extern (P := Tryd.prog) (f := 78) (e := ReflectliteType.typeOf) Tryd.func78 (by kernel_rfl) (by kernel_rfl) (by kernel_rfl) (by kernel_rfl) args W
  have x35 := fun (args : Array Value) (W : World) => run_callFunc_extern (P := Tryd.prog) (f := 142) (e := ReflectliteType.relation "AssignableTo" ReflectliteType.assignableTo) Tryd.func142 (by kernel_rfl) (by kernel_rfl) (by kernel_rfl) (by kernel_rfl) args W
  have x11 := fun (args : Array Value) (W : World) => run_callFunc_extern (P := Tryd.prog) (f := 90) (e := ReflectliteValue.method (ReflectliteValue.valueError "reflectlite.Value.Elem" 0) ReflectliteValue.elem) Tryd.func90 (by kernel_rfl) (by kernel_rfl) (by kernel_rfl) (by kernel_rfl) args W
  have x12 := fun (args : Array Value) (W : World) => run_callFunc_extern (P := Tryd.prog) (f := 91) (e := ReflectliteValue.set) Tryd.func91 (by kernel_rfl) (by kernel_rfl) (by kernel_rfl) (by kernel_rfl) args W
  have f6 := Tryd.valueOfFPP
  have f7 := Tryd.typeFPP
  have k27 := Tryd.kindFPP
  have k25 := Tryd.kindEFPP
  have e27 := Tryd.elemFPP
  have i25 := Tryd.implementsFPP
  have n8 := Tryd.isNilFPP ⟨w.heap.size, 0, none⟩ t ((w.alloc (.cells #[.pointer (some t)] 85)).alloc (.cells #[.pointer (some ⟨1, 85, none⟩), .pointer (some ⟨w.heap.size, 0, none⟩), .int .u64 150] 126)) (by simp)
  have hlt : 0 < w.heap.size := World.block_lt_of_cell? w _ hg
  have hg2 : ((w.alloc (.cells #[.pointer (some t)] 85)).alloc (.cells #[.pointer (some ⟨1, 85, none⟩), .pointer (some ⟨w.heap.size, 0, none⟩), .int .u64 150] 126)).cell? ⟨0, 0, none⟩ = some (.iface 163 (.agg #[.pointer (some ⟨1, 34, none⟩)])) := by
    rw [World.cell?_alloc_lt _ _ ⟨0, 0, none⟩ (by simp), World.cell?_alloc_lt _ _ ⟨0, 0, none⟩ hlt]; exact hg
  have htl : t.block < w.heap.size := World.block_lt_of_cell? w _ ht0
  have el := Tryd.elemVFPP ⟨w.heap.size, 0, none⟩ t (((w.alloc (.cells #[.pointer (some t)] 85)).alloc (.cells #[.pointer (some ⟨1, 85, none⟩), .pointer (some ⟨w.heap.size, 0, none⟩), .int .u64 150] 126)).alloc (.cells #[.pointer (some ⟨1, 85, none⟩), .pointer (some ⟨w.heap.size, 0, none⟩), .int .u64 150] 126)) (by rw [World.cell?_alloc_lt _ _ ⟨w.heap.size, 0, none⟩ (by simp; omega)]; simp)
  have st := Tryd.setFPP t ⟨w.heap.size + 1 + 1 + 1, 0, none⟩ e old ((((w.alloc (.cells #[.pointer (some t)] 85)).alloc (.cells #[.pointer (some ⟨1, 85, none⟩), .pointer (some ⟨w.heap.size, 0, none⟩), .int .u64 150] 126)).alloc (.cells #[.pointer (some ⟨1, 85, none⟩), .pointer (some ⟨w.heap.size, 0, none⟩), .int .u64 150] 126)).alloc (.cells #[.pointer (some e)] 83))
    (by rw [World.cell?_alloc_at _ _ _ _ (by simp)]; rfl)
    (by rw [World.cell?_alloc_lt _ _ t (by simp; omega), World.cell?_alloc_lt _ _ t (by simp; omega), World.cell?_alloc_lt _ _ t (by simp; omega), World.cell?_alloc_lt _ _ t htl]; exact ht0)
    (by rw [World.frozen?_alloc_old _ _ t (by simp; omega), World.frozen?_alloc_old _ _ t (by simp; omega), World.frozen?_alloc_old _ _ t (by simp; omega), World.frozen?_alloc_old _ _ t (Nat.ne_of_lt htl)]; exact hf0)
  have tO := Tryd.typeOfF
  have a25 := Tryd.assignFF
  have v25 := Tryd.valueOfF
  go_enter Tryd.func46, Tryd.ntmps46
  go_wp2
  refine wp_loop_rounds 1 ?_
  rw [rounds_succ]
  go_wp2
  go_ret
  exact ⟨rfl, rfl⟩
/-- errors.As of a fault, at a pointer to a fault. -/
theorem as_fault_fault (e : Addr) (tb : Nat) (old : Value) (w : World) (hg : EVar w) (ht : Cells w tb 83 [old]) :
    Calls Tryd.prog 46 #[.iface 83 (.pointer (some e)), .iface 85 (.pointer (some ⟨tb, 0, none⟩))] w fun ev w' => ev = .returned (.bool true) ∧ Cells w' tb 83 [.pointer (some e)] ∧ Only [tb] w w' :=
  (as_fault_run e ⟨tb, 0, none⟩ old w hg (ht.cell rfl) (ht.frozen 0)).mono fun ev w' ⟨h1, h2⟩ => ⟨h1, h2 ▸ (((((ht.alloc _).alloc _).alloc _).alloc _).set 0 _), h2 ▸ (((((Only.refl [tb] w).alloc _).alloc _).alloc _).alloc _).setCell (.inl (by simp)) _⟩

set_option maxRecDepth 100000 in
set_option maxHeartbeats 4000000 in
theorem as_errno_run (e : Int) (t : Addr) (old : Value) (w : World) (hg : w.cell? ⟨0, 0, none⟩ = some (.iface 163 (.agg #[.pointer (some ⟨1, 34, none⟩)]))) (ht0 : w.cell? t = some old) (hf0 : w.frozen? t = false) :
    Calls Tryd.prog 46 #[.iface 45 (.int .i64 e), .iface 88 (.pointer (some t))] w fun ev w' => ev = .returned (.bool true) ∧ w' = ((((w.alloc (.cells #[.pointer (some t)] 88)).alloc (.cells #[.pointer (some ⟨1, 88, none⟩), .pointer (some ⟨w.heap.size, 0, none⟩), .int .u64 150] 126)).alloc (.cells #[.pointer (some ⟨1, 88, none⟩), .pointer (some ⟨w.heap.size, 0, none⟩), .int .u64 150] 126)).alloc (.cells #[.int .i64 e] 45)).setCell t (.int .i64 e) := by
  have x6 := fun (args : Array Value) (W : World) => run_callFunc_extern (P := Tryd.prog) (f := 74) (e := fun args => ReflectliteValue.unpack (args.getD 0 (.tuple #[]))) Tryd.func74 (by kernel_rfl) (by kernel_rfl) (by kernel_rfl) (by kernel_rfl) args W
  have x7 := fun (args : Array Value) (W : World) => run_callFunc_extern (P := Tryd.prog) (f := 75) (e := ReflectliteValue.methodAny (ReflectliteValue.valueError "reflectlite.Value.Type" 0) (fun t _ _ _ => ReflectliteType.toType t)) Tryd.func75 (by kernel_rfl) (by kernel_rfl) (by kernel_rfl) (by kernel_rfl) args W
  have x8 := fun (args : Array Value) (W : World) => run_callFunc_extern (P := Tryd.prog) (f := 76) (e := ReflectliteValue.method (ReflectliteValue.valueError "reflectlite.Value.IsNil" 0) ReflectliteValue.isNil) Tryd.func76 (by kernel_rfl) (by kernel_rfl) (by kernel_rfl) (by kernel_rfl) args W
  have x27 := fun (args : Array Value) (W : World) => run_callFunc_extern (P := Tryd.prog) (f := 131) (e := ReflectliteType.abiMethod fun t => do pure (.int .u8 (← Rtype.kind t))) Tryd.func131 (by kernel_rfl) (by kernel_rfl) (by kernel_rfl) (by kernel_rfl) args W
  have x37 := fun (args : Array Value) (W : World) => run_callFunc_extern (P := Tryd.prog) (f := 144) (e := ReflectliteType.method ReflectliteType.elem) Tryd.func144 (by kernel_rfl) (by kernel_rfl) (by kernel_rfl) (by kernel_rfl) args W
  have x38 := fun (args : Array Value) (W : World) => run_callFunc_extern (P := Tryd.prog) (f := 145) (e := ReflectliteType.relation "Implements" ReflectliteType.implements_) Tryd.func145 (by kernel_rfl) (by kernel_rfl) (by kernel_rfl) (by kernel_rfl) args W
  have x10 := fun (args : Array Value) (W : World) => run_callFunc_extern (P := Tryd.prog) (f := 78) (e := ReflectliteType.typeOf) Tryd.func78 (by kernel_rfl) (by kernel_rfl) (by kernel_rfl) (by kernel_rfl) args W
  have x35 := fun (args : Array Value) (W : World) => run_callFunc_extern (P := Tryd.prog) (f := 142) (e := ReflectliteType.relation "AssignableTo" ReflectliteType.assignableTo) Tryd.func142 (by kernel_rfl) (by kernel_rfl) (by kernel_rfl) (by kernel_rfl) args W
  have x11 := fun (args : Array Value) (W : World) => run_callFunc_extern (P := Tryd.prog) (f := 90) (e := ReflectliteValue.method (ReflectliteValue.valueError "reflectlite.Value.Elem" 0) ReflectliteValue.elem) Tryd.func90 (by kernel_rfl) (by kernel_rfl) (by kernel_rfl) (by kernel_rfl) args W
  have x12 := fun (args : Array Value) (W : World) => run_callFunc_extern (P := Tryd.prog) (f := 91) (e := ReflectliteValue.set) Tryd.func91 (by kernel_rfl) (by kernel_rfl) (by kernel_rfl) (by kernel_rfl) args W
  have f6 := Tryd.valueOfENP
  have f7 := Tryd.typeENP
  have k27 := Tryd.kindENP
  have k25 := Tryd.kindEENP
  have e27 := Tryd.elemENP
  have i25 := Tryd.implementsENP
  have n8 := Tryd.isNilENP ⟨w.heap.size, 0, none⟩ t ((w.alloc (.cells #[.pointer (some t)] 88)).alloc (.cells #[.pointer (some ⟨1, 88, none⟩), .pointer (some ⟨w.heap.size, 0, none⟩), .int .u64 150] 126)) (by simp)
  have hlt : 0 < w.heap.size := World.block_lt_of_cell? w _ hg
  have hg2 : ((w.alloc (.cells #[.pointer (some t)] 88)).alloc (.cells #[.pointer (some ⟨1, 88, none⟩), .pointer (some ⟨w.heap.size, 0, none⟩), .int .u64 150] 126)).cell? ⟨0, 0, none⟩ = some (.iface 163 (.agg #[.pointer (some ⟨1, 34, none⟩)])) := by
    rw [World.cell?_alloc_lt _ _ ⟨0, 0, none⟩ (by simp), World.cell?_alloc_lt _ _ ⟨0, 0, none⟩ hlt]; exact hg
  have htl : t.block < w.heap.size := World.block_lt_of_cell? w _ ht0
  have el := Tryd.elemVENP ⟨w.heap.size, 0, none⟩ t (((w.alloc (.cells #[.pointer (some t)] 88)).alloc (.cells #[.pointer (some ⟨1, 88, none⟩), .pointer (some ⟨w.heap.size, 0, none⟩), .int .u64 150] 126)).alloc (.cells #[.pointer (some ⟨1, 88, none⟩), .pointer (some ⟨w.heap.size, 0, none⟩), .int .u64 150] 126)) (by rw [World.cell?_alloc_lt _ _ ⟨w.heap.size, 0, none⟩ (by simp; omega)]; simp)
  have st := Tryd.setENP t ⟨w.heap.size + 1 + 1 + 1, 0, none⟩ e old ((((w.alloc (.cells #[.pointer (some t)] 88)).alloc (.cells #[.pointer (some ⟨1, 88, none⟩), .pointer (some ⟨w.heap.size, 0, none⟩), .int .u64 150] 126)).alloc (.cells #[.pointer (some ⟨1, 88, none⟩), .pointer (some ⟨w.heap.size, 0, none⟩), .int .u64 150] 126)).alloc (.cells #[.int .i64 e] 45))
    (by rw [World.cell?_alloc_at _ _ _ _ (by simp)]; rfl)
    (by rw [World.cell?_alloc_lt _ _ t (by simp; omega), World.cell?_alloc_lt _ _ t (by simp; omega), World.cell?_alloc_lt _ _ t (by simp; omega), World.cell?_alloc_lt _ _ t htl]; exact ht0)
    (by rw [World.frozen?_alloc_old _ _ t (by simp; omega), World.frozen?_alloc_old _ _ t (by simp; omega), World.frozen?_alloc_old _ _ t (by simp; omega), World.frozen?_alloc_old _ _ t (Nat.ne_of_lt htl)]; exact hf0)
  have tO := Tryd.typeOfE
  have a25 := Tryd.assignEE
  have v25 := Tryd.valueOfE
  go_enter Tryd.func46, Tryd.ntmps46
  go_wp2
  refine wp_loop_rounds 1 ?_
  rw [rounds_succ]
  go_wp2
  go_ret
  exact ⟨rfl, rfl⟩
/-- errors.As of a number, at a number. -/
theorem as_errno_errno (e : Int) (tb : Nat) (old : Value) (w : World) (hg : EVar w) (ht : Cells w tb 45 [old]) :
    Calls Tryd.prog 46 #[.iface 45 (.int .i64 e), .iface 88 (.pointer (some ⟨tb, 0, none⟩))] w fun ev w' => ev = .returned (.bool true) ∧ Cells w' tb 45 [.int .i64 e] ∧ Only [tb] w w' :=
  (as_errno_run e ⟨tb, 0, none⟩ old w hg (ht.cell rfl) (ht.frozen 0)).mono fun ev w' ⟨h1, h2⟩ => ⟨h1, h2 ▸ (((((ht.alloc _).alloc _).alloc _).alloc _).set 0 _), h2 ▸ (((((Only.refl [tb] w).alloc _).alloc _).alloc _).alloc _).setCell (.inl (by simp)) _⟩
end Go.Proofs.YtjbphoophgbmiaaDoor

/- errors.As: a fault round a number, at a number; a number, at a pointer to a fault. -/
namespace Go.Proofs.YtjbphoophgbmiaaDoor
open Go.RowKit Go.Extern.Stop Go.Stop Go.Extern

set_option maxRecDepth 100000 in
set_option maxHeartbeats 4000000 in
theorem as_fault_num_run (g : Nat) (e : Int) (t : Addr) (old : Value) (w : World) (hg : w.cell? ⟨0, 0, none⟩ = some (.iface 163 (.agg #[.pointer (some ⟨1, 34, none⟩)]))) (ht0 : w.cell? t = some old) (hf0 : w.frozen? t = false) (hg3 : w.cell? ⟨g, 2, none⟩ = some (.iface 45 (.int .i64 e))) :
    Calls Tryd.prog 46 #[.iface 83 (.pointer (some ⟨g, 0, none⟩)), .iface 88 (.pointer (some t))] w fun ev w' => ev = .returned (.bool true) ∧ w' = ((((w.alloc (.cells #[.pointer (some t)] 88)).alloc (.cells #[.pointer (some ⟨1, 88, none⟩), .pointer (some ⟨w.heap.size, 0, none⟩), .int .u64 150] 126)).alloc (.cells #[.pointer (some ⟨1, 88, none⟩), .pointer (some ⟨w.heap.size, 0, none⟩), .int .u64 150] 126)).alloc (.cells #[.int .i64 e] 45)).setCell t (.int .i64 e) := by
  have x6 := fun (args : Array Value) (W : World) => run_callFunc_extern (P := Tryd.prog) (f := 74) (e := fun args => ReflectliteValue.unpack (args.getD 0 (.tuple #[]))) Tryd.func74 (by kernel_rfl) (by kernel_rfl) (by kernel_rfl) (by kernel_rfl) args W
  have x7 := fun (args : Array Value) (W : World) => run_callFunc_extern (P := Tryd.prog) (f := 75) (e := ReflectliteValue.methodAny (ReflectliteValue.valueError "reflectlite.Value.Type" 0) (fun t _ _ _ => ReflectliteType.toType t)) Tryd.func75 (by kernel_rfl) (by kernel_rfl) (by kernel_rfl) (by kernel_rfl) args W
  have x8 := fun (args : Array Value) (W : World) => run_callFunc_extern (P := Tryd.prog) (f := 76) (e := ReflectliteValue.method (ReflectliteValue.valueError "reflectlite.Value.IsNil" 0) ReflectliteValue.isNil) Tryd.func76 (by kernel_rfl) (by kernel_rfl) (by kernel_rfl) (by kernel_rfl) args W
  have x27 := fun (args : Array Value) (W : World) => run_callFunc_extern (P := Tryd.prog) (f := 131) (e := ReflectliteType.abiMethod fun t => do pure (.int .u8 (← Rtype.kind t))) Tryd.func131 (by kernel_rfl) (by kernel_rfl) (by kernel_rfl) (by kernel_rfl) args W
  have x37 := fun (args : Array Value) (W : World) => run_callFunc_extern (P := Tryd.prog) (f := 144) (e := ReflectliteType.method ReflectliteType.elem) Tryd.func144 (by kernel_rfl) (by kernel_rfl) (by kernel_rfl) (by kernel_rfl) args W
  have x38 := fun (args : Array Value) (W : World) => run_callFunc_extern (P := Tryd.prog) (f := 145) (e := ReflectliteType.relation "Implements" ReflectliteType.implements_) Tryd.func145 (by kernel_rfl) (by kernel_rfl) (by kernel_rfl) (by kernel_rfl) args W
  have x10 := fun (args : Array Value) (W : World) => run_callFunc_extern (P := Tryd.prog) (f := 78) (e := ReflectliteType.typeOf) Tryd.func78 (by kernel_rfl) (by kernel_rfl) (by kernel_rfl) (by kernel_rfl) args W
  have x35 := fun (args : Array Value) (W : World) => run_callFunc_extern (P := Tryd.prog) (f := 142) (e := ReflectliteType.relation "AssignableTo" ReflectliteType.assignableTo) Tryd.func142 (by kernel_rfl) (by kernel_rfl) (by kernel_rfl) (by kernel_rfl) args W
  have x11 := fun (args : Array Value) (W : World) => run_callFunc_extern (P := Tryd.prog) (f := 90) (e := ReflectliteValue.method (ReflectliteValue.valueError "reflectlite.Value.Elem" 0) ReflectliteValue.elem) Tryd.func90 (by kernel_rfl) (by kernel_rfl) (by kernel_rfl) (by kernel_rfl) args W
  have x12 := fun (args : Array Value) (W : World) => run_callFunc_extern (P := Tryd.prog) (f := 91) (e := ReflectliteValue.set) Tryd.func91 (by kernel_rfl) (by kernel_rfl) (by kernel_rfl) (by kernel_rfl) args W
  have f6 := Tryd.valueOfENP
  have f7 := Tryd.typeENP
  have k27 := Tryd.kindENP
  have k25 := Tryd.kindEENP
  have e27 := Tryd.elemENP
  have i25 := Tryd.implementsENP
  have n8 := Tryd.isNilENP ⟨w.heap.size, 0, none⟩ t ((w.alloc (.cells #[.pointer (some t)] 88)).alloc (.cells #[.pointer (some ⟨1, 88, none⟩), .pointer (some ⟨w.heap.size, 0, none⟩), .int .u64 150] 126)) (by simp)
  have hlt : 0 < w.heap.size := World.block_lt_of_cell? w _ hg
  have hg2 : ((w.alloc (.cells #[.pointer (some t)] 88)).alloc (.cells #[.pointer (some ⟨1, 88, none⟩), .pointer (some ⟨w.heap.size, 0, none⟩), .int .u64 150] 126)).cell? ⟨0, 0, none⟩ = some (.iface 163 (.agg #[.pointer (some ⟨1, 34, none⟩)])) := by
    rw [World.cell?_alloc_lt _ _ ⟨0, 0, none⟩ (by simp), World.cell?_alloc_lt _ _ ⟨0, 0, none⟩ hlt]; exact hg
  have htl : t.block < w.heap.size := World.block_lt_of_cell? w _ ht0
  have el := Tryd.elemVENP ⟨w.heap.size, 0, none⟩ t (((w.alloc (.cells #[.pointer (some t)] 88)).alloc (.cells #[.pointer (some ⟨1, 88, none⟩), .pointer (some ⟨w.heap.size, 0, none⟩), .int .u64 150] 126)).alloc (.cells #[.pointer (some ⟨1, 88, none⟩), .pointer (some ⟨w.heap.size, 0, none⟩), .int .u64 150] 126)) (by rw [World.cell?_alloc_lt _ _ ⟨w.heap.size, 0, none⟩ (by simp; omega)]; simp)
  have st := Tryd.setENP t ⟨w.heap.size + 1 + 1 + 1, 0, none⟩ e old ((((w.alloc (.cells #[.pointer (some t)] 88)).alloc (.cells #[.pointer (some ⟨1, 88, none⟩), .pointer (some ⟨w.heap.size, 0, none⟩), .int .u64 150] 126)).alloc (.cells #[.pointer (some ⟨1, 88, none⟩), .pointer (some ⟨w.heap.size, 0, none⟩), .int .u64 150] 126)).alloc (.cells #[.int .i64 e] 45))
    (by rw [World.cell?_alloc_at _ _ _ _ (by simp)]; rfl)
    (by rw [World.cell?_alloc_lt _ _ t (by simp; omega), World.cell?_alloc_lt _ _ t (by simp; omega), World.cell?_alloc_lt _ _ t (by simp; omega), World.cell?_alloc_lt _ _ t htl]; exact ht0)
    (by rw [World.frozen?_alloc_old _ _ t (by simp; omega), World.frozen?_alloc_old _ _ t (by simp; omega), World.frozen?_alloc_old _ _ t (by simp; omega), World.frozen?_alloc_old _ _ t (Nat.ne_of_lt htl)]; exact hf0)
  have hgl : g < w.heap.size := World.block_lt_of_cell? w _ hg3
  have hg4 : (((w.alloc (.cells #[.pointer (some t)] 88)).alloc (.cells #[.pointer (some ⟨1, 88, none⟩), .pointer (some ⟨w.heap.size, 0, none⟩), .int .u64 150] 126)).alloc (.cells #[.pointer (some ⟨1, 88, none⟩), .pointer (some ⟨w.heap.size, 0, none⟩), .int .u64 150] 126)).cell? ⟨g, 2, none⟩ = some (.iface 45 (.int .i64 e)) := by
    rw [World.cell?_alloc_lt _ _ ⟨g, 2, none⟩ (by simp; omega), World.cell?_alloc_lt _ _ ⟨g, 2, none⟩ (by simp; omega), World.cell?_alloc_lt _ _ ⟨g, 2, none⟩ hgl]; exact hg3
  have tO := Tryd.typeOfE
  have tF := Tryd.typeOfF
  have a25 := Tryd.assignEE
  have aF := Tryd.assignFE
  have v25 := Tryd.valueOfE
  have nF := Tryd.noAsF
  have uF := Tryd.unwF
  go_enter Tryd.func46, Tryd.ntmps46
  go_wp2
  refine wp_loop_rounds 2 ?_
  rw [rounds_succ]
  go_wp2
  rw [rounds_succ]
  go_wp2
  go_ret
  exact ⟨rfl, rfl⟩
/-- errors.As of a fault round a number, at a number. -/
theorem as_fault_errno (g : Nat) (e : Int) (tb : Nat) (old : Value) (w : World) (hg : EVar w) (ht : Cells w tb 45 [old]) (hg3 : w.cell? ⟨g, 2, none⟩ = some (.iface 45 (.int .i64 e))) :
    Calls Tryd.prog 46 #[.iface 83 (.pointer (some ⟨g, 0, none⟩)), .iface 88 (.pointer (some ⟨tb, 0, none⟩))] w fun ev w' => ev = .returned (.bool true) ∧ Cells w' tb 45 [.int .i64 e] ∧ Only [tb] w w' :=
  (as_fault_num_run g e ⟨tb, 0, none⟩ old w hg (ht.cell rfl) (ht.frozen 0) hg3).mono fun ev w' ⟨h1, h2⟩ => ⟨h1, h2 ▸ (((((ht.alloc _).alloc _).alloc _).alloc _).set 0 _), h2 ▸ (((((Only.refl [tb] w).alloc _).alloc _).alloc _).alloc _).setCell (.inl (by simp)) _⟩

set_option maxRecDepth 100000 in
set_option maxHeartbeats 4000000 in
/-- errors.As of a number, at a pointer to a fault: no. -/
theorem as_num_fault (e : Int) (t : Addr) (w : World) (hg : EVar w) :
    Calls Tryd.prog 46 #[.iface 45 (.int .i64 e), .iface 85 (.pointer (some t))] w fun ev w' => ev = .returned (.bool false) ∧ Below w.heap.size w w' := by
  unfold EVar at hg
  have x6 := fun (args : Array Value) (W : World) => run_callFunc_extern (P := Tryd.prog) (f := 74) (e := fun args => ReflectliteValue.unpack (args.getD 0 (.tuple #[]))) Tryd.func74 (by kernel_rfl) (by kernel_rfl) (by kernel_rfl) (by kernel_rfl) args W
  have x7 := fun (args : Array Value) (W : World) => run_callFunc_extern (P := Tryd.prog) (f := 75) (e := ReflectliteValue.methodAny (ReflectliteValue.valueError "reflectlite.Value.Type" 0) (fun t _ _ _ => ReflectliteType.toType t)) Tryd.func75 (by kernel_rfl) (by kernel_rfl) (by kernel_rfl) (by kernel_rfl) args W
  have x8 := fun (args : Array Value) (W : World) => run_callFunc_extern (P := Tryd.prog) (f := 76) (e := ReflectliteValue.method (ReflectliteValue.valueError "reflectlite.Value.IsNil" 0) ReflectliteValue.isNil) Tryd.func76 (by kernel_rfl) (by kernel_rfl) (by kernel_rfl) (by kernel_rfl) args W
  have x27 := fun (args : Array Value) (W : World) => run_callFunc_extern (P := Tryd.prog) (f := 131) (e := ReflectliteType.abiMethod fun t => do pure (.int .u8 (← Rtype.kind t))) Tryd.func131 (by kernel_rfl) (by kernel_rfl) (by kernel_rfl) (by kernel_rfl) args W
  have x37 := fun (args : Array Value) (W : World) => run_callFunc_extern (P := Tryd.prog) (f := 144) (e := ReflectliteType.method ReflectliteType.elem) Tryd.func144 (by kernel_rfl) (by kernel_rfl) (by kernel_rfl) (by kernel_rfl) args W
  have x38 := fun (args : Array Value) (W : World) => run_callFunc_extern (P := Tryd.prog) (f := 145) (e := ReflectliteType.relation "Implements" ReflectliteType.implements_) Tryd.func145 (by kernel_rfl) (by kernel_rfl) (by kernel_rfl) (by kernel_rfl) args W
  have x10 := fun (args : Array Value) (W : World) => run_callFunc_extern (P := Tryd.prog) (f := 78) (e := ReflectliteType.typeOf) Tryd.func78 (by kernel_rfl) (by kernel_rfl) (by kernel_rfl) (by kernel_rfl) args W
  have x35 := fun (args : Array Value) (W : World) => run_callFunc_extern (P := Tryd.prog) (f := 142) (e := ReflectliteType.relation "AssignableTo" ReflectliteType.assignableTo) Tryd.func142 (by kernel_rfl) (by kernel_rfl) (by kernel_rfl) (by kernel_rfl) args W
  have x11 := fun (args : Array Value) (W : World) => run_callFunc_extern (P := Tryd.prog) (f := 90) (e := ReflectliteValue.method (ReflectliteValue.valueError "reflectlite.Value.Elem" 0) ReflectliteValue.elem) Tryd.func90 (by kernel_rfl) (by kernel_rfl) (by kernel_rfl) (by kernel_rfl) args W
  have x12 := fun (args : Array Value) (W : World) => run_callFunc_extern (P := Tryd.prog) (f := 91) (e := ReflectliteValue.set) Tryd.func91 (by kernel_rfl) (by kernel_rfl) (by kernel_rfl) (by kernel_rfl) args W
  have f6 := Tryd.valueOfFPP
  have f7 := Tryd.typeFPP
  have k27 := Tryd.kindFPP
  have k25 := Tryd.kindEFPP
  have e27 := Tryd.elemFPP
  have i25 := Tryd.implementsFPP
  have n8 := Tryd.isNilFPP ⟨w.heap.size, 0, none⟩ t ((w.alloc (.cells #[.pointer (some t)] 85)).alloc (.cells #[.pointer (some ⟨1, 85, none⟩), .pointer (some ⟨w.heap.size, 0, none⟩), .int .u64 150] 126)) (by simp)
  have hlt : 0 < w.heap.size := World.block_lt_of_cell? w _ hg
  have hg2 : ((w.alloc (.cells #[.pointer (some t)] 85)).alloc (.cells #[.pointer (some ⟨1, 85, none⟩), .pointer (some ⟨w.heap.size, 0, none⟩), .int .u64 150] 126)).cell? ⟨0, 0, none⟩ = some (.iface 163 (.agg #[.pointer (some ⟨1, 34, none⟩)])) := by
    rw [World.cell?_alloc_lt _ _ ⟨0, 0, none⟩ (by simp), World.cell?_alloc_lt _ _ ⟨0, 0, none⟩ hlt]; exact hg
  have tO := Tryd.typeOfE
  have aE := Tryd.assignEF
  have nE := Tryd.noAsE
  have uE := Tryd.unwE
  have vE := Tryd.unwsE
  go_enter Tryd.func46, Tryd.ntmps46
  go_wp2
  refine wp_loop_rounds 1 ?_
  rw [rounds_succ]
  go_wp2
  go_ret
  exact ⟨rfl, by go_grown⟩
end Go.Proofs.YtjbphoophgbmiaaDoor

/- How the laws look at the program's errors: viaductseen.Same says yes where the document wants what the program answers. -/
namespace Go.Proofs.YtjbphoophgbmiaaDoor
open Go.ChangeShapes Go.WideShapes Go.ChangeAt Go.RowKit Go.Joins Go.Deep

set_option maxRecDepth 100000 in
theorem same_nil (w : World) : Calls Tryd.prog 16 #[.nilIface, .agg #[.int .i64 0, .slice none 0 0]] w (BoolIs true w) := by
  go_enter Tryd.func16, Tryd.ntmps16
  go_wp2_with fail
  refine (bad_any _ .nil _ rfl trivial).mono ?_
  rintro e w1 ⟨he, hb⟩
  have he' : e = .returned (.bool false) := he
  subst he'
  have HB := Lib.hid (((Below.refl w.heap.size w).alloc (Nat.le_refl _) _).trans (hb.mono (by simp)))
  clear hb he
  go_wp2
  go_returns
  exact ⟨rfl, HB.out⟩

set_option maxRecDepth 100000 in
set_option maxHeartbeats 2000000 in
theorem same_code (n : Int) (w : World) (h1 : 1 ≤ n) (h2 : n ≤ 20) (hg : EVar w) : Calls Tryd.prog 16 #[errV n, .agg #[.int .i64 n, .slice none 0 0]] w (BoolIs true w) := by
  have HG := Lib.hid hg
  clear hg
  unfold errV
  go_enter Tryd.func16, Tryd.ntmps16
  go_wp2_with fail
  refine (bad_any _ (.code n) _ rfl ⟨h1, h2⟩).mono ?_
  rintro e w1 ⟨he, hb⟩
  have he' : e = .returned (.bool true) := he
  subst he'
  have hbx := (Cells.new w 30 [.int .i64 n, .slice none 0 0]).below hb (by simp)
  have HB1 := Lib.hid (((Below.refl w.heap.size w).alloc (Nat.le_refl _) _).trans (hb.mono (by simp)))
  have c0 : w1.cell? ⟨w.heap.size, 0, none⟩ = some (.int .i64 n) := hbx.cell rfl
  have c1 : w1.cell? ⟨w.heap.size, 1, none⟩ = some (.slice none 0 0) := hbx.cell rfl
  have lb := hbx.lt
  have HX1 := Lib.hid hbx
  clear hb he hbx
  go_wp2_with fail
  refine wp_loop_rounds 1 ?_
  rw [rounds_succ]
  go_wp2_with fail
  refine (as_num_fault n ⟨w1.heap.size, 0, none⟩ _ ((HG.out.below HB1.out).below ((Below.refl _ _).alloc (Nat.le_refl _) _))).mono ?_
  rintro e w2 ⟨rfl, hb⟩
  have HB2 := Lib.hid ((HB1.out.alloc HB1.out.size (.cells #[.pointer none] 83)).trans (hb.mono (by have := HB1.out.size; simp; omega)))
  have hx2 := (HX1.out.alloc (.cells #[.pointer none] 83)).below hb (by simp; omega)
  have HX2 := Lib.hid hx2
  have lb2 := hx2.lt
  clear hb hx2 c0 c1 HX1 HB1
  go_wp2_with fail
  refine (as_errno_errno n w2.heap.size (.int .i64 0) _ ((HG.out.below HB2.out).below ((Below.refl _ _).alloc (Nat.le_refl _) _)) (Cells.new w2 45 [.int .i64 0])).mono ?_
  rintro e w3 ⟨rfl, hc, ho⟩
  have hB3 : Below w.heap.size w w3 := (HB2.out.alloc HB2.out.size (.cells #[.int .i64 0] 45)).trans (ho.below (by have := HB2.out.size; simp; omega) (fun x hx => by simp at hx; have := HB2.out.size; omega))
  have hx3 := (HX2.out.alloc (.cells #[.int .i64 0] 45)).kept ho (by simp; omega)
  have c0 : w3.cell? ⟨w.heap.size, 0, none⟩ = some (.int .i64 n) := hx3.cell rfl
  have c2 : w3.cell? ⟨w2.heap.size, 0, none⟩ = some (.int .i64 n) := hc.cell rfl
  have HX3 := Lib.hid hx3
  have HB3 := Lib.hid hB3
  have lb3 := hx3.lt
  clear hc ho hx3 hB3 HX2 HB2
  go_wp2_with fail
  go_loopg [11] 20 (fun g vi wr => ∃ i : Int, vi = .int .i64 i ∧ 1 ≤ i ∧ i ≤ 21 ∧ g = (21 - i).toNat ∧ Cells wr w.heap.size 30 [.int .i64 n, .slice none 0 0] ∧ Below w.heap.size w wr)
  case atStart => exact ⟨1, rfl, by omega, by omega, rfl, HX3.out, HB3.out⟩
  case round =>
    obtain ⟨i, rfl, hi1, hi2, hgg, hcs, hbl⟩ := hrel
    have GG := Lib.hid hgg
    have HCS := Lib.hid hcs
    have HBL := Lib.hid hbl
    have c0 : wr.cell? ⟨w.heap.size, 0, none⟩ = some (.int .i64 n) := hcs.cell rfl
    clear hgg hcs hbl
    by_cases hi : i ≤ 20
    · have d0 : decide (i ≤ 20) = true := by simpa using hi
      by_cases hn : n = i
      · subst hn
        have hIs := is_errno n n
        simp only [beq_self_eq_true] at hIs
        go_wp2_with fail
        go_quiet ((go_at_call 47; exact Calls.quiet_of_same (hIs _)))
        go_wp2_with fail
        go_roundg (21 - (n + 1)).toNat
        case measure => rw [GG.out]; omega
        case rel => exact ⟨n + 1, rfl, by omega, by omega, rfl, HCS.out, below_drewN HBL.out _⟩
      · have d1 : (n == i) = false := by simpa using hn
        have d2 : (i == n) = false := by rw [beq_eq_false_iff_ne]; exact fun e => hn e.symm
        have hIs := is_errno n i
        rw [d1] at hIs
        clear hn
        go_wp2_with fail
        go_quiet ((go_at_call 47; exact Calls.quiet_of_same (hIs _)))
        go_wp2_with fail
        go_roundg (21 - (i + 1)).toNat
        case measure => rw [GG.out]; omega
        case rel => exact ⟨i + 1, rfl, by omega, by omega, rfl, HCS.out, below_drewN HBL.out _⟩
    · have d0 : decide (i ≤ 20) = false := by simpa using hi
      go_wp2
      go_returns
      exact ⟨rfl, HBL.out⟩

set_option maxRecDepth 100000 in
set_option maxHeartbeats 4000000 in
theorem same_at (k i n : Int) (g pb : Nat) (w : World) (h1 : 1 ≤ n) (h2 : n ≤ 20) (hg : EVar w) (hf : Cells w g 87 [.int .i64 k, .int .i64 i, errV n]) (hp : Cells w pb 82 [.int .i64 k, .int .i64 i]) :
    Calls Tryd.prog 16 #[.iface 83 (.pointer (some ⟨g, 0, none⟩)), .agg #[.int .i64 n, .slice (some ⟨pb, 0, none⟩) 1 1]] w (BoolIs true w) := by
  have HG := Lib.hid hg
  have HF := Lib.hid hf
  have HP := Lib.hid hp
  have lg := hf.lt
  have lp := hp.lt
  clear hg hf hp
  go_enter Tryd.func16, Tryd.ntmps16
  go_wp2_with fail
  refine (bad_any _ (.at k i n) _ ⟨pb, rfl, HP.out.alloc _⟩ ⟨h1, h2⟩).mono ?_
  rintro e w1 ⟨he, hb⟩
  have he' : e = .returned (.bool true) := he
  subst he'
  have hbx := (Cells.new w 30 [.int .i64 n, .slice (some ⟨pb, 0, none⟩) 1 1]).below hb (by simp)
  have hB1 := ((Below.refl w.heap.size w).alloc (Nat.le_refl _) (.cells #[.int .i64 n, .slice (some ⟨pb, 0, none⟩) 1 1] 30)).trans (hb.mono (by simp))
  have hz1 := hbx.lt
  have c0 : w1.cell? ⟨w.heap.size, 0, none⟩ = some (.int .i64 n) := hbx.cell rfl
  have c1 : w1.cell? ⟨w.heap.size, 1, none⟩ = some (.slice (some ⟨pb, 0, none⟩) 1 1) := hbx.cell rfl
  have p0 : w1.cell? ⟨pb, 0, none⟩ = some (.int .i64 k) := (HP.out.below hB1 lp).cell rfl
  have p1 : w1.cell? ⟨pb, 1, none⟩ = some (.int .i64 i) := (HP.out.below hB1 lp).cell rfl
  have lp1 : pb < w1.heap.size := by omega
  have HX1 := Lib.hid hbx
  have HB1 := Lib.hid hB1
  clear hb he hbx hB1
  go_wp2_with fail
  refine wp_loop_rounds 2 ?_
  rw [rounds_succ]
  go_wp2_with fail
  obtain ⟨wq, hwq⟩ : ∃ wq, (w1.alloc (.cells #[.int .i64 k, .int .i64 i] 82)).alloc (.cells #[.pointer none] 83) = wq := ⟨_, rfl⟩
  have zP : Cells wq w1.heap.size 82 [.int .i64 k, .int .i64 i] := by
    rw [← hwq]
    exact (Cells.new w1 _ _).alloc _
  have zF : Cells wq (w1.heap.size + 1) 83 [.pointer none] := by
    rw [← hwq]
    exact cells_at (by simp) _ _
  have zb : Below w1.heap.size w1 wq := by
    rw [← hwq]
    exact ((Below.refl _ _).alloc (Nat.le_refl _) _).alloc (by simp) _
  rw [hwq]
  clear hwq
  have hzF := zF.lt
  have HBq := Lib.hid (HB1.out.trans (zb.mono HB1.out.size))
  have HFq := Lib.hid (HF.out.below HBq.out lg)
  have HXq := Lib.hid (HX1.out.below zb hz1)
  have HGq := Lib.hid (HG.out.below HBq.out)
  have HPl := Lib.hid zP
  have HFl := Lib.hid zF
  clear zP zF zb c0 c1 p0 p1 HX1 HB1
  go_region_with (first | (go_at_call 46; refine (as_fault_fault ⟨g, 0, none⟩ (w1.heap.size + 1) (.pointer none) _ ?_ ?_).mono ?_; exact HGq.out; exact HFl.out; rintro ev w2 ⟨rfl, hc, ho⟩; (have q0 := hc.cell (i := 0) rfl); (have q1 := (HPl.out.drew.kept ho (by simp)).cell (i := 0) rfl); (have q2 := (HPl.out.drew.kept ho (by simp)).cell (i := 1) rfl); (have q3 := (HFq.out.drew.kept ho (by simp; omega)).cell (i := 0) rfl); (have q4 := (HFq.out.drew.kept ho (by simp; omega)).cell (i := 1) rfl)))
  all_goals
    have hB2 : Below w.heap.size w w2 := HBq.out.drew.trans (ho.below (by have := HBq.out.size; simpa using this) (fun x hx => by simp at hx; have := HBq.out.size; omega))
    have hx2 := HXq.out.drew.kept ho (by simp; omega)
    have hf2 := HFq.out.drew.kept ho (by simp; omega)
    have q5 : w2.cell? ⟨g, 2, none⟩ = some (.iface 45 (.int .i64 n)) := hf2.cell (i := 2) rfl
    have HB2 := Lib.hid hB2
    have HX2 := Lib.hid hx2
    have HF2 := Lib.hid hf2
    have lx2 := hx2.lt
    have lf2 := hf2.lt
    clear hB2 hx2 hf2 hc ho HXq HFq HGq HBq HPl HFl
    go_wp2_with fail
    rw [rounds_succ]
    go_wp2_with fail
    refine (as_num_fault n ⟨w2.heap.size, 0, none⟩ _ ((HG.out.below HB2.out).below ((Below.refl _ _).alloc (Nat.le_refl _) _))).mono ?_
    rintro e w3 ⟨rfl, hb⟩
    have HB3 := Lib.hid ((HB2.out.alloc HB2.out.size (.cells #[.pointer none] 83)).trans (hb.mono (by have := HB2.out.size; simp; omega)))
    have HX3 := Lib.hid ((HX2.out.alloc (.cells #[.pointer none] 83)).below hb (by simp; omega))
    have HF3 := Lib.hid ((HF2.out.alloc (.cells #[.pointer none] 83)).below hb (by simp; omega))
    clear hb HX2 HF2 HB2 q0 q1 q2 q3 q4 q5
    have lx3 := HX3.out.lt
    have lf3 := HF3.out.lt
    go_wp2_with fail
    refine (as_fault_errno g n w3.heap.size (.int .i64 0) _ ((HG.out.below HB3.out).below ((Below.refl _ _).alloc (Nat.le_refl _) _)) (Cells.new w3 45 [.int .i64 0]) ((HF3.out.alloc _).cell (i := 2) rfl)).mono ?_
    rintro e w4 ⟨rfl, hc, ho⟩
    have HB4 := Lib.hid ((HB3.out.alloc HB3.out.size (.cells #[.int .i64 0] 45)).trans (ho.below (by have := HB3.out.size; simp; omega) (fun x hx => by simp at hx; have := HB3.out.size; omega)))
    have HX4 := Lib.hid ((HX3.out.alloc (.cells #[.int .i64 0] 45)).kept ho (by simp; omega))
    have HF4 := Lib.hid ((HF3.out.alloc (.cells #[.int .i64 0] 45)).kept ho (by simp; omega))
    have c0 := HX4.out.cell (i := 0) rfl
    have c2 : w4.cell? ⟨w3.heap.size, 0, none⟩ = some (.int .i64 n) := hc.cell rfl
    clear hc ho HX3 HF3 HB3
    go_wp2_with fail
    go_loopg [11] 20 (fun g' vi wr => ∃ j : Int, vi = .int .i64 j ∧ 1 ≤ j ∧ j ≤ 21 ∧ g' = (21 - j).toNat ∧ Cells wr w.heap.size 30 [.int .i64 n, .slice (some ⟨pb, 0, none⟩) 1 1] ∧ Cells wr g 87 [.int .i64 k, .int .i64 i, errV n] ∧ Below w.heap.size w wr)
    case atStart => exact ⟨1, rfl, by omega, by omega, rfl, HX4.out, HF4.out, HB4.out⟩
    case round =>
      obtain ⟨j, rfl, hi1, hi2, hgg, hcs, hfs, hbl⟩ := hrel
      have GG := Lib.hid hgg
      have HCS := Lib.hid hcs
      have HFS := Lib.hid hfs
      have HBL := Lib.hid hbl
      have c0 : wr.cell? ⟨w.heap.size, 0, none⟩ = some (.int .i64 n) := hcs.cell rfl
      clear hgg hcs hfs hbl
      by_cases hi : j ≤ 20
      · have d0 : decide (j ≤ 20) = true := by simpa using hi
        by_cases hn : n = j
        · subst hn
          have hIs := fun W h => is_fault g n n W h
          simp only [beq_self_eq_true] at hIs
          go_wp2_with fail
          go_quiet ((go_at_call 47; exact Calls.quiet_of_same (hIs _ (HFS.out.cell (i := 2) rfl))))
          go_wp2_with fail
          go_roundg (21 - (n + 1)).toNat
          case measure => rw [GG.out]; omega
          case rel => exact ⟨n + 1, rfl, by omega, by omega, rfl, HCS.out, HFS.out, below_drewN HBL.out _⟩
        · have d1 : (n == j) = false := by simpa using hn
          have d2 : (j == n) = false := by rw [beq_eq_false_iff_ne]; exact fun e => hn e.symm
          have hIs := fun W h => is_fault g n j W h
          rw [d1] at hIs
          clear hn
          go_wp2_with fail
          go_quiet ((go_at_call 47; exact Calls.quiet_of_same (hIs _ (HFS.out.cell (i := 2) rfl))))
          go_wp2_with fail
          go_roundg (21 - (j + 1)).toNat
          case measure => rw [GG.out]; omega
          case rel => exact ⟨j + 1, rfl, by omega, by omega, rfl, HCS.out, HFS.out, below_drewN HBL.out _⟩
      · have d0 : decide (j ≤ 20) = false := by simpa using hi
        go_wp2
        go_returns
        exact ⟨rfl, HBL.out⟩

/-- **viaductseen.Same**, where the document wants what the program answers. -/
theorem same_any (x : EV) (v u : Value) (w : World) (hp : x.pos) (hg : EVar w) (hv : ErrIs w v x) (hu : ErrV w u x) : Calls Tryd.prog 16 #[v, u] w (BoolIs true w) := by
  cases x with
  | nil =>
    obtain rfl : v = .nilIface := hv
    obtain rfl : u = _ := hu
    exact same_nil w
  | code n =>
    obtain rfl : v = errV n := hv
    obtain rfl : u = _ := hu
    exact same_code n w hp.1 hp.2 hg
  | «at» k i n =>
    obtain ⟨g, rfl, hf⟩ := hv
    obtain ⟨b, rfl, hpl⟩ := hu
    exact same_at k i n g b w hp.1 hp.2 hg hf hpl
end Go.Proofs.YtjbphoophgbmiaaDoor

/- What the rows' one listed variable gives a walk; how a law's row at the door follows from its walk. -/
namespace Go.Proofs.YtjbphoophgbmiaaDoor
open Go.ChangeShapes Go.WideShapes Go.ChangeAt Go.RowKit Go.Joins Go.Deep

theorem Tryd.own : ownKnob Tryd.prog.godebug = none := by kernel_rfl
theorem Tryd.laid : laidOutB Tryd.prog = true := by kernel_rfl
theorem Tryd.et : Tryd.prog.globalNamed "errors.errorType" = some 0 := by kernel_rfl
theorem Tryd.rt : (Tryd.prog.cutTypes.find? (·.1 == "internal/reflectlite.rtype")).map (·.2) = some 163 := by kernel_rfl
theorem Tryd.oneRow : ((List.range 246).filter fun t => Tryd.prog.rowNamed t [101, 114, 114, 111, 114]) = [34] := by kernel_rfl
theorem Tryd.typesSize : Tryd.prog.types.size = 246 := by kernel_rfl
theorem readHier : Tryd.prog.readableRec 25 = true ∧ 25 < Tryd.prog.types.size := ⟨by kernel_rfl, of_decide_eq_true (by kernel_rfl)⟩
theorem readInt : Tryd.prog.readableRec 3 = true ∧ 3 < Tryd.prog.types.size := ⟨by kernel_rfl, of_decide_eq_true (by kernel_rfl)⟩
theorem readInts : Tryd.prog.readableRec 66 = true ∧ 66 < Tryd.prog.types.size := ⟨by kernel_rfl, of_decide_eq_true (by kernel_rfl)⟩
theorem wf64 {x : Int} (h : (Lit.int .i64 x).wf = true) : -9223372036854775808 ≤ x ∧ x ≤ 9223372036854775807 := by
  simp [Lit.wf, IntKind.min, IntKind.max, IntKind.signed, IntKind.bits] at h
  exact ⟨by omega, by omega⟩
def laidList : List (String × DataW Unit) := [("errors.errorType", Rows.laid_errors_errorType)]

/-- What the condition gives a walk: the variable's one cell. -/
theorem evar_of_laid {W : World} (h : laidMetH Tryd.prog [("errors.errorType", Rows.laid_errors_errorType)] W) : EVar W := by
  have h' : laidMet Tryd.prog [] W ∧ handlesMet Tryd.prog [("errors.errorType", Rows.laid_errors_errorType)] W := h
  obtain ⟨name, u, ty, e1, e2, e3, e4, e5⟩ := h'.2 _ (List.mem_singleton.2 rfl)
  have en : name = [101, 114, 114, 111, 114] := (Option.some.inj e1).symm
  subst en
  obtain rfl := Option.some.inj (Tryd.rt.symm.trans e2)
  have hm : ty ∈ (List.range 246).filter fun t => Tryd.prog.rowNamed t [101, 114, 114, 111, 114] := List.mem_filter.2 ⟨List.mem_range.2 (by rw [← Tryd.typesSize]; exact e3), e4⟩
  rw [Tryd.oneRow] at hm
  obtain rfl := List.mem_singleton.1 hm
  have hh : typeHandle Tryd.prog 34 = .pointer (some ⟨1, 34, none⟩) := by kernel_rfl
  rw [hh] at e5
  simpa [EVar] using World.var?_cell Tryd.et e5 0

/-- A world that meets the condition. -/
noncomputable def laidWorld (os : Os) : World :=
  let w0 := World.holding Tryd.prog os ⟨#[], #[], []⟩
  { w0 with heap := w0.heap.modify 0 fun
      | .cells _ t frozen => .cells #[.iface 163 (.agg #[.pointer (some ⟨1, 34, none⟩)])] t frozen
      | o => o }
theorem laidWorld_met (os : Os) (args : Array Value) : laidMetH Tryd.prog [("errors.errorType", Rows.laid_errors_errorType)] ((laidWorld os).forCall (fun _ _ => 0) ⟨#[], args, []⟩).memory :=
  laidMetH_of_parts (laidMet_nil _ _) (by kernel_rfl)
end Go.Proofs.YtjbphoophgbmiaaDoor
