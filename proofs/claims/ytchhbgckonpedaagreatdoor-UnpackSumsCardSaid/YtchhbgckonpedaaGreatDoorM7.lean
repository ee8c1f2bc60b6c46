/- errors.Is, where an error is a number, or a fault round a number, and the target is a number. -/
import Derived.Test.YtchhbgckonpedaaGreatDoorM5
import Derived.LaidEql
import Derived.Stop.Asserts
import Derived.RowKitTokens
import Derived.Test.YtchhbgckonpedaaGreatDoorM1
import Derived.Test.YtchhbgckonpedaaGreatDoorM6
import Derived.Deep.RegionHeld3
import Derived.Test.YtchhbgckonpedaaGreatDoorCards
import Derived.Test.YtchhbgckonpedaaGreatDoorTie
import Derived.ChangeSame
import Derived.ChangeVars
import Derived.JoinedOf
import Derived.LaidLaws
import Derived.LaidHandle
import Derived.Stop.Joined
import Derived.SevenTiedAt
namespace Go.Proofs.YtchhbgckonpedaaGreatDoor
open Go.RowKit Go.Extern.Stop Go.Stop Go.Extern

/-- Two errors that are numbers: alike where the numbers are. -/
theorem run_equalIn_num {P : Program} (w : World) (d : Nat) {ti tn : TypeId} {ms : Array (String × TypeId)} {i : TypeInfo} {k : IntKind} (a b : Int)
    (hi : P.underlying ti = some (.interface ms)) (hn : P.underlying tn = some (.int k)) (hinfo : P.info? tn = some i) (hcomp : i.comparable = true) :
    (Op.equalIn (d + 2) ti (.iface tn (.int k a)) (.iface tn (.int k b))).run P w = .ok (a == b) w := by
  simp [Op.equalIn, run_underlying hi, run_underlying hn, typeInfo, hinfo, hcomp]
theorem run_eql_num {P : Program} (w : World) {ti tn : TypeId} {ms : Array (String × TypeId)} {i : TypeInfo} {k : IntKind} (a b : Int)
    (hi : P.underlying ti = some (.interface ms)) (hn : P.underlying tn = some (.int k)) (hinfo : P.info? tn = some i) (hcomp : i.comparable = true) :
    (binOp .eql ti (.iface tn (.int k a)) (.iface tn (.int k b))).run P w = .ok (.bool (a == b)) w := by
  simp only [binOp]
  simp [Op.equal, Op.maxDepth, run_equalIn_num w 9998 a b hi hn hinfo hcomp]

theorem Tryz.errCmp : (Tryz.prog.info? 61).map (·.comparable) = some true := by kernel_rfl
theorem Tryz.eqlErrno (a b : Int) (w : World) : (binOp .eql 30 (.iface 61 (.int .i64 a)) (.iface 61 (.int .i64 b))).run Tryz.prog w = .ok (.bool (a == b)) w := by
  obtain ⟨i, hi, hc⟩ := Option.map_eq_some_iff.1 Tryz.errCmp
  exact run_eql_num w a b Tryz.underlying30 Tryz.underlying61 hi hc
theorem Tryz.eqlFault (g : Option Addr) (b : Int) (w : World) : (binOp .eql 30 (.iface 84 (.pointer g)) (.iface 61 (.int .i64 b))).run Tryz.prog w = .ok (.bool false) w :=
  run_eql_iface_types (P := Tryz.prog) 84 61 (.pointer g) (.int .i64 b) Tryz.underlying30 (by decide) w
theorem Tryz.typeOfErrno (v : Value) (w : World) : (ReflectliteType.typeOf #[.iface 61 v]).run Tryz.prog w = .ok (.iface 166 (.agg #[.pointer (some ⟨1, 61, none⟩)])) w := by kernel_rfl
theorem Tryz.comparableErrno (w : World) : ((ReflectliteType.method fun t => do Rtype.noPackHeld "Comparable" t; (fun a => Value.bool a.comparable) <$> typeInfo t) #[.agg #[.pointer (some ⟨1, 61, none⟩)]]).run Tryz.prog w = .ok (.bool true) w := by kernel_rfl
theorem Tryz.noIsErrno (v : Value) (xT : TypeId) (w : World) : (Instr.typeAssert (.iface 61 v) xT 178 true).run Tryz.prog w = .ok (.tuple #[.nilIface, .bool false]) w := run_typeAssert_lacksB Tryz.underlying178 (by kernel_rfl) (by kernel_rfl) v xT w
theorem Tryz.noUnwrapErrno (v : Value) (xT : TypeId) (w : World) : (Instr.typeAssert (.iface 61 v) xT 173 true).run Tryz.prog w = .ok (.tuple #[.nilIface, .bool false]) w := run_typeAssert_lacksB Tryz.underlying173 (by kernel_rfl) (by kernel_rfl) v xT w
theorem Tryz.noUnwrapsErrno (v : Value) (xT : TypeId) (w : World) : (Instr.typeAssert (.iface 61 v) xT 175 true).run Tryz.prog w = .ok (.tuple #[.nilIface, .bool false]) w := run_typeAssert_lacksB Tryz.underlying175 (by kernel_rfl) (by kernel_rfl) v xT w
theorem Tryz.noIsFault (v : Value) (xT : TypeId) (w : World) : (Instr.typeAssert (.iface 84 v) xT 178 true).run Tryz.prog w = .ok (.tuple #[.nilIface, .bool false]) w := run_typeAssert_lacksB Tryz.underlying178 (by kernel_rfl) (by kernel_rfl) v xT w
theorem Tryz.hasUnwrapFault (v : Value) (xT : TypeId) (w : World) : (Instr.typeAssert (.iface 84 v) xT 173 true).run Tryz.prog w = .ok (.tuple #[.iface 84 v, .bool true]) w := run_typeAssert_hasB Tryz.underlying173 (by kernel_rfl) v xT w

set_option maxRecDepth 100000 in
theorem is_errno (n m : Int) (w : World) : Calls Tryz.prog 41 #[.iface 61 (.int .i64 n), .iface 61 (.int .i64 m)] w fun e w' => e = .returned (.bool (n == m)) ∧ w' = w := by
  have h8 := fun (args : Array Value) (W : World) => run_callFunc_extern (P := Tryz.prog) (f := 66) (e := ReflectliteType.typeOf) Tryz.func66 (by kernel_rfl) (by kernel_rfl) (by kernel_rfl) (by kernel_rfl) args W
  have h32 := fun (args : Array Value) (W : World) => run_callFunc_extern (P := Tryz.prog) (f := 180) (e := ReflectliteType.method fun t => do Rtype.noPackHeld "Comparable" t; pure (.bool (← typeInfo t).comparable)) Tryz.func180 (by kernel_rfl) (by kernel_rfl) (by kernel_rfl) (by kernel_rfl) args W
  have tT := Tryz.typeOfErrno
  have cT := Tryz.comparableErrno
  have heq := Tryz.eqlErrno n m
  have nE := Tryz.noIsErrno
  have uE := Tryz.noUnwrapErrno
  have vE := Tryz.noUnwrapsErrno
  have hd : ((n == m) = true) ∨ ((n == m) = false) := by cases n == m <;> simp
  rcases hd with hd | hd
  all_goals
    rw [hd]
    go_enter Tryz.func41, Tryz.ntmps41
    go_wp2
    refine wp_loop_rounds 1 ?_
    rw [rounds_succ]
    go_wp2
    go_returns
    exact ⟨rfl, rfl⟩
set_option maxRecDepth 100000 in
theorem is_fault (g : Nat) (n m : Int) (w : World) (hg : w.cell? ⟨g, 2, none⟩ = some (.iface 61 (.int .i64 n))) :
    Calls Tryz.prog 41 #[.iface 84 (.pointer (some ⟨g, 0, none⟩)), .iface 61 (.int .i64 m)] w fun e w' => e = .returned (.bool (n == m)) ∧ w' = w := by
  have h8 := fun (args : Array Value) (W : World) => run_callFunc_extern (P := Tryz.prog) (f := 66) (e := ReflectliteType.typeOf) Tryz.func66 (by kernel_rfl) (by kernel_rfl) (by kernel_rfl) (by kernel_rfl) args W
  have h32 := fun (args : Array Value) (W : World) => run_callFunc_extern (P := Tryz.prog) (f := 180) (e := ReflectliteType.method fun t => do Rtype.noPackHeld "Comparable" t; pure (.bool (← typeInfo t).comparable)) Tryz.func180 (by kernel_rfl) (by kernel_rfl) (by kernel_rfl) (by kernel_rfl) args W
  have tT := Tryz.typeOfErrno
  have cT := Tryz.comparableErrno
  have heq := Tryz.eqlErrno n m
  have hne := Tryz.eqlFault (some ⟨g, 0, none⟩) m
  have nE := Tryz.noIsErrno
  have uE := Tryz.noUnwrapErrno
  have vE := Tryz.noUnwrapsErrno
  have nF := Tryz.noIsFault
  have uF := Tryz.hasUnwrapFault
  have hd : ((n == m) = true) ∨ ((n == m) = false) := by cases n == m <;> simp
  rcases hd with hd | hd
  all_goals
    rw [hd]
    go_enter Tryz.func41, Tryz.ntmps41
    go_wp2
    refine wp_loop_rounds 2 ?_
    rw [rounds_succ]
    go_wp2
    rw [rounds_succ]
    go_wp2
    go_returns
    exact ⟨rfl, rfl⟩
end Go.Proofs.YtchhbgckonpedaaGreatDoor

/- errors.As at the two targets that the laws hand it: a pointer to a fault, a number. -/
namespace Go.Proofs.YtchhbgckonpedaaGreatDoor
open Go.RowKit Go.Extern.Stop Go.Stop Go.Extern

/-- What errors.errorType holds. -/
def EVar (w : World) : Prop := w.cell? ⟨0, 0, none⟩ = some (.iface 166 (.agg #[.pointer (some ⟨1, 30, none⟩)]))
theorem EVar.below {w w' : World} (h : EVar w) (b : Below w.heap.size w w') : EVar w' := (b.cell (p := ⟨0, 0, none⟩) (World.block_lt_of_cell? w _ h)).trans h
theorem EVar.kept {w w' : World} {bs : List Nat} (h : EVar w) (o : Only bs w w') (hn : 0 ∉ bs) : EVar w' := o.cell h hn
theorem Tryz.valueOfFPP (t : Addr) (w : World) : (ReflectliteValue.unpack (.iface 86 (.pointer (some t)))).run Tryz.prog w
    = .ok (.agg #[.pointer (some ⟨1, 86, none⟩), .pointer (some ⟨w.heap.size, 0, none⟩), .int .u64 150]) (w.alloc (.cells #[.pointer (some t)] 86)) := by kernel_rfl
theorem Tryz.typeFPP (a : Addr) (w : World) : (ReflectliteValue.methodAny (ReflectliteValue.valueError "reflectlite.Value.Type" 0) (fun t _ _ _ => ReflectliteType.toType t) #[.agg #[.pointer (some ⟨1, 86, none⟩), .pointer (some a), .int .u64 150]]).run Tryz.prog w
    = .ok (.iface 166 (.agg #[.pointer (some ⟨1, 86, none⟩)])) w := by kernel_rfl
theorem Tryz.kindFPP (w : World) : ((ReflectliteType.abiMethod fun t => (fun a : Nat => Value.int IntKind.u8 (a : Int)) <$> Rtype.kind t) #[.pointer (some ⟨1, 86, none⟩)]).run Tryz.prog w = .ok (.int .u8 22) w := by kernel_rfl
theorem Tryz.kindEFPP (w : World) : ((ReflectliteType.abiMethod fun t => (fun a : Nat => Value.int IntKind.u8 (a : Int)) <$> Rtype.kind t) #[.pointer (some ⟨1, 84, none⟩)]).run Tryz.prog w = .ok (.int .u8 22) w := by kernel_rfl
theorem Tryz.partsFPP (a : Addr) (w : World) : (ReflectliteValue.parts (.agg #[.pointer (some ⟨1, 86, none⟩), .pointer (some a), .int .u64 150])).run Tryz.prog w = .ok (some (86, a, 150)) w := by kernel_rfl
theorem Tryz.elemFPP (w : World) : (ReflectliteType.method ReflectliteType.elem #[.agg #[.pointer (some ⟨1, 86, none⟩)]]).run Tryz.prog w = .ok (.iface 166 (.agg #[.pointer (some ⟨1, 84, none⟩)])) w := by kernel_rfl
theorem Tryz.implementsFPP (w : World) : (ReflectliteType.relation "Implements" ReflectliteType.implements_ #[.agg #[.pointer (some ⟨1, 84, none⟩)], .iface 166 (.agg #[.pointer (some ⟨1, 30, none⟩)])]).run Tryz.prog w = .ok (.bool true) w := by kernel_rfl
theorem Tryz.elemOfFPP (w : World) : (Rtype.elem? 86).run Tryz.prog w = .ok (some 84) w := by kernel_rfl
theorem Tryz.mkFPP (p : Addr) (w : World) : (ReflectliteValue.mk 84 p ReflectliteValue.flagAddr).run Tryz.prog w = .ok (.agg #[.pointer (some ⟨1, 84, none⟩), .pointer (some p), .int .u64 406]) w := by kernel_rfl
theorem Tryz.partsAFPP (a : Addr) (w : World) : (ReflectliteValue.parts (.agg #[.pointer (some ⟨1, 84, none⟩), .pointer (some a), .int .u64 406])).run Tryz.prog w = .ok (some (84, a, 406)) w := by kernel_rfl
theorem Tryz.partsBFPP (a : Addr) (w : World) : (ReflectliteValue.parts (.agg #[.pointer (some ⟨1, 84, none⟩), .pointer (some a), .int .u64 150])).run Tryz.prog w = .ok (some (84, a, 150)) w := by kernel_rfl
theorem Tryz.directFPP (w : World) : (Rtype.directlyAssignable 84 84).run Tryz.prog w = .ok true w := by kernel_rfl
theorem Tryz.sizeFPP (w : World) : (sizeOf 84).run Tryz.prog w = .ok 1 w := by kernel_rfl
theorem Tryz.valueOfENP (t : Addr) (w : World) : (ReflectliteValue.unpack (.iface 89 (.pointer (some t)))).run Tryz.prog w
    = .ok (.agg #[.pointer (some ⟨1, 89, none⟩), .pointer (some ⟨w.heap.size, 0, none⟩), .int .u64 150]) (w.alloc (.cells #[.pointer (some t)] 89)) := by kernel_rfl
theorem Tryz.typeENP (a : Addr) (w : World) : (ReflectliteValue.methodAny (ReflectliteValue.valueError "reflectlite.Value.Type" 0) (fun t _ _ _ => ReflectliteType.toType t) #[.agg #[.pointer (some ⟨1, 89, none⟩), .pointer (some a), .int .u64 150]]).run Tryz.prog w
    = .ok (.iface 166 (.agg #[.pointer (some ⟨1, 89, none⟩)])) w := by kernel_rfl
theorem Tryz.kindENP (w : World) : ((ReflectliteType.abiMethod fun t => (fun a : Nat => Value.int IntKind.u8 (a : Int)) <$> Rtype.kind t) #[.pointer (some ⟨1, 89, none⟩)]).run Tryz.prog w = .ok (.int .u8 22) w := by kernel_rfl
theorem Tryz.kindEENP (w : World) : ((ReflectliteType.abiMethod fun t => (fun a : Nat => Value.int IntKind.u8 (a : Int)) <$> Rtype.kind t) #[.pointer (some ⟨1, 61, none⟩)]).run Tryz.prog w = .ok (.int .u8 2) w := by kernel_rfl
theorem Tryz.partsENP (a : Addr) (w : World) : (ReflectliteValue.parts (.agg #[.pointer (some ⟨1, 89, none⟩), .pointer (some a), .int .u64 150])).run Tryz.prog w = .ok (some (89, a, 150)) w := by kernel_rfl
theorem Tryz.elemENP (w : World) : (ReflectliteType.method ReflectliteType.elem #[.agg #[.pointer (some ⟨1, 89, none⟩)]]).run Tryz.prog w = .ok (.iface 166 (.agg #[.pointer (some ⟨1, 61, none⟩)])) w := by kernel_rfl
theorem Tryz.implementsENP (w : World) : (ReflectliteType.relation "Implements" ReflectliteType.implements_ #[.agg #[.pointer (some ⟨1, 61, none⟩)], .iface 166 (.agg #[.pointer (some ⟨1, 30, none⟩)])]).run Tryz.prog w = .ok (.bool true) w := by kernel_rfl
theorem Tryz.elemOfENP (w : World) : (Rtype.elem? 89).run Tryz.prog w = .ok (some 61) w := by kernel_rfl
theorem Tryz.mkENP (p : Addr) (w : World) : (ReflectliteValue.mk 61 p ReflectliteValue.flagAddr).run Tryz.prog w = .ok (.agg #[.pointer (some ⟨1, 61, none⟩), .pointer (some p), .int .u64 386]) w := by kernel_rfl
theorem Tryz.partsAENP (a : Addr) (w : World) : (ReflectliteValue.parts (.agg #[.pointer (some ⟨1, 61, none⟩), .pointer (some a), .int .u64 386])).run Tryz.prog w = .ok (some (61, a, 386)) w := by kernel_rfl
theorem Tryz.partsBENP (a : Addr) (w : World) : (ReflectliteValue.parts (.agg #[.pointer (some ⟨1, 61, none⟩), .pointer (some a), .int .u64 130])).run Tryz.prog w = .ok (some (61, a, 130)) w := by kernel_rfl
theorem Tryz.directENP (w : World) : (Rtype.directlyAssignable 61 61).run Tryz.prog w = .ok true w := by kernel_rfl
theorem Tryz.sizeENP (w : World) : (sizeOf 61).run Tryz.prog w = .ok 1 w := by kernel_rfl
theorem rlm (z : Sem Value) (f : TypeId → Addr → Nat → Nat → Sem Value) (v : Value) :
    ReflectliteValue.method z f #[v] = (do match ← ReflectliteValue.parts v with | none => z | some (t, a, fl) => f t a fl (fl % 32)) := rfl
theorem rls (v x : Value) : ReflectliteValue.set #[v, x] = (do
    let (some (dst, a, fl), some (src, b, _)) := (← ReflectliteValue.parts v, ← ReflectliteValue.parts x)
      | unsupported (.noEntry "extern/(internal/reflectlite.Value).Set.zeroValue")
    if fl / ReflectliteValue.flagAddr % 2 == 0 then unsupported (.noEntry "extern/(internal/reflectlite.Value).Set.unaddressable")
    let val ← loadVar src b
    if ← Rtype.directlyAssignable dst src then storeVar dst a val
    else if ← Rtype.implements dst src then
      if (← Rtype.kind src) == 20 then
        match val with
        | .nilIface => unsupported (.noEntry "extern/reflectlite: a nil value of one interface type handed on as a value of another")
        | _ => storeVar dst a val
      else storeVar dst a (.iface src val)
    else panicString ("reflectlite.Set: value of type " ++ (← Rtype.spelt src) ++ " is not assignable to type " ++ (← Rtype.spelt dst))
    pure (.tuple #[])) := rfl
theorem Tryz.isNilFPP (a p : Addr) (W : World) (ha : W.cell? a = some (.pointer (some p))) :
    (ReflectliteValue.method (ReflectliteValue.valueError "reflectlite.Value.IsNil" 0) ReflectliteValue.isNil #[.agg #[.pointer (some ⟨1, 86, none⟩), .pointer (some a), .int .u64 150]]).run Tryz.prog W = .ok (.bool false) W := by
  rw [rlm]
  simp only [Sem.run_bind, Tryz.partsFPP, Result.andThen]
  simp [ReflectliteValue.isNil, loadVar, isAgg, underlying, Tryz.underlying86, ha, Result.andThen]
theorem Tryz.elemVFPP (a p : Addr) (W : World) (ha : W.cell? a = some (.pointer (some p))) :
    (ReflectliteValue.method (ReflectliteValue.valueError "reflectlite.Value.Elem" 0) ReflectliteValue.elem #[.agg #[.pointer (some ⟨1, 86, none⟩), .pointer (some a), .int .u64 150]]).run Tryz.prog W
      = .ok (.agg #[.pointer (some ⟨1, 84, none⟩), .pointer (some p), .int .u64 406]) W := by
  rw [rlm]
  simp only [Sem.run_bind, Tryz.partsFPP, Result.andThen]
  simp [ReflectliteValue.elem, loadVar, isAgg, underlying, Tryz.underlying86, ha, Result.andThen, Tryz.elemOfFPP, Tryz.mkFPP]
theorem Tryz.setFPP (ta b : Addr) (e : Addr) (old : Value) (W : World) (hb : W.cell? b = some (.pointer (some e))) (ht : W.cell? ta = some old) (hf : W.frozen? ta = false) :
    (ReflectliteValue.set #[.agg #[.pointer (some ⟨1, 84, none⟩), .pointer (some ta), .int .u64 406], .agg #[.pointer (some ⟨1, 84, none⟩), .pointer (some b), .int .u64 150]]).run Tryz.prog W
      = .ok (.tuple #[]) (W.setCell ta (.pointer (some e))) := by
  rw [rls]
  simp only [Sem.run_bind, Tryz.partsAFPP, Tryz.partsBFPP, Result.andThen]
  simp [ReflectliteValue.flagAddr, loadVar, isAgg, underlying, Tryz.underlying84, hb, Result.andThen, Tryz.directFPP, storeVar, Value.cells, storeCells, Addr.add]
  rw [run_store Tryz.prog W ta _ _ (by rfl)]
  simp [ht, hf]
theorem Tryz.isNilENP (a p : Addr) (W : World) (ha : W.cell? a = some (.pointer (some p))) :
    (ReflectliteValue.method (ReflectliteValue.valueError "reflectlite.Value.IsNil" 0) ReflectliteValue.isNil #[.agg #[.pointer (some ⟨1, 89, none⟩), .pointer (some a), .int .u64 150]]).run Tryz.prog W = .ok (.bool false) W := by
  rw [rlm]
  simp only [Sem.run_bind, Tryz.partsENP, Result.andThen]
  simp [ReflectliteValue.isNil, loadVar, isAgg, underlying, Tryz.underlying89, ha, Result.andThen]
theorem Tryz.elemVENP (a p : Addr) (W : World) (ha : W.cell? a = some (.pointer (some p))) :
    (ReflectliteValue.method (ReflectliteValue.valueError "reflectlite.Value.Elem" 0) ReflectliteValue.elem #[.agg #[.pointer (some ⟨1, 89, none⟩), .pointer (some a), .int .u64 150]]).run Tryz.prog W
      = .ok (.agg #[.pointer (some ⟨1, 61, none⟩), .pointer (some p), .int .u64 386]) W := by
  rw [rlm]
  simp only [Sem.run_bind, Tryz.partsENP, Result.andThen]
  simp [ReflectliteValue.elem, loadVar, isAgg, underlying, Tryz.underlying89, ha, Result.andThen, Tryz.elemOfENP, Tryz.mkENP]
theorem Tryz.setENP (ta b : Addr) (e : Int) (old : Value) (W : World) (hb : W.cell? b = some (.int .i64 e)) (ht : W.cell? ta = some old) (hf : W.frozen? ta = false) :
    (ReflectliteValue.set #[.agg #[.pointer (some ⟨1, 61, none⟩), .pointer (some ta), .int .u64 386], .agg #[.pointer (some ⟨1, 61, none⟩), .pointer (some b), .int .u64 130]]).run Tryz.prog W
      = .ok (.tuple #[]) (W.setCell ta (.int .i64 e)) := by
  rw [rls]
  simp only [Sem.run_bind, Tryz.partsAENP, Tryz.partsBENP, Result.andThen]
  simp [ReflectliteValue.flagAddr, loadVar, isAgg, underlying, Tryz.underlying61, hb, Result.andThen, Tryz.directENP, storeVar, Value.cells, storeCells, Addr.add]
  rw [run_store Tryz.prog W ta _ _ (by rfl)]
  simp [ht, hf]
theorem Tryz.typeOfF (v : Value) (w : World) : (ReflectliteType.typeOf #[.iface 84 v]).run Tryz.prog w = .ok (.iface 166 (.agg #[.pointer (some ⟨1, 84, none⟩)])) w := by kernel_rfl
theorem Tryz.valueOfF (e : Addr) (w : World) : (ReflectliteValue.unpack (.iface 84 (.pointer (some e)))).run Tryz.prog w
    = .ok (.agg #[.pointer (some ⟨1, 84, none⟩), .pointer (some ⟨w.heap.size, 0, none⟩), .int .u64 150]) (w.alloc (.cells #[.pointer (some e)] 84)) := by kernel_rfl
theorem Tryz.noAsF (v : Value) (xT : TypeId) (w : World) : (Instr.typeAssert (.iface 84 v) xT 170 true).run Tryz.prog w = .ok (.tuple #[.nilIface, .bool false]) w := run_typeAssert_lacksB Tryz.underlying170 (by kernel_rfl) (by kernel_rfl) v xT w
theorem Tryz.assignFF (w : World) : (ReflectliteType.relation "AssignableTo" ReflectliteType.assignableTo #[.agg #[.pointer (some ⟨1, 84, none⟩)], .iface 166 (.agg #[.pointer (some ⟨1, 84, none⟩)])]).run Tryz.prog w = .ok (.bool true) w := by kernel_rfl
theorem Tryz.assignFE (w : World) : (ReflectliteType.relation "AssignableTo" ReflectliteType.assignableTo #[.agg #[.pointer (some ⟨1, 84, none⟩)], .iface 166 (.agg #[.pointer (some ⟨1, 61, none⟩)])]).run Tryz.prog w = .ok (.bool false) w := by kernel_rfl
theorem Tryz.typeOfE (v : Value) (w : World) : (ReflectliteType.typeOf #[.iface 61 v]).run Tryz.prog w = .ok (.iface 166 (.agg #[.pointer (some ⟨1, 61, none⟩)])) w := by kernel_rfl
theorem Tryz.valueOfE (e : Int) (w : World) : (ReflectliteValue.unpack (.iface 61 (.int .i64 e))).run Tryz.prog w
    = .ok (.agg #[.pointer (some ⟨1, 61, none⟩), .pointer (some ⟨w.heap.size, 0, none⟩), .int .u64 130]) (w.alloc (.cells #[.int .i64 e] 61)) := by kernel_rfl
theorem Tryz.noAsE (v : Value) (xT : TypeId) (w : World) : (Instr.typeAssert (.iface 61 v) xT 170 true).run Tryz.prog w = .ok (.tuple #[.nilIface, .bool false]) w := run_typeAssert_lacksB Tryz.underlying170 (by kernel_rfl) (by kernel_rfl) v xT w
theorem Tryz.assignEF (w : World) : (ReflectliteType.relation "AssignableTo" ReflectliteType.assignableTo #[.agg #[.pointer (some ⟨1, 61, none⟩)], .iface 166 (.agg #[.pointer (some ⟨1, 84, none⟩)])]).run Tryz.prog w = .ok (.bool false) w := by kernel_rfl
theorem Tryz.assignEE (w : World) : (ReflectliteType.relation "AssignableTo" ReflectliteType.assignableTo #[.agg #[.pointer (some ⟨1, 61, none⟩)], .iface 166 (.agg #[.pointer (some ⟨1, 61, none⟩)])]).run Tryz.prog w = .ok (.bool true) w := by kernel_rfl
theorem Tryz.unwF (v : Value) (xT : TypeId) (w : World) : (Instr.typeAssert (.iface 84 v) xT 173 true).run Tryz.prog w = .ok (.tuple #[.iface 84 v, .bool true]) w := run_typeAssert_hasB Tryz.underlying173 (by kernel_rfl) v xT w
theorem Tryz.unwE (v : Value) (xT : TypeId) (w : World) : (Instr.typeAssert (.iface 61 v) xT 173 true).run Tryz.prog w = .ok (.tuple #[.nilIface, .bool false]) w := run_typeAssert_lacksB Tryz.underlying173 (by kernel_rfl) (by kernel_rfl) v xT w
theorem Tryz.unwsE (v : Value) (xT : TypeId) (w : World) : (Instr.typeAssert (.iface 61 v) xT 175 true).run Tryz.prog w = .ok (.tuple #[.nilIface, .bool false]) w := run_typeAssert_lacksB Tryz.underlying175 (by kernel_rfl) (by kernel_rfl) v xT w

set_option maxRecDepth 100000 in
set_option maxHeartbeats 4000000 in
theorem as_fault_run (e t : Addr) (old : Value) (w : World) (hg : w.cell? ⟨0, 0, none⟩ = some (.iface 166 (.agg #[.pointer (some ⟨1, 30, none⟩)]))) (ht0 : w.cell? t = some old) (hf0 : w.frozen? t = false) :
    Calls Tryz.prog 40 #[.iface 84 (.pointer (some e)), .iface 86 (.pointer (some t))] w fun ev w' => ev = .returned (.bool true) ∧ w' = ((((w.alloc (.cells #[.pointer (some t)] 86)).alloc (.cells #[.pointer (some ⟨1, 86, none⟩), .pointer (some ⟨w.heap.size, 0, none⟩), .int .u64 150] 125)).alloc (.cells #[.pointer (some ⟨1, 86, none⟩), .pointer (some ⟨w.heap.size, 0, none⟩), .int .u64 150] 125)).alloc (.cells #[.pointer (some e)] 84)).setCell t (.pointer (some e)) := by
  have x6 := fun (args : Array Value) (W : World) => run_callFunc_extern (P := Tryz.prog) (f := 62) (e := fun args => ReflectliteValue.unpack (args.getD 0 (.tuple #[]))) Tryz.func62 (by kernel_rfl) (by kernel_rfl) (by kernel_rfl) (by kernel_rfl) args W
  have x7 := fun (args : Array Value) (W : World) => run_callFunc_extern (P := Tryz.prog) (f := 63) (e := ReflectliteValue.methodAny (ReflectliteValue.valueError "reflectlite.Value.Type" 0) (fun t _ _ _ => ReflectliteType.toType t)) Tryz.func63 (by kernel_rfl) (by kernel_rfl) (by kernel_rfl) (by kernel_rfl) args W
  have x8 := fun (args : Array Value) (W : World) => run_callFunc_extern (P := Tryz.prog) (f := 64) (e := ReflectliteValue.method (ReflectliteValue.valueError "reflectlite.Value.IsNil" 0) ReflectliteValue.isNil) Tryz.func64 (by kernel_rfl) (by kernel_rfl) (by kernel_rfl) (by kernel_rfl) args W
  have x27 := fun (args : Array Value) (W : World) => run_callFunc_extern (P := Tryz.prog) (f := 169) (e := ReflectliteType.abiMethod fun t => do pure (.int .u8 (← Rtype.kind t))) Tryz.func169 (by kernel_rfl) (by kernel_rfl) (by kernel_rfl) (by kernel_rfl) args W
  have x37 := fun (args : Array Value) (W : World) => run_callFunc_extern (P := Tryz.prog) (f := 181) (e := ReflectliteType.method ReflectliteType.elem) Tryz.func181 (by kernel_rfl) (by kernel_rfl) (by kernel_rfl) (by kernel_rfl) args W
  have x38 := fun (args : Array Value) (W : World) => run_callFunc_extern (P := Tryz.prog) (f := 182) (e := ReflectliteType.relation "Implements" ReflectliteType.implements_) Tryz.func182 (by kernel_rfl) (by kernel_rfl) (by kernel_rfl) (by kernel_rfl) args W
  have x10 := fun (args : Array Value) (W : World) => run_callFunc_extern (P := Tryz.prog) (f := 66) (e := ReflectliteType.typeOf) Tryz.func66 (by kernel_rfl) (by kernel_rfl) (by kernel_rfl) (by kernel_rfl) args W
  have x35 := fun (args : Array Value) (W : World) => run_callFunc_extern (P := Tryz.prog) (f := 179) (e := ReflectliteType.relation "AssignableTo" ReflectliteType.assignableTo) Tryz.func179 (by kernel_rfl) (by kernel_rfl) (by kernel_rfl) (by kernel_rfl) args W
  have x11 := fun (args : Array Value) (W : World) => run_callFunc_extern (P := Tryz.prog) (f := 84) (e := ReflectliteValue.method (ReflectliteValue.valueError "reflectlite.Value.Elem" 0) ReflectliteValue.elem) Tryz.func84 (by kernel_rfl) (by kernel_rfl) (by kernel_rfl) (by kernel_rfl) args W
  have x12 := fun (args : Array Value) (W : World) => run_callFunc_extern (P := Tryz.prog) (f := 85) (e := ReflectliteValue.set) Tryz.func85 (by kernel_rfl) (by kernel_rfl) (by kernel_rfl) (by kernel_rfl) args W
  have f6 := Tryz.valueOfFPP
  have f7 := Tryz.typeFPP
  have k27 := Tryz.kindFPP
  have k25 := Tryz.kindEFPP
  have e27 := Tryz.elemFPP
  have i25 := Tryz.implementsFPP
  have n8 := Tryz.isNilFPP ⟨w.heap.size, 0, none⟩ t ((w.alloc (.cells #[.pointer (some t)] 86)).alloc (.cells #[.pointer (some ⟨1, 86, none⟩), .pointer (some ⟨w.heap.size, 0, none⟩), .int .u64 150] 125)) (by simp)
  have hlt : 0 < w.heap.size := World.block_lt_of_cell? w _ hg
  have hg2 : ((w.alloc (.cells #[.pointer (some t)] 86)).alloc (.cells #[.pointer (some ⟨1, 86, none⟩), .pointer (some ⟨w.heap.size, 0, none⟩), .int .u64 150] 125)).cell? ⟨0, 0, none⟩ = some (.iface 166 (.agg #[.pointer (some ⟨1, 30, none⟩)])) := by
    rw [World.cell?_alloc_lt _ _ ⟨0, 0, none⟩ (by simp), World.cell?_alloc_lt _ _ ⟨0, 0, none⟩ hlt]; exact hg
  have htl : t.block < w.heap.size := World.block_lt_of_cell? w _ ht0
  have el := Tryz.elemVFPP ⟨w.heap.size, 0, none⟩ t (((w.alloc (.cells #[.pointer (some t)] 86)).alloc (.cells #[.pointer (some ⟨1, 86, none⟩), .pointer (some ⟨w.heap.size, 0, none⟩), .int .u64 150] 125)).alloc (.cells #[.pointer (some ⟨1, 86, none⟩), .pointer (some ⟨w.heap.size, 0, none⟩), .int .u64 150] 125)) (by rw [World.cell?_alloc_lt _ _ ⟨w.heap.size, 0, none⟩ (by simp; omega)]; simp)
  have st := Tryz.setFPP t ⟨w.heap.size + 1 + 1 + 1, 0, none⟩ e old ((((w.alloc (.cells #[.pointer (some t)] 86)).alloc (.cells #[.pointer (some ⟨1, 86, none⟩), .pointer (some ⟨w.heap.size, 0, none⟩), .int .u64 150] 125)).alloc (.cells #[.pointer (some ⟨1, 86, none⟩), .pointer (some ⟨w.heap.size, 0, none⟩), .int .u64 150] 125)).alloc (.cells #[.pointer (some e)] 84))
    (by rw [World.cell?_alloc_at _ _ _ _ (by simp)]; rfl)
    (by rw [World.cell?_alloc_lt _ _ t (by simp; omega), World.cell?_alloc_lt _ _ t (by simp; omega), World.cell?_alloc_lt _ _ t (by simp; omega), World.cell?_alloc_lt _ _ t htl]; exact ht0)
    (by rw [World.frozen?_alloc_old _ _ t (by simp; omega), World.frozen?_alloc_old _ _ t (by simp; omega), World.frozen?_alloc_old _ _ t (by simp; omega), World.frozen?_alloc_old _ _ t (Nat.ne_of_lt htl)]; exact hf0)
  have tO := Tryz.typeOfF
  have a25 := Tryz.assignFF
  have v25 := Tryz.valueOfF
  go_enter Tryz.func40, Tryz.ntmps40
  go_wp2
  refine wp_loop_rounds 1 ?_
  rw [rounds_succ]
  go_wp2
  go_ret
  exact ⟨rfl, rfl⟩
/-- errors.As of a fault, at a pointer to a fault. -/
theorem as_fault_fault (e : Addr) (tb : Nat) (old : Value) (w : World) (hg : EVar w) (ht : Cells w tb 84 [old]) :
    Calls Tryz.prog 40 #[.iface 84 (.pointer (some e)), .iface 86 (.pointer (some ⟨tb, 0, none⟩))] w fun ev w' => ev = .returned (.bool true) ∧ Cells w' tb 84 [.pointer (some e)] ∧ Only [tb] w w' :=
  (as_fault_run e ⟨tb, 0, none⟩ old w hg (ht.cell rfl) (ht.frozen 0)).mono fun ev w' ⟨h1, h2⟩ => ⟨h1, h2 ▸ (((((ht.alloc _).alloc _).alloc _).alloc _).set 0 _), h2 ▸ (((((Only.refl [tb] w).alloc _).alloc _).alloc _).alloc _).setCell (.inl (by simp)) _⟩

set_option maxRecDepth 100000 in
set_option maxHeartbeats 4000000 in
theorem as_errno_run (e : Int) (t : Addr) (old : Value) (w : World) (hg : w.cell? ⟨0, 0, none⟩ = some (.iface 166 (.agg #[.pointer (some ⟨1, 30, none⟩)]))) (ht0 : w.cell? t = some old) (hf0 : w.frozen? t = false) :
    Calls Tryz.prog 40 #[.iface 61 (.int .i64 e), .iface 89 (.pointer (some t))] w fun ev w' => ev = .returned (.bool true) ∧ w' = ((((w.alloc (.cells #[.pointer (some t)] 89)).alloc (.cells #[.pointer (some ⟨1, 89, none⟩), .pointer (some ⟨w.heap.size, 0, none⟩), .int .u64 150] 125)).alloc (.cells #[.pointer (some ⟨1, 89, none⟩), .pointer (some ⟨w.heap.size, 0, none⟩), .int .u64 150] 125)).alloc (.cells #[.int .i64 e] 61)).setCell t (.int .i64 e) := by
  have x6 := fun (args : Array Value) (W : World) => run_callFunc_extern (P := Tryz.prog) (f := 62) (e := fun args => ReflectliteValue.unpack (args.getD 0 (.tuple #[]))) Tryz.func62 (by kernel_rfl) (by kernel_rfl) (by kernel_rfl) (by kernel_rfl) args W
  have x7 := fun (args : Array Value) (W : World) => run_callFunc_extern (P := Tryz.prog) (f := 63) (e := ReflectliteValue.methodAny (ReflectliteValue.valueError "reflectlite.Value.Type" 0) (fun t _ _ _ => ReflectliteType.toType t)) Tryz.func63 (by kernel_rfl) (by kernel_rfl) (by kernel_rfl) (by kernel_rfl) args W
  have x8 := fun (args : Array Value) (W : World) => run_callFunc_extern (P := Tryz.prog) (f := 64) (e := ReflectliteValue.method (ReflectliteValue.valueError "reflectlite.Value.IsNil" 0) ReflectliteValue.isNil) Tryz.func64 (by kernel_rfl) (by kernel_rfl) (by kernel_rfl) (by kernel_rfl) args W
  have x27 := fun (args : Array Value) (W : World) => run_callFunc_extern (P := Tryz.prog) (f := 169) (e := ReflectliteType.abiMethod fun t => do pure (.int .u8 (← Rtype.kind t))) Tryz.func169 (by kernel_rfl) (by kernel_rfl) (by kernel_rfl) (by kernel_rfl) args W
  have x37 := fun (args : Array Value) (W : World) => run_callFunc_extern (P := Tryz.prog) (f := 181) (e := ReflectliteType.method ReflectliteType.elem) Tryz.func181 (by kernel_rfl) (by kernel_rfl) (by kernel_rfl) (by kernel_rfl) args W
  have x38 := fun (args : Array Value) (W : World) => run_callFunc_extern (P := Tryz.prog) (f := 182) (e := ReflectliteType.relation "Implements" ReflectliteType.implements_) Tryz.func182 (by kernel_rfl) (by kernel_rfl) (by kernel_rfl) (by kernel_rfl) args W
  have x10 := fun (args : Array Value) (W : World) => run_callFunc_extern (P := Tryz.prog) (f := 66) (e := ReflectliteType.typeOf) Tryz.func66 (by kernel_rfl) (by kernel_rfl) (by kernel_rfl) (by kernel_rfl) args W
  have x35 := fun (args : Array Value) (W : World) => run_callFunc_extern (P := Tryz.prog) (f := 179) (e := ReflectliteType.relation "AssignableTo" ReflectliteType.assignableTo) Tryz.func179 (by kernel_rfl) (by kernel_rfl) (by kernel_rfl) (by kernel_rfl) args W
  have x11 := fun (args : Array Value) (W : World) => run_callFunc_extern (P := Tryz.prog) (f := 84) (e := ReflectliteValue.method (ReflectliteValue.valueError "reflectlite.Value.Elem" 0) ReflectliteValue.elem) Tryz.func84 (by kernel_rfl) (by kernel_rfl) (by kernel_rfl) (by kernel_rfl) args W
  have x12 := fun (args : Array Value) (W : World) => run_callFunc_extern (P := Tryz.prog) (f := 85) (e := ReflectliteValue.set) Tryz.func85 (by kernel_rfl) (by kernel_rfl) (by kernel_rfl) (by kernel_rfl) args W
  have f6 := Tryz.valueOfENP
  have f7 := Tryz.typeENP
  have k27 := Tryz.kindENP
  have k25 := Tryz.kindEENP
  have e27 := Tryz.elemENP
  have i25 := Tryz.implementsENP
  have n8 := Tryz.isNilENP ⟨w.heap.size, 0, none⟩ t ((w.alloc (.cells #[.pointer (some t)] 89)).alloc (.cells #[.pointer (some ⟨1, 89, none⟩), .pointer (some ⟨w.heap.size, 0, none⟩), .int .u64 150] 125)) (by simp)
  have hlt : 0 < w.heap.size := World.block_lt_of_cell? w _ hg
  have hg2 : ((w.alloc (.cells #[.pointer (some t)] 89)).alloc (.cells #[.pointer (some ⟨1, 89, none⟩), .pointer (some ⟨w.heap.size, 0, none⟩), .int .u64 150] 125)).cell? ⟨0, 0, none⟩ = some (.iface 166 (.agg #[.pointer (some ⟨1, 30, none⟩)])) := by
    rw [World.cell?_alloc_lt _ _ ⟨0, 0, none⟩ (by simp), World.cell?_alloc_lt _ _ ⟨0, 0, none⟩ hlt]; exact hg
  have htl : t.block < w.heap.size := World.block_lt_of_cell? w _ ht0
  have el := Tryz.elemVENP ⟨w.heap.size, 0, none⟩ t (((w.alloc (.cells #[.pointer (some t)] 89)).alloc (.cells #[.pointer (some ⟨1, 89, none⟩), .pointer (some ⟨w.heap.size, 0, none⟩), .int .u64 150] 125)).alloc (.cells #[.pointer (some ⟨1, 89, none⟩), .pointer (some ⟨w.heap.size, 0, none⟩), .int .u64 150] 125)) (by rw [World.cell?_alloc_lt _ _ ⟨w.heap.size, 0, none⟩ (by simp; omega)]; simp)
  have st := Tryz.setENP t ⟨w.heap.size + 1 + 1 + 1, 0, none⟩ e old ((((w.alloc (.cells #[.pointer (some t)] 89)).alloc (.cells #[.pointer (some ⟨1, 89, none⟩), .pointer (some ⟨w.heap.size, 0, none⟩), .int .u64 150] 125)).alloc (.cells #[.pointer (some ⟨1, 89, none⟩), .pointer (some ⟨w.heap.size, 0, none⟩), .int .u64 150] 125)).alloc (.cells #[.int .i64 e] 61))
    (by rw [World.cell?_alloc_at _ _ _ _ (by simp)]; rfl)
    (by rw [World.cell?_alloc_lt _ _ t (by simp; omega), World.cell?_alloc_lt _ _ t (by simp; omega), World.cell?_alloc_lt _ _ t (by simp; omega), World.cell?_alloc_lt _ _ t htl]; exact ht0)
    (by rw [World.frozen?_alloc_old _ _ t (by simp; omega), World.frozen?_alloc_old _ _ t (by simp; omega), World.frozen?_alloc_old _ _ t (by simp; omega), World.frozen?_alloc_old _ _ t (Nat.ne_of_lt htl)]; exact hf0)
  have tO := Tryz.typeOfE
  have a25 := Tryz.assignEE
  have v25 := Tryz.valueOfE
  go_enter Tryz.func40, Tryz.ntmps40
  go_wp2
  refine wp_loop_rounds 1 ?_
  rw [rounds_succ]
  go_wp2
  go_ret
  exact ⟨rfl, rfl⟩
/-- errors.As of a number, at a number. -/
theorem as_errno_errno (e : Int) (tb : Nat) (old : Value) (w : World) (hg : EVar w) (ht : Cells w tb 61 [old]) :
    Calls Tryz.prog 40 #[.iface 61 (.int .i64 e), .iface 89 (.pointer (some ⟨tb, 0, none⟩))] w fun ev w' => ev = .returned (.bool true) ∧ Cells w' tb 61 [.int .i64 e] ∧ Only [tb] w w' :=
  (as_errno_run e ⟨tb, 0, none⟩ old w hg (ht.cell rfl) (ht.frozen 0)).mono fun ev w' ⟨h1, h2⟩ => ⟨h1, h2 ▸ (((((ht.alloc _).alloc _).alloc _).alloc _).set 0 _), h2 ▸ (((((Only.refl [tb] w).alloc _).alloc _).alloc _).alloc _).setCell (.inl (by simp)) _⟩
end Go.Proofs.YtchhbgckonpedaaGreatDoor

/- errors.As: a fault round a number, at a number; a number, at a pointer to a fault. -/
namespace Go.Proofs.YtchhbgckonpedaaGreatDoor
open Go.RowKit Go.Extern.Stop Go.Stop Go.Extern

set_option maxRecDepth 100000 in
set_option maxHeartbeats 4000000 in
theorem as_fault_num_run (g : Nat) (e : Int) (t : Addr) (old : Value) (w : World) (hg : w.cell? ⟨0, 0, none⟩ = some (.iface 166 (.agg #[.pointer (some ⟨1, 30, none⟩)]))) (ht0 : w.cell? t = some old) (hf0 : w.frozen? t = false) (hg3 : w.cell? ⟨g, 2, none⟩ = some (.iface 61 (.int .i64 e))) :
    Calls Tryz.prog 40 #[.iface 84 (.pointer (some ⟨g, 0, none⟩)), .iface 89 (.pointer (some t))] w fun ev w' => ev = .returned (.bool true) ∧ w' = ((((w.alloc (.cells #[.pointer (some t)] 89)).alloc (.cells #[.pointer (some ⟨1, 89, none⟩), .pointer (some ⟨w.heap.size, 0, none⟩), .int .u64 150] 125)).alloc (.cells #[.pointer (some ⟨1, 89, none⟩), .pointer (some ⟨w.heap.size, 0, none⟩), .int .u64 150] 125)).alloc (.cells #[.int .i64 e] 61)).setCell t (.int .i64 e) := by
  have x6 := fun (args : Array Value) (W : World) => run_callFunc_extern (P := Tryz.prog) (f := 62) (e := fun args => ReflectliteValue.unpack (args.getD 0 (.tuple #[]))) Tryz.func62 (by kernel_rfl) (by kernel_rfl) (by kernel_rfl) (by kernel_rfl) args W
  have x7 := fun (args : Array Value) (W : World) => run_callFunc_extern (P := Tryz.prog) (f := 63) (e := ReflectliteValue.methodAny (ReflectliteValue.valueError "reflectlite.Value.Type" 0) (fun t _ _ _ => ReflectliteType.toType t)) Tryz.func63 (by kernel_rfl) (by kernel_rfl) (by kernel_rfl) (by kernel_rfl) args W
  have x8 := fun (args : Array Value) (W : World) => run_callFunc_extern (P := Tryz.prog) (f := 64) (e := ReflectliteValue.method (ReflectliteValue.valueError "reflectlite.Value.IsNil" 0) ReflectliteValue.isNil) Tryz.func64 (by kernel_rfl) (by kernel_rfl) (by kernel_rfl) (by kernel_rfl) args W
  have x27 := fun (args : Array Value) (W : World) => run_callFunc_extern (P := Tryz.prog) (f := 169) (e := ReflectliteType.abiMethod fun t => do pure (.int .u8 (← Rtype.kind t))) Tryz.func169 (by kernel_rfl) (by kernel_rfl) (by kernel_rfl) (by kernel_rfl) args W
  have x37 := fun (args : Array Value) (W : World) => run_callFunc_extern (P := Tryz.prog) (f := 181) (e := ReflectliteType.method ReflectliteType.elem) Tryz.func181 (by kernel_rfl) (by kernel_rfl) (by kernel_rfl) (by kernel_rfl) args W
  have x38 := fun (args : Array Value) (W : World) => run_callFunc_extern (P := Tryz.prog) (f := 182) (e := ReflectliteType.relation "Implements" ReflectliteType.implements_) Tryz.func182 (by kernel_rfl) (by kernel_rfl) (by kernel_rfl) (by kernel_rfl) args W
  have x10 := fun (args : Array Value) (W : World) => run_callFunc_extern (P := Tryz.prog) (f := 66) (e := ReflectliteType.typeOf) Tryz.func66 (by kernel_rfl) (by kernel_rfl) (by kernel_rfl) (by kernel_rfl) args W
  have x35 := fun (args : Array Value) (W : World) => run_callFunc_extern (P := Tryz.prog) (f := 179) (e := ReflectliteType.relation "AssignableTo" ReflectliteType.assignableTo) Tryz.func179 (by kernel_rfl) (by kernel_rfl) (by kernel_rfl) (by kernel_rfl) args W
  have x11 := fun (args : Array Value) (W : World) => run_callFunc_extern (P := Tryz.prog) (f := 84) (e := ReflectliteValue.method (ReflectliteValue.valueError "reflectlite.Value.Elem" 0) ReflectliteValue.elem) Tryz.func84 (by kernel_rfl) (by kernel_rfl) (by kernel_rfl) (by kernel_rfl) args W
  have x12 := fun (args : Array Value) (W : World) => run_callFunc_extern (P := Tryz.prog) (f := 85) (e := ReflectliteValue.set) Tryz.func85 (by kernel_rfl) (by kernel_rfl) (by kernel_rfl) (by kernel_rfl) args W
  have f6 := Tryz.valueOfENP
  have f7 := Tryz.typeENP
  have k27 := Tryz.kindENP
  have k25 := Tryz.kindEENP
  have e27 := Tryz.elemENP
  have i25 := Tryz.implementsENP
  have n8 := Tryz.isNilENP ⟨w.heap.size, 0, none⟩ t ((w.alloc (.cells #[.pointer (some t)] 89)).alloc (.cells #[.pointer (some ⟨1, 89, none⟩), .pointer (some ⟨w.heap.size, 0, none⟩), .int .u64 150] 125)) (by simp)
  have hlt : 0 < w.heap.size := World.block_lt_of_cell? w _ hg
  have hg2 : ((w.alloc (.cells #[.pointer (some t)] 89)).alloc (.cells #[.pointer (some ⟨1, 89, none⟩), .pointer (some ⟨w.heap.size, 0, none⟩), .int .u64 150] 125)).cell? ⟨0, 0, none⟩ = some (.iface 166 (.agg #[.pointer (some ⟨1, 30, none⟩)])) := by
    rw [World.cell?_alloc_lt _ _ ⟨0, 0, none⟩ (by simp), World.cell?_alloc_lt _ _ ⟨0, 0, none⟩ hlt]; exact hg
  have htl : t.block < w.heap.size := World.block_lt_of_cell? w _ ht0
  have el := Tryz.elemVENP ⟨w.heap.size, 0, none⟩ t (((w.alloc (.cells #[.pointer (some t)] 89)).alloc (.cells #[.pointer (some ⟨1, 89, none⟩), .pointer (some ⟨w.heap.size, 0, none⟩), .int .u64 150] 125)).alloc (.cells #[.pointer (some ⟨1, 89, none⟩), .pointer (some ⟨w.heap.size, 0, none⟩), .int .u64 150] 125)) (by rw [World.cell?_alloc_lt _ _ ⟨w.heap.size, 0, none⟩ (by simp; omega)]; simp)
  have st := Tryz.setENP t ⟨w.heap.size + 1 + 1 + 1, 0, none⟩ e old ((((w.alloc (.cells #[.pointer (some t)] 89)).alloc (.cells #[.pointer (some ⟨1, 89, none⟩), .pointer (some ⟨w.heap.size, 0, none⟩), .int .u64 150] 125)).alloc (.cells #[.pointer (some ⟨1, 89, none⟩), .pointer (some ⟨w.heap.size, 0, none⟩), .int .u64 150] 125)).alloc (.cells #[.int .i64 e] 61))
    (by rw [World.cell?_alloc_at _ _ _ _ (by simp)]; rfl)
    (by rw [World.cell?_alloc_lt _ _ t (by simp; omega), World.cell?_alloc_lt _ _ t (by simp; omega), World.cell?_alloc_lt _ _ t (by simp; omega), World.cell?_alloc_lt _ _ t htl]; exact ht0)
    (by rw [World.frozen?_alloc_old _ _ t (by simp; omega), World.frozen?_alloc_old _ _ t (by simp; omega), World.frozen?_alloc_old _ _ t (by simp; omega), World.frozen?_alloc_old _ _ t (Nat.ne_of_lt htl)]; exact hf0)
  have hgl : g < w.heap.size := World.block_lt_of_cell? w _ hg3
  have hg4 : (((w.alloc (.cells #[.pointer (some t)] 89)).alloc (.cells #[.pointer (some ⟨1, 89, none⟩), .pointer (some ⟨w.heap.size, 0, none⟩), .int .u64 150] 125)).alloc (.cells #[.pointer (some ⟨1, 89, none⟩), .pointer (some ⟨w.heap.size, 0, none⟩), .int .u64 150] 125)).cell? ⟨g, 2, none⟩ = some (.iface 61 (.int .i64 e)) := by
    rw [World.cell?_alloc_lt _ _ ⟨g, 2, none⟩ (by simp; omega), World.cell?_alloc_lt _ _ ⟨g, 2, none⟩ (by simp; omega), World.cell?_alloc_lt _ _ ⟨g, 2, none⟩ hgl]; exact hg3
  have tO := Tryz.typeOfE
  have tF := Tryz.typeOfF
  have a25 := Tryz.assignEE
  have aF := Tryz.assignFE
  have v25 := Tryz.valueOfE
  have nF := Tryz.noAsF
  have uF := Tryz.unwF
  go_enter Tryz.func40, Tryz.ntmps40
  go_wp2
  refine wp_loop_rounds 2 ?_
  rw [rounds_succ]
  go_wp2
  rw [rounds_succ]
  go_wp2
  go_ret
  exact ⟨rfl, rfl⟩
/-- errors.As of a fault round a number, at a number. -/
theorem as_fault_errno (g : Nat) (e : Int) (tb : Nat) (old : Value) (w : World) (hg : EVar w) (ht : Cells w tb 61 [old]) (hg3 : w.cell? ⟨g, 2, none⟩ = some (.iface 61 (.int .i64 e))) :
    Calls Tryz.prog 40 #[.iface 84 (.pointer (some ⟨g, 0, none⟩)), .iface 89 (.pointer (some ⟨tb, 0, none⟩))] w fun ev w' => ev = .returned (.bool true) ∧ Cells w' tb 61 [.int .i64 e] ∧ Only [tb] w w' :=
  (as_fault_num_run g e ⟨tb, 0, none⟩ old w hg (ht.cell rfl) (ht.frozen 0) hg3).mono fun ev w' ⟨h1, h2⟩ => ⟨h1, h2 ▸ (((((ht.alloc _).alloc _).alloc _).alloc _).set 0 _), h2 ▸ (((((Only.refl [tb] w).alloc _).alloc _).alloc _).alloc _).setCell (.inl (by simp)) _⟩

set_option maxRecDepth 100000 in
set_option maxHeartbeats 4000000 in
/-- errors.As of a number, at a pointer to a fault: no. -/
theorem as_num_fault (e : Int) (t : Addr) (w : World) (hg : EVar w) :
    Calls Tryz.prog 40 #[.iface 61 (.int .i64 e), .iface 86 (.pointer (some t))] w fun ev w' => ev = .returned (.bool false) ∧ Below w.heap.size w w' := by
  unfold EVar at hg
  have x6 := fun (args : Array Value) (W : World) => run_callFunc_extern (P := Tryz.prog) (f := 62) (e := fun args => ReflectliteValue.unpack (args.getD 0 (.tuple #[]))) Tryz.func62 (by kernel_rfl) (by kernel_rfl) (by kernel_rfl) (by kernel_rfl) args W
  have x7 := fun (args : Array Value) (W : World) => run_callFunc_extern (P := Tryz.prog) (f := 63) (e := ReflectliteValue.methodAny (ReflectliteValue.valueError "reflectlite.Value.Type" 0) (fun t _ _ _ => ReflectliteType.toType t)) Tryz.func63 (by kernel_rfl) (by kernel_rfl) (by kernel_rfl) (by kernel_rfl) args W
  have x8 := fun (args : Array Value) (W : World) => run_callFunc_extern (P := Tryz.prog) (f := 64) (e := ReflectliteValue.method (ReflectliteValue.valueError "reflectlite.Value.IsNil" 0) ReflectliteValue.isNil) Tryz.func64 (by kernel_rfl) (by kernel_rfl) (by kernel_rfl) (by kernel_rfl) args W
  have x27 := fun (args : Array Value) (W : World) => run_callFunc_extern (P := Tryz.prog) (f := 169) (e := ReflectliteType.abiMethod fun t => do pure (.int .u8 (← Rtype.kind t))) Tryz.func169 (by kernel_rfl) (by kernel_rfl) (by kernel_rfl) (by kernel_rfl) args W
  have x37 := fun (args : Array Value) (W : World) => run_callFunc_extern (P := Tryz.prog) (f := 181) (e := ReflectliteType.method ReflectliteType.elem) Tryz.func181 (by kernel_rfl) (by kernel_rfl) (by kernel_rfl) (by kernel_rfl) args W
  have x38 := fun (args : Array Value) (W : World) => run_callFunc_extern (P := Tryz.prog) (f := 182) (e := ReflectliteType.relation "Implements" ReflectliteType.implements_) Tryz.func182 (by kernel_rfl) (by kernel_rfl) (by kernel_rfl) (by kernel_rfl) args W
  have x10 := fun (args : Array Value) (W : World) => run_callFunc_extern (P := Tryz.prog) (f := 66) (e := ReflectliteType.typeOf) Tryz.func66 (by kernel_rfl) (by kernel_rfl) (by kernel_rfl) (by kernel_rfl) args W
  have x35 := fun (args : Array Value) (W : World) => run_callFunc_extern (P := Tryz.prog) (f := 179) (e := ReflectliteType.relation "AssignableTo" ReflectliteType.assignableTo) Tryz.func179 (by kernel_rfl) (by kernel_rfl) (by kernel_rfl) (by kernel_rfl) args W
  have x11 := fun (args : Array Value) (W : World) => run_callFunc_extern (P := Tryz.prog) (f := 84) (e := ReflectliteValue.method (ReflectliteValue.valueError "reflectlite.Value.Elem" 0) ReflectliteValue.elem) Tryz.func84 (by kernel_rfl) (by kernel_rfl) (by kernel_rfl) (by kernel_rfl) args W
  have x12 := fun (args : Array Value) (W : World) => run_callFunc_extern (P := Tryz.prog) (f := 85) (e := ReflectliteValue.set) Tryz.func85 (by kernel_rfl) (by kernel_rfl) (by kernel_rfl) (by kernel_rfl) args W
  have f6 := Tryz.valueOfFPP
  have f7 := Tryz.typeFPP
  have k27 := Tryz.kindFPP
  have k25 := Tryz.kindEFPP
  have e27 := Tryz.elemFPP
  have i25 := Tryz.implementsFPP
  have n8 := Tryz.isNilFPP ⟨w.heap.size, 0, none⟩ t ((w.alloc (.cells #[.pointer (some t)] 86)).alloc (.cells #[.pointer (some ⟨1, 86, none⟩), .pointer (some ⟨w.heap.size, 0, none⟩), .int .u64 150] 125)) (by simp)
  have hlt : 0 < w.heap.size := World.block_lt_of_cell? w _ hg
  have hg2 : ((w.alloc (.cells #[.pointer (some t)] 86)).alloc (.cells #[.pointer (some ⟨1, 86, none⟩), .pointer (some ⟨w.heap.size, 0, none⟩), .int .u64 150] 125)).cell? ⟨0, 0, none⟩ = some (.iface 166 (.agg #[.pointer (some ⟨1, 30, none⟩)])) := by
    rw [World.cell?_alloc_lt _ _ ⟨0, 0, none⟩ (by simp), World.cell?_alloc_lt _ _ ⟨0, 0, none⟩ hlt]; exact hg
  have tO := Tryz.typeOfE
  have aE := Tryz.assignEF
  have nE := Tryz.noAsE
  have uE := Tryz.unwE
  have vE := Tryz.unwsE
  go_enter Tryz.func40, Tryz.ntmps40
  go_wp2
  refine wp_loop_rounds 1 ?_
  rw [rounds_succ]
  go_wp2
  go_ret
  exact ⟨rfl, by go_grown⟩
end Go.Proofs.YtchhbgckonpedaaGreatDoor

/- How the laws look at the program's errors: viaductseen.Same says yes where the document wants what the program answers. -/
namespace Go.Proofs.YtchhbgckonpedaaGreatDoor
open Go.ChangeShapes Go.WideShapes Go.ChangeAt Go.RowKit Go.Joins Go.Deep

set_option maxRecDepth 100000 in
theorem same_nil (w : World) : Calls Tryz.prog 15 #[.nilIface, .agg #[.int .i64 0, .slice none 0 0]] w (BoolIs true w) := by
  go_enter Tryz.func15, Tryz.ntmps15
  go_wp2_with fail
  refine (bad_any _ .nil _ rfl trivial).mono ?_
  rintro e w1 ⟨he, hb⟩
  have he' : e = .returned (.bool false) := he
  subst he'
  have HB := Lib.hid (((Below.refl w.heap.size w).alloc (Nat.le_refl _) _).trans (hb.mono (by simp)))
  clear hb he
  go_wp2
  go_returns
  exact ⟨rfl, HB.out⟩

set_option maxRecDepth 100000 in
set_option maxHeartbeats 2000000 in
theorem same_code (n : Int) (w : World) (h1 : 1 ≤ n) (h2 : n ≤ 20) (hg : EVar w) : Calls Tryz.prog 15 #[errV n, .agg #[.int .i64 n, .slice none 0 0]] w (BoolIs true w) := by
  have HG := Lib.hid hg
  clear hg
  unfold errV
  go_enter Tryz.func15, Tryz.ntmps15
  go_wp2_with fail
  refine (bad_any _ (.code n) _ rfl ⟨h1, h2⟩).mono ?_
  rintro e w1 ⟨he, hb⟩
  have he' : e = .returned (.bool true) := he
  subst he'
  have hbx := (Cells.new w 36 [.int .i64 n, .slice none 0 0]).below hb (by simp)
  have HB1 := Lib.hid (((Below.refl w.heap.size w).alloc (Nat.le_refl _) _).trans (hb.mono (by simp)))
  have c0 : w1.cell? ⟨w.heap.size, 0, none⟩ = some (.int .i64 n) := hbx.cell rfl
  have c1 : w1.cell? ⟨w.heap.size, 1, none⟩ = some (.slice none 0 0) := hbx.cell rfl
  have lb := hbx.lt
  have HX1 := Lib.hid hbx
  clear hb he hbx
  go_wp2_with fail
  refine wp_loop_rounds 1 ?_
  rw [rounds_succ]
  go_wp2_with fail
  refine (as_num_fault n ⟨w1.heap.size, 0, none⟩ _ ((HG.out.below HB1.out).below ((Below.refl _ _).alloc (Nat.le_refl _) _))).mono ?_
  rintro e w2 ⟨rfl, hb⟩
  have HB2 := Lib.hid ((HB1.out.alloc HB1.out.size (.cells #[.pointer none] 84)).trans (hb.mono (by have := HB1.out.size; simp; omega)))
  have hx2 := (HX1.out.alloc (.cells #[.pointer none] 84)).below hb (by simp; omega)
  have HX2 := Lib.hid hx2
  have lb2 := hx2.lt
  clear hb hx2 c0 c1 HX1 HB1
  go_wp2_with fail
  refine (as_errno_errno n w2.heap.size (.int .i64 0) _ ((HG.out.below HB2.out).below ((Below.refl _ _).alloc (Nat.le_refl _) _)) (Cells.new w2 61 [.int .i64 0])).mono ?_
  rintro e w3 ⟨rfl, hc, ho⟩
  have hB3 : Below w.heap.size w w3 := (HB2.out.alloc HB2.out.size (.cells #[.int .i64 0] 61)).trans (ho.below (by have := HB2.out.size; simp; omega) (fun x hx => by simp at hx; have := HB2.out.size; omega))
  have hx3 := (HX2.out.alloc (.cells #[.int .i64 0] 61)).kept ho (by simp; omega)
  have c0 : w3.cell? ⟨w.heap.size, 0, none⟩ = some (.int .i64 n) := hx3.cell rfl
  have c2 : w3.cell? ⟨w2.heap.size, 0, none⟩ = some (.int .i64 n) := hc.cell rfl
  have HX3 := Lib.hid hx3
  have HB3 := Lib.hid hB3
  have lb3 := hx3.lt
  clear hc ho hx3 hB3 HX2 HB2
  go_wp2_with fail
  go_loopg [11] 20 (fun g vi wr => ∃ i : Int, vi = .int .i64 i ∧ 1 ≤ i ∧ i ≤ 21 ∧ g = (21 - i).toNat ∧ Cells wr w.heap.size 36 [.int .i64 n, .slice none 0 0] ∧ Below w.heap.size w wr)
  case atStart => exact ⟨1, rfl, by omega, by omega, rfl, HX3.out, HB3.out⟩
  case round =>
    obtain ⟨i, rfl, hi1, hi2, hgg, hcs, hbl⟩ := hrel
    have GG := Lib.hid hgg
    have HCS := Lib.hid hcs
    have HBL := Lib.hid hbl
    have c0 : wr.cell? ⟨w.heap.size, 0, none⟩ = some (.int .i64 n) := hcs.cell rfl
    clear hgg hcs hbl
    by_cases hi : i ≤ 20
    · have d0 : decide (i ≤ 20) = true := by simpa using hi
      by_cases hn : n = i
      · subst hn
        have hIs := is_errno n n
        simp only [beq_self_eq_true] at hIs
        go_wp2_with fail
        go_quiet ((go_at_call 41; exact Calls.quiet_of_same (hIs _)))
        go_wp2_with fail
        go_roundg (21 - (n + 1)).toNat
        case measure => rw [GG.out]; omega
        case rel => exact ⟨n + 1, rfl, by omega, by omega, rfl, HCS.out, below_drewN HBL.out _⟩
      · have d1 : (n == i) = false := by simpa using hn
        have d2 : (i == n) = false := by rw [beq_eq_false_iff_ne]; exact fun e => hn e.symm
        have hIs := is_errno n i
        rw [d1] at hIs
        clear hn
        go_wp2_with fail
        go_quiet ((go_at_call 41; exact Calls.quiet_of_same (hIs _)))
        go_wp2_with fail
        go_roundg (21 - (i + 1)).toNat
        case measure => rw [GG.out]; omega
        case rel => exact ⟨i + 1, rfl, by omega, by omega, rfl, HCS.out, below_drewN HBL.out _⟩
    · have d0 : decide (i ≤ 20) = false := by simpa using hi
      go_wp2
      go_returns
      exact ⟨rfl, HBL.out⟩

set_option maxRecDepth 100000 in
set_option maxHeartbeats 4000000 in
theorem same_at (k i n : Int) (g pb : Nat) (w : World) (h1 : 1 ≤ n) (h2 : n ≤ 20) (hg : EVar w) (hf : Cells w g 88 [.int .i64 k, .int .i64 i, errV n]) (hp : Cells w pb 83 [.int .i64 k, .int .i64 i]) :
    Calls Tryz.prog 15 #[.iface 84 (.pointer (some ⟨g, 0, none⟩)), .agg #[.int .i64 n, .slice (some ⟨pb, 0, none⟩) 1 1]] w (BoolIs true w) := by
  have HG := Lib.hid hg
  have HF := Lib.hid hf
  have HP := Lib.hid hp
  have lg := hf.lt
  have lp := hp.lt
  clear hg hf hp
  go_enter Tryz.func15, Tryz.ntmps15
  go_wp2_with fail
  refine (bad_any _ (.at k i n) _ ⟨pb, rfl, HP.out.alloc _⟩ ⟨h1, h2⟩).mono ?_
  rintro e w1 ⟨he, hb⟩
  have he' : e = .returned (.bool true) := he
  subst he'
  have hbx := (Cells.new w 36 [.int .i64 n, .slice (some ⟨pb, 0, none⟩) 1 1]).below hb (by simp)
  have hB1 := ((Below.refl w.heap.size w).alloc (Nat.le_refl _) (.cells #[.int .i64 n, .slice (some ⟨pb, 0, none⟩) 1 1] 36)).trans (hb.mono (by simp))
  have hz1 := hbx.lt
  have c0 : w1.cell? ⟨w.heap.size, 0, none⟩ = some (.int .i64 n) := hbx.cell rfl
  have c1 : w1.cell? ⟨w.heap.size, 1, none⟩ = some (.slice (some ⟨pb, 0, none⟩) 1 1) := hbx.cell rfl
  have p0 : w1.cell? ⟨pb, 0, none⟩ = some (.int .i64 k) := (HP.out.below hB1 lp).cell rfl
  have p1 : w1.cell? ⟨pb, 1, none⟩ = some (.int .i64 i) := (HP.out.below hB1 lp).cell rfl
  have lp1 : pb < w1.heap.size := by omega
  have HX1 := Lib.hid hbx
  have HB1 := Lib.hid hB1
  clear hb he hbx hB1
  go_wp2_with fail
  refine wp_loop_rounds 2 ?_
  rw [rounds_succ]
  go_wp2_with fail
  obtain ⟨wq, hwq⟩ : ∃ wq, (w1.alloc (.cells #[.int .i64 k, .int .i64 i] 83)).alloc (.cells #[.pointer none] 84) = wq := ⟨_, rfl⟩
  have zP : Cells wq w1.heap.size 83 [.int .i64 k, .int .i64 i] := by
    rw [← hwq]
    exact (Cells.new w1 _ _).alloc _
  have zF : Cells wq (w1.heap.size + 1) 84 [.pointer none] := by
    rw [← hwq]
    exact cells_at (by simp) _ _
  have zb : Below w1.heap.size w1 wq := by
    rw [← hwq]
    exact ((Below.refl _ _).alloc (Nat.le_refl _) _).alloc (by simp) _
  rw [hwq]
  clear hwq
  have hzF := zF.lt
  have HBq := Lib.hid (HB1.out.trans (zb.mono HB1.out.size))
  have HFq := Lib.hid (HF.out.below HBq.out lg)
  have HXq := Lib.hid (HX1.out.below zb hz1)
  have HGq := Lib.hid (HG.out.below HBq.out)
  have HPl := Lib.hid zP
  have HFl := Lib.hid zF
  clear zP zF zb c0 c1 p0 p1 HX1 HB1
  go_region_with (first | (go_at_call 40; refine (as_fault_fault ⟨g, 0, none⟩ (w1.heap.size + 1) (.pointer none) _ ?_ ?_).mono ?_; exact HGq.out; exact HFl.out; rintro ev w2 ⟨rfl, hc, ho⟩; (have q0 := hc.cell (i := 0) rfl); (have q1 := (HPl.out.drew.kept ho (by simp)).cell (i := 0) rfl); (have q2 := (HPl.out.drew.kept ho (by simp)).cell (i := 1) rfl); (have q3 := (HFq.out.drew.kept ho (by simp; omega)).cell (i := 0) rfl); (have q4 := (HFq.out.drew.kept ho (by simp; omega)).cell (i := 1) rfl)))
  all_goals
    have hB2 : Below w.heap.size w w2 := HBq.out.drew.trans (ho.below (by have := HBq.out.size; simpa using this) (fun x hx => by simp at hx; have := HBq.out.size; omega))
    have hx2 := HXq.out.drew.kept ho (by simp; omega)
    have hf2 := HFq.out.drew.kept ho (by simp; omega)
    have q5 : w2.cell? ⟨g, 2, none⟩ = some (.iface 61 (.int .i64 n)) := hf2.cell (i := 2) rfl
    have HB2 := Lib.hid hB2
    have HX2 := Lib.hid hx2
    have HF2 := Lib.hid hf2
    have lx2 := hx2.lt
    have lf2 := hf2.lt
    clear hB2 hx2 hf2 hc ho HXq HFq HGq HBq HPl HFl
    go_wp2_with fail
    rw [rounds_succ]
    go_wp2_with fail
    refine (as_num_fault n ⟨w2.heap.size, 0, none⟩ _ ((HG.out.below HB2.out).below ((Below.refl _ _).alloc (Nat.le_refl _) _))).mono ?_
    rintro e w3 ⟨rfl, hb⟩
    have HB3 := Lib.hid ((HB2.out.alloc HB2.out.size (.cells #[.pointer none] 84)).trans (hb.mono (by have := HB2.out.size; simp; omega)))
    have HX3 := Lib.hid ((HX2.out.alloc (.cells #[.pointer none] 84)).below hb (by simp; omega))
    have HF3 := Lib.hid ((HF2.out.alloc (.cells #[.pointer none] 84)).below hb (by simp; omega))
    clear hb HX2 HF2 HB2 q0 q1 q2 q3 q4 q5
    have lx3 := HX3.out.lt
    have lf3 := HF3.out.lt
    go_wp2_with fail
    refine (as_fault_errno g n w3.heap.size (.int .i64 0) _ ((HG.out.below HB3.out).below ((Below.refl _ _).alloc (Nat.le_refl _) _)) (Cells.new w3 61 [.int .i64 0]) ((HF3.out.alloc _).cell (i := 2) rfl)).mono ?_
    rintro e w4 ⟨rfl, hc, ho⟩
    have HB4 := Lib.hid ((HB3.out.alloc HB3.out.size (.cells #[.int .i64 0] 61)).trans (ho.below (by have := HB3.out.size; simp; omega) (fun x hx => by simp at hx; have := HB3.out.size; omega)))
    have HX4 := Lib.hid ((HX3.out.alloc (.cells #[.int .i64 0] 61)).kept ho (by simp; omega))
    have HF4 := Lib.hid ((HF3.out.alloc (.cells #[.int .i64 0] 61)).kept ho (by simp; omega))
    have c0 := HX4.out.cell (i := 0) rfl
    have c2 : w4.cell? ⟨w3.heap.size, 0, none⟩ = some (.int .i64 n) := hc.cell rfl
    clear hc ho HX3 HF3 HB3
    go_wp2_with fail
    go_loopg [11] 20 (fun g' vi wr => ∃ j : Int, vi = .int .i64 j ∧ 1 ≤ j ∧ j ≤ 21 ∧ g' = (21 - j).toNat ∧ Cells wr w.heap.size 36 [.int .i64 n, .slice (some ⟨pb, 0, none⟩) 1 1] ∧ Cells wr g 88 [.int .i64 k, .int .i64 i, errV n] ∧ Below w.heap.size w wr)
    case atStart => exact ⟨1, rfl, by omega, by omega, rfl, HX4.out, HF4.out, HB4.out⟩
    case round =>
      obtain ⟨j, rfl, hi1, hi2, hgg, hcs, hfs, hbl⟩ := hrel
      have GG := Lib.hid hgg
      have HCS := Lib.hid hcs
      have HFS := Lib.hid hfs
      have HBL := Lib.hid hbl
      have c0 : wr.cell? ⟨w.heap.size, 0, none⟩ = some (.int .i64 n) := hcs.cell rfl
      clear hgg hcs hfs hbl
      by_cases hi : j ≤ 20
      · have d0 : decide (j ≤ 20) = true := by simpa using hi
        by_cases hn : n = j
        · subst hn
          have hIs := fun W h => is_fault g n n W h
          simp only [beq_self_eq_true] at hIs
          go_wp2_with fail
          go_quiet ((go_at_call 41; exact Calls.quiet_of_same (hIs _ (HFS.out.cell (i := 2) rfl))))
          go_wp2_with fail
          go_roundg (21 - (n + 1)).toNat
          case measure => rw [GG.out]; omega
          case rel => exact ⟨n + 1, rfl, by omega, by omega, rfl, HCS.out, HFS.out, below_drewN HBL.out _⟩
        · have d1 : (n == j) = false := by simpa using hn
          have d2 : (j == n) = false := by rw [beq_eq_false_iff_ne]; exact fun e => hn e.symm
          have hIs := fun W h => is_fault g n j W h
          rw [d1] at hIs
          clear hn
          go_wp2_with fail
          go_quiet ((go_at_call 41; exact Calls.quiet_of_same (hIs _ (HFS.out.cell (i := 2) rfl))))
          go_wp2_with fail
          go_roundg (21 - (j + 1)).toNat
          case measure => rw [GG.out]; omega
          case rel => exact ⟨j + 1, rfl, by omega, by omega, rfl, HCS.out, HFS.out, below_drewN HBL.out _⟩
      · have d0 : decide (j ≤ 20) = false := by simpa using hi
        go_wp2
        go_returns
        exact ⟨rfl, HBL.out⟩

/-- **viaductseen.Same**, where the document wants what the program answers. -/
theorem same_any (x : EV) (v u : Value) (w : World) (hp : x.pos) (hg : EVar w) (hv : ErrIs w v x) (hu : ErrV w u x) : Calls Tryz.prog 15 #[v, u] w (BoolIs true w) := by
  cases x with
  | nil =>
    obtain rfl : v = .nilIface := hv
    obtain rfl : u = _ := hu
    exact same_nil w
  | code n =>
    obtain rfl : v = errV n := hv
    obtain rfl : u = _ := hu
    exact same_code n w hp.1 hp.2 hg
  | «at» k i n =>
    obtain ⟨g, rfl, hf⟩ := hv
    obtain ⟨b, rfl, hpl⟩ := hu
    exact same_at k i n g b w hp.1 hp.2 hg hf hpl
end Go.Proofs.YtchhbgckonpedaaGreatDoor

/- What the rows' one listed variable gives a walk; how a law's row at the door follows from its walk. -/
namespace Go.Proofs.YtchhbgckonpedaaGreatDoor
open Go.ChangeShapes Go.WideShapes Go.ChangeAt Go.RowKit Go.Joins Go.Deep

theorem Tryz.own : ownKnob Tryz.prog.godebug = none := by kernel_rfl
theorem Tryz.laid : laidOutB Tryz.prog = true := by kernel_rfl
theorem Tryz.et : Tryz.prog.globalNamed "errors.errorType" = some 0 := by kernel_rfl
theorem Tryz.rt : (Tryz.prog.cutTypes.find? (·.1 == "internal/reflectlite.rtype")).map (·.2) = some 166 := by kernel_rfl
theorem Tryz.oneRow : ((List.range 296).filter fun t => Tryz.prog.rowNamed t [101, 114, 114, 111, 114]) = [30] := by kernel_rfl
theorem Tryz.typesSize : Tryz.prog.types.size = 296 := by kernel_rfl
theorem readHier : Tryz.prog.readableRec 25 = true ∧ 25 < Tryz.prog.types.size := ⟨by kernel_rfl, of_decide_eq_true (by kernel_rfl)⟩
theorem readInt : Tryz.prog.readableRec 3 = true ∧ 3 < Tryz.prog.types.size := ⟨by kernel_rfl, of_decide_eq_true (by kernel_rfl)⟩
theorem readInts : Tryz.prog.readableRec 28 = true ∧ 28 < Tryz.prog.types.size := ⟨by kernel_rfl, of_decide_eq_true (by kernel_rfl)⟩
theorem wf64 {x : Int} (h : (Lit.int .i64 x).wf = true) : -9223372036854775808 ≤ x ∧ x ≤ 9223372036854775807 := by
  simp [Lit.wf, IntKind.min, IntKind.max, IntKind.signed, IntKind.bits] at h
  exact ⟨by omega, by omega⟩
def laidList : List (String × DataW Unit) := [("errors.errorType", Rows.laid_errors_errorType)]

/-- What the condition gives a walk: the variable's one cell. -/
theorem evar_of_laid {W : World} (h : laidMetH Tryz.prog [("errors.errorType", Rows.laid_errors_errorType)] W) : EVar W := by
  have h' : laidMet Tryz.prog [] W ∧ handlesMet Tryz.prog [("errors.errorType", Rows.laid_errors_errorType)] W := h
  obtain ⟨name, u, ty, e1, e2, e3, e4, e5⟩ := h'.2 _ (List.mem_singleton.2 rfl)
  have en : name = [101, 114, 114, 111, 114] := (Option.some.inj e1).symm
  subst en
  obtain rfl := Option.some.inj (Tryz.rt.symm.trans e2)
  have hm : ty ∈ (List.range 296).filter fun t => Tryz.prog.rowNamed t [101, 114, 114, 111, 114] := List.mem_filter.2 ⟨List.mem_range.2 (by rw [← Tryz.typesSize]; exact e3), e4⟩
  rw [Tryz.oneRow] at hm
  obtain rfl := List.mem_singleton.1 hm
  have hh : typeHandle Tryz.prog 30 = .pointer (some ⟨1, 30, none⟩) := by kernel_rfl
  rw [hh] at e5
  simpa [EVar] using World.var?_cell Tryz.et e5 0

/-- A world that meets the condition. -/
noncomputable def laidWorld (os : Os) : World :=
  let w0 := World.holding Tryz.prog os ⟨#[], #[], []⟩
  { w0 with heap := w0.heap.modify 0 fun
      | .cells _ t frozen => .cells #[.iface 166 (.agg #[.pointer (some ⟨1, 30, none⟩)])] t frozen
      | o => o }
theorem laidWorld_met (os : Os) (args : Array Value) : laidMetH Tryz.prog [("errors.errorType", Rows.laid_errors_errorType)] ((laidWorld os).forCall (fun _ _ => 0) ⟨#[], args, []⟩).memory :=
  laidMetH_of_parts (laidMet_nil _ _) (by kernel_rfl)
end Go.Proofs.YtchhbgckonpedaaGreatDoor
