/- errors.As: a fault round a number, at a number; a number, at a pointer to a fault. -/
import Derived.Test.YtblkkjfpggcgfaaGreatDoorH32
import Derived.Test.YtblkkjfpggcgfaaGreatDoorH17
import Derived.Test.YtblkkjfpggcgfaaGreatDoorH25
import Derived.Deep.RegionHeld3
import Derived.Lib.SmallJoins
import Derived.Deep.Slices
import Derived.Deep.Fields
namespace Go.Proofs.YtblkkjfpggcgfaaGreatDoor
open Go.RowKit Go.Extern.Stop Go.Stop Go.Extern
set_option maxRecDepth 100000 in
set_option maxHeartbeats 4000000 in
theorem as_fault_num_run (g : Nat) (e : Int) (t : Addr) (old : Value) (w : World) (hg : w.cell? ⟨0, 0, none⟩ = some (.iface 186 (.agg #[.pointer (some ⟨1, 32, none⟩)]))) (ht0 : w.cell? t = some old) (hf0 : w.frozen? t = false) (hg3 : w.cell? ⟨g, 2, none⟩ = some (.iface 53 (.int .i64 e))) :
    Calls Tryz.prog 33 #[.iface 94 (.pointer (some ⟨g, 0, none⟩)), .iface 99 (.pointer (some t))] w fun ev w' => ev = .returned (.bool true) ∧ w' = ((((w.alloc (.cells #[.pointer (some t)] 99)).alloc (.cells #[.pointer (some ⟨1, 99, none⟩), .pointer (some ⟨w.heap.size, 0, none⟩), .int .u64 150] 144)).alloc (.cells #[.pointer (some ⟨1, 99, none⟩), .pointer (some ⟨w.heap.size, 0, none⟩), .int .u64 150] 144)).alloc (.cells #[.int .i64 e] 53)).setCell t (.int .i64 e) := by
  have x6 := fun (args : Array Value) (W : World) => run_callFunc_extern (P := Tryz.prog) (f := 59) (e := fun args => ReflectliteValue.unpack (args.getD 0 (.tuple #[]))) Tryz.func59 (by kernel_rfl) (by kernel_rfl) (by kernel_rfl) (by kernel_rfl) args W
  have x7 := fun (args : Array Value) (W : World) => run_callFunc_extern (P := Tryz.prog) (f := 60) (e := ReflectliteValue.methodAny (ReflectliteValue.valueError "reflectlite.Value.Type" 0) (fun t _ _ _ => ReflectliteType.toType t)) Tryz.func60 (by kernel_rfl) (by kernel_rfl) (by kernel_rfl) (by kernel_rfl) args W
  have x8 := fun (args : Array Value) (W : World) => run_callFunc_extern (P := Tryz.prog) (f := 61) (e := ReflectliteValue.method (ReflectliteValue.valueError "reflectlite.Value.IsNil" 0) ReflectliteValue.isNil) Tryz.func61 (by kernel_rfl) (by kernel_rfl) (by kernel_rfl) (by kernel_rfl) args W
  have x27 := fun (args : Array Value) (W : World) => run_callFunc_extern (P := Tryz.prog) (f := 117) (e := ReflectliteType.abiMethod fun t => do pure (.int .u8 (← Rtype.kind t))) Tryz.func117 (by kernel_rfl) (by kernel_rfl) (by kernel_rfl) (by kernel_rfl) args W
  have x37 := fun (args : Array Value) (W : World) => run_callFunc_extern (P := Tryz.prog) (f := 131) (e := ReflectliteType.method ReflectliteType.elem) Tryz.func131 (by kernel_rfl) (by kernel_rfl) (by kernel_rfl) (by kernel_rfl) args W
  have x38 := fun (args : Array Value) (W : World) => run_callFunc_extern (P := Tryz.prog) (f := 132) (e := ReflectliteType.relation "Implements" ReflectliteType.implements_) Tryz.func132 (by kernel_rfl) (by kernel_rfl) (by kernel_rfl) (by kernel_rfl) args W
  have x10 := fun (args : Array Value) (W : World) => run_callFunc_extern (P := Tryz.prog) (f := 63) (e := ReflectliteType.typeOf) Tryz.func63 (by kernel_rfl) (by kernel_rfl) (by kernel_rfl) (by kernel_rfl) args W
  have x35 := fun (args : Array Value) (W : World) => run_callFunc_extern (P := Tryz.prog) (f := 129) (e := ReflectliteType.relation "AssignableTo" ReflectliteType.assignableTo) Tryz.func129 (by kernel_rfl) (by kernel_rfl) (by kernel_rfl) (by kernel_rfl) args W
  have x11 := fun (args : Array Value) (W : World) => run_callFunc_extern (P := Tryz.prog) (f := 84) (e := ReflectliteValue.method (ReflectliteValue.valueError "reflectlite.Value.Elem" 0) ReflectliteValue.elem) Tryz.func84 (by kernel_rfl) (by kernel_rfl) (by kernel_rfl) (by kernel_rfl) args W
  have x12 := fun (args : Array Value) (W : World) => run_callFunc_extern (P := Tryz.prog) (f := 85) (e := ReflectliteValue.set) Tryz.func85 (by kernel_rfl) (by kernel_rfl) (by kernel_rfl) (by kernel_rfl) args W
  have f6 := Tryz.valueOfENP
  have f7 := Tryz.typeENP
  have k27 := Tryz.kindENP
  have k25 := Tryz.kindEENP
  have e27 := Tryz.elemENP
  have i25 := Tryz.implementsENP
  have n8 := Tryz.isNilENP ⟨w.heap.size, 0, none⟩ t ((w.alloc (.cells #[.pointer (some t)] 99)).alloc (.cells #[.pointer (some ⟨1, 99, none⟩), .pointer (some ⟨w.heap.size, 0, none⟩), .int .u64 150] 144)) (by simp)
  have hlt : 0 < w.heap.size := World.block_lt_of_cell? w _ hg
  have hg2 : ((w.alloc (.cells #[.pointer (some t)] 99)).alloc (.cells #[.pointer (some ⟨1, 99, none⟩), .pointer (some ⟨w.heap.size, 0, none⟩), .int .u64 150] 144)).cell? ⟨0, 0, none⟩ = some (.iface 186 (.agg #[.pointer (some ⟨1, 32, none⟩)])) := by
    rw [World.cell?_alloc_lt _ _ ⟨0, 0, none⟩ (by simp), World.cell?_alloc_lt _ _ ⟨0, 0, none⟩ hlt]; exact hg
  have htl : t.block < w.heap.size := World.block_lt_of_cell? w _ ht0
  have el := Tryz.elemVENP ⟨w.heap.size, 0, none⟩ t (((w.alloc (.cells #[.pointer (some t)] 99)).alloc (.cells #[.pointer (some ⟨1, 99, none⟩), .pointer (some ⟨w.heap.size, 0, none⟩), .int .u64 150] 144)).alloc (.cells #[.pointer (some ⟨1, 99, none⟩), .pointer (some ⟨w.heap.size, 0, none⟩), .int .u64 150] 144)) (by rw [World.cell?_alloc_lt _ _ ⟨w.heap.size, 0, none⟩ (by simp; omega)]; simp)
  have st := Tryz.setENP t ⟨w.heap.size + 1 + 1 + 1, 0, none⟩ e old ((((w.alloc (.cells #[.pointer (some t)] 99)).alloc (.cells #[.pointer (some ⟨1, 99, none⟩), .pointer (some ⟨w.heap.size, 0, none⟩), .int .u64 150] 144)).alloc (.cells #[.pointer (some ⟨1, 99, none⟩), .pointer (some ⟨w.heap.size, 0, none⟩), .int .u64 150] 144)).alloc (.cells #[.int .i64 e] 53))
    (by rw [World.cell?_alloc_at _ _ _ _ (by simp)]; rfl)
    (by rw [World.cell?_alloc_lt _ _ t (by simp; omega), World.cell?_alloc_lt _ _ t (by simp; omega), World.cell?_alloc_lt _ _ t (by simp; omega), World.cell?_alloc_lt _ _ t htl]; exact ht0)
    (by rw [World.frozen?_alloc_old _ _ t (by simp; omega), World.frozen?_alloc_old _ _ t (by simp; omega), World.frozen?_alloc_old _ _ t (by simp; omega), World.frozen?_alloc_old _ _ t (Nat.ne_of_lt htl)]; exact hf0)
  have hgl : g < w.heap.size := World.block_lt_of_cell? w _ hg3
  have hg4 : (((w.alloc (.cells #[.pointer (some t)] 99)).alloc (.cells #[.pointer (some ⟨1, 99, none⟩), .pointer (some ⟨w.heap.size, 0, none⟩), .int .u64 150] 144)).alloc (.cells #[.pointer (some ⟨1, 99, none⟩), .pointer (some ⟨w.heap.size, 0, none⟩), .int .u64 150] 144)).cell? ⟨g, 2, none⟩ = some (.iface 53 (.int .i64 e)) := by
    rw [World.cell?_alloc_lt _ _ ⟨g, 2, none⟩ (by simp; omega), World.cell?_alloc_lt _ _ ⟨g, 2, none⟩ (by simp; omega), World.cell?_alloc_lt _ _ ⟨g, 2, none⟩ hgl]; exact hg3
  have tO := Tryz.typeOfE
  have tF := Tryz.typeOfF
  have a25 := Tryz.assignEE
  have aF := Tryz.assignFE
  have v25 := Tryz.valueOfE
  have nF := Tryz.noAsF
  have uF := Tryz.unwF
  go_enter Tryz.func33, Tryz.ntmps33
  go_wp2
  refine wp_loop_rounds 2 ?_
  rw [rounds_succ]
  go_wp2
  rw [rounds_succ]
  go_wp2
  go_ret
  exact ⟨rfl, rfl⟩
theorem as_fault_errno (g : Nat) (e : Int) (tb : Nat) (old : Value) (w : World) (hg : EVar w) (ht : Cells w tb 53 [old]) (hg3 : w.cell? ⟨g, 2, none⟩ = some (.iface 53 (.int .i64 e))) :
    Calls Tryz.prog 33 #[.iface 94 (.pointer (some ⟨g, 0, none⟩)), .iface 99 (.pointer (some ⟨tb, 0, none⟩))] w fun ev w' => ev = .returned (.bool true) ∧ Cells w' tb 53 [.int .i64 e] ∧ Only [tb] w w' :=
  (as_fault_num_run g e ⟨tb, 0, none⟩ old w hg (ht.cell rfl) (ht.frozen 0) hg3).mono fun ev w' ⟨h1, h2⟩ => ⟨h1, h2 ▸ (((((ht.alloc _).alloc _).alloc _).alloc _).set 0 _), h2 ▸ (((((Only.refl [tb] w).alloc _).alloc _).alloc _).alloc _).setCell (.inl (by simp)) _⟩
set_option maxRecDepth 100000 in
set_option maxHeartbeats 4000000 in
theorem as_num_fault (e : Int) (t : Addr) (w : World) (hg : EVar w) :
    Calls Tryz.prog 33 #[.iface 53 (.int .i64 e), .iface 96 (.pointer (some t))] w fun ev w' => ev = .returned (.bool false) ∧ Below w.heap.size w w' := by
  unfold EVar at hg
  have x6 := fun (args : Array Value) (W : World) => run_callFunc_extern (P := Tryz.prog) (f := 59) (e := fun args => ReflectliteValue.unpack (args.getD 0 (.tuple #[]))) Tryz.func59 (by kernel_rfl) (by kernel_rfl) (by kernel_rfl) (by kernel_rfl) args W
  have x7 := fun (args : Array Value) (W : World) => run_callFunc_extern (P := Tryz.prog) (f := 60) (e := ReflectliteValue.methodAny (ReflectliteValue.valueError "reflectlite.Value.Type" 0) (fun t _ _ _ => ReflectliteType.toType t)) Tryz.func60 (by kernel_rfl) (by kernel_rfl) (by kernel_rfl) (by kernel_rfl) args W
  have x8 := fun (args : Array Value) (W : World) => run_callFunc_extern (P := Tryz.prog) (f := 61) (e := ReflectliteValue.method (ReflectliteValue.valueError "reflectlite.Value.IsNil" 0) ReflectliteValue.isNil) Tryz.func61 (by kernel_rfl) (by kernel_rfl) (by kernel_rfl) (by kernel_rfl) args W
  have x27 := fun (args : Array Value) (W : World) => run_callFunc_extern (P := Tryz.prog) (f := 117) (e := ReflectliteType.abiMethod fun t => do pure (.int .u8 (← Rtype.kind t))) Tryz.func117 (by kernel_rfl) (by kernel_rfl) (by kernel_rfl) (by kernel_rfl) args W
  have x37 := fun (args : Array Value) (W : World) => run_callFunc_extern (P := Tryz.prog) (f := 131) (e := ReflectliteType.method ReflectliteType.elem) Tryz.func131 (by kernel_rfl) (by kernel_rfl) (by kernel_rfl) (by kernel_rfl) args W
  have x38 := fun (args : Array Value) (W : World) => run_callFunc_extern (P := Tryz.prog) (f := 132) (e := ReflectliteType.relation "Implements" ReflectliteType.implements_) Tryz.func132 (by kernel_rfl) (by kernel_rfl) (by kernel_rfl) (by kernel_rfl) args W
  have x10 := fun (args : Array Value) (W : World) => run_callFunc_extern (P := Tryz.prog) (f := 63) (e := ReflectliteType.typeOf) Tryz.func63 (by kernel_rfl) (by kernel_rfl) (by kernel_rfl) (by kernel_rfl) args W
  have x35 := fun (args : Array Value) (W : World) => run_callFunc_extern (P := Tryz.prog) (f := 129) (e := ReflectliteType.relation "AssignableTo" ReflectliteType.assignableTo) Tryz.func129 (by kernel_rfl) (by kernel_rfl) (by kernel_rfl) (by kernel_rfl) args W
  have x11 := fun (args : Array Value) (W : World) => run_callFunc_extern (P := Tryz.prog) (f := 84) (e := ReflectliteValue.method (ReflectliteValue.valueError "reflectlite.Value.Elem" 0) ReflectliteValue.elem) Tryz.func84 (by kernel_rfl) (by kernel_rfl) (by kernel_rfl) (by kernel_rfl) args W
  have x12 := fun (args : Array Value) (W : World) => run_callFunc_extern (P := Tryz.prog) (f := 85) (e := ReflectliteValue.set) Tryz.func85 (by kernel_rfl) (by kernel_rfl) (by kernel_rfl) (by kernel_rfl) args W
  have f6 := Tryz.valueOfFPP
  have f7 := Tryz.typeFPP
  have k27 := Tryz.kindFPP
  have k25 := Tryz.kindEFPP
  have e27 := Tryz.elemFPP
  have i25 := Tryz.implementsFPP
  have n8 := Tryz.isNilFPP ⟨w.heap.size, 0, none⟩ t ((w.alloc (.cells #[.pointer (some t)] 96)).alloc (.cells #[.pointer (some ⟨1, 96, none⟩), .pointer (some ⟨w.heap.size, 0, none⟩), .int .u64 150] 144)) (by simp)
  have hlt : 0 < w.heap.size := World.block_lt_of_cell? w _ hg
  have hg2 : ((w.alloc (.cells #[.pointer (some t)] 96)).alloc (.cells #[.pointer (some ⟨1, 96, none⟩), .pointer (some ⟨w.heap.size, 0, none⟩), .int .u64 150] 144)).cell? ⟨0, 0, none⟩ = some (.iface 186 (.agg #[.pointer (some ⟨1, 32, none⟩)])) := by
    rw [World.cell?_alloc_lt _ _ ⟨0, 0, none⟩ (by simp), World.cell?_alloc_lt _ _ ⟨0, 0, none⟩ hlt]; exact hg
  have tO := Tryz.typeOfE
  have aE := Tryz.assignEF
  have nE := Tryz.noAsE
  have uE := Tryz.unwE
  have vE := Tryz.unwsE
  go_enter Tryz.func33, Tryz.ntmps33
  go_wp2
  refine wp_loop_rounds 1 ?_
  rw [rounds_succ]
  go_wp2
  go_ret
  exact ⟨rfl, by go_grown⟩
end Go.Proofs.YtblkkjfpggcgfaaGreatDoor
namespace Go.Proofs.YtblkkjfpggcgfaaGreatDoor
open Go.ChangeShapes Go.WideShapes Go.ChangeAt Go.RowKit Go.Joins Go.Deep
set_option maxRecDepth 100000 in
theorem same_nil (w : World) : Calls Tryz.prog 11 #[.nilIface, .agg #[.int .i64 0, .slice none 0 0]] w (BoolIs true w) := by
  go_enter Tryz.func11, Tryz.ntmps11
  go_wp2_with fail
  refine (bad_any _ .nil _ rfl trivial).mono ?_
  rintro e w1 ⟨he, hb⟩
  have he' : e = .returned (.bool false) := he
  subst he'
  have HB := Lib.hid (((Below.refl w.heap.size w).alloc (Nat.le_refl _) _).trans (hb.mono (by simp)))
  clear hb he
  go_wp2
  go_returns
  exact ⟨rfl, HB.out⟩
set_option maxRecDepth 100000 in
set_option maxHeartbeats 2000000 in
theorem same_code (n : Int) (w : World) (h1 : 1 ≤ n) (h2 : n ≤ 20) (hg : EVar w) : Calls Tryz.prog 11 #[errV n, .agg #[.int .i64 n, .slice none 0 0]] w (BoolIs true w) := by
  have HG := Lib.hid hg
  clear hg
  unfold errV
  go_enter Tryz.func11, Tryz.ntmps11
  go_wp2_with fail
  refine (bad_any _ (.code n) _ rfl ⟨h1, h2⟩).mono ?_
  rintro e w1 ⟨he, hb⟩
  have he' : e = .returned (.bool true) := he
  subst he'
  have hbx := (Cells.new w 51 [.int .i64 n, .slice none 0 0]).below hb (by simp)
  have HB1 := Lib.hid (((Below.refl w.heap.size w).alloc (Nat.le_refl _) _).trans (hb.mono (by simp)))
  have c0 : w1.cell? ⟨w.heap.size, 0, none⟩ = some (.int .i64 n) := hbx.cell rfl
  have c1 : w1.cell? ⟨w.heap.size, 1, none⟩ = some (.slice none 0 0) := hbx.cell rfl
  have lb := hbx.lt
  have HX1 := Lib.hid hbx
  clear hb he hbx
  go_wp2_with fail
  refine wp_loop_rounds 1 ?_
  rw [rounds_succ]
  go_wp2_with fail
  refine (as_num_fault n ⟨w1.heap.size, 0, none⟩ _ ((HG.out.below HB1.out).below ((Below.refl _ _).alloc (Nat.le_refl _) _))).mono ?_
  rintro e w2 ⟨rfl, hb⟩
  have HB2 := Lib.hid ((HB1.out.alloc HB1.out.size (.cells #[.pointer none] 94)).trans (hb.mono (by have := HB1.out.size; simp; omega)))
  have hx2 := (HX1.out.alloc (.cells #[.pointer none] 94)).below hb (by simp; omega)
  have HX2 := Lib.hid hx2
  have lb2 := hx2.lt
  clear hb hx2 c0 c1 HX1 HB1
  go_wp2_with fail
  refine (as_errno_errno n w2.heap.size (.int .i64 0) _ ((HG.out.below HB2.out).below ((Below.refl _ _).alloc (Nat.le_refl _) _)) (Cells.new w2 53 [.int .i64 0])).mono ?_
  rintro e w3 ⟨rfl, hc, ho⟩
  have hB3 : Below w.heap.size w w3 := (HB2.out.alloc HB2.out.size (.cells #[.int .i64 0] 53)).trans (ho.below (by have := HB2.out.size; simp; omega) (fun x hx => by simp at hx; have := HB2.out.size; omega))
  have hx3 := (HX2.out.alloc (.cells #[.int .i64 0] 53)).kept ho (by simp; omega)
  have c0 : w3.cell? ⟨w.heap.size, 0, none⟩ = some (.int .i64 n) := hx3.cell rfl
  have c2 : w3.cell? ⟨w2.heap.size, 0, none⟩ = some (.int .i64 n) := hc.cell rfl
  have HX3 := Lib.hid hx3
  have HB3 := Lib.hid hB3
  have lb3 := hx3.lt
  clear hc ho hx3 hB3 HX2 HB2
  go_wp2_with fail
  go_loopg [11] 20 (fun g vi wr => ∃ i : Int, vi = .int .i64 i ∧ 1 ≤ i ∧ i ≤ 21 ∧ g = (21 - i).toNat ∧ Cells wr w.heap.size 51 [.int .i64 n, .slice none 0 0] ∧ Below w.heap.size w wr)
  case atStart => exact ⟨1, rfl, by omega, by omega, rfl, HX3.out, HB3.out⟩
  case round =>
    obtain ⟨i, rfl, hi1, hi2, hgg, hcs, hbl⟩ := hrel
    have GG := Lib.hid hgg
    have HCS := Lib.hid hcs
    have HBL := Lib.hid hbl
    have c0 : wr.cell? ⟨w.heap.size, 0, none⟩ = some (.int .i64 n) := hcs.cell rfl
    clear hgg hcs hbl
    by_cases hi : i ≤ 20
    · have d0 : decide (i ≤ 20) = true := by simpa using hi
      by_cases hn : n = i
      · subst hn
        have hIs := is_errno n n
        simp only [beq_self_eq_true] at hIs
        go_wp2_with fail
        go_quiet ((go_at_call 34; exact Calls.quiet_of_same (hIs _)))
        go_wp2_with fail
        go_roundg (21 - (n + 1)).toNat
        case measure => rw [GG.out]; omega
        case rel => exact ⟨n + 1, rfl, by omega, by omega, rfl, HCS.out, below_drewN HBL.out _⟩
      · have d1 : (n == i) = false := by simpa using hn
        have d2 : (i == n) = false := by rw [beq_eq_false_iff_ne]; exact fun e => hn e.symm
        have hIs := is_errno n i
        rw [d1] at hIs
        clear hn
        go_wp2_with fail
        go_quiet ((go_at_call 34; exact Calls.quiet_of_same (hIs _)))
        go_wp2_with fail
        go_roundg (21 - (i + 1)).toNat
        case measure => rw [GG.out]; omega
        case rel => exact ⟨i + 1, rfl, by omega, by omega, rfl, HCS.out, below_drewN HBL.out _⟩
    · have d0 : decide (i ≤ 20) = false := by simpa using hi
      go_wp2
      go_returns
      exact ⟨rfl, HBL.out⟩
set_option maxRecDepth 100000 in
set_option maxHeartbeats 4000000 in
theorem same_at (k i n : Int) (g pb : Nat) (w : World) (h1 : 1 ≤ n) (h2 : n ≤ 20) (hg : EVar w) (hf : Cells w g 98 [.int .i64 k, .int .i64 i, errV n]) (hp : Cells w pb 93 [.int .i64 k, .int .i64 i]) :
    Calls Tryz.prog 11 #[.iface 94 (.pointer (some ⟨g, 0, none⟩)), .agg #[.int .i64 n, .slice (some ⟨pb, 0, none⟩) 1 1]] w (BoolIs true w) := by
  have HG := Lib.hid hg
  have HF := Lib.hid hf
  have HP := Lib.hid hp
  have lg := hf.lt
  have lp := hp.lt
  clear hg hf hp
  go_enter Tryz.func11, Tryz.ntmps11
  go_wp2_with fail
  refine (bad_any _ (.at k i n) _ ⟨pb, rfl, HP.out.alloc _⟩ ⟨h1, h2⟩).mono ?_
  rintro e w1 ⟨he, hb⟩
  have he' : e = .returned (.bool true) := he
  subst he'
  have hbx := (Cells.new w 51 [.int .i64 n, .slice (some ⟨pb, 0, none⟩) 1 1]).below hb (by simp)
  have hB1 := ((Below.refl w.heap.size w).alloc (Nat.le_refl _) (.cells #[.int .i64 n, .slice (some ⟨pb, 0, none⟩) 1 1] 51)).trans (hb.mono (by simp))
  have hz1 := hbx.lt
  have c0 : w1.cell? ⟨w.heap.size, 0, none⟩ = some (.int .i64 n) := hbx.cell rfl
  have c1 : w1.cell? ⟨w.heap.size, 1, none⟩ = some (.slice (some ⟨pb, 0, none⟩) 1 1) := hbx.cell rfl
  have p0 : w1.cell? ⟨pb, 0, none⟩ = some (.int .i64 k) := (HP.out.below hB1 lp).cell rfl
  have p1 : w1.cell? ⟨pb, 1, none⟩ = some (.int .i64 i) := (HP.out.below hB1 lp).cell rfl
  have lp1 : pb < w1.heap.size := by omega
  have HX1 := Lib.hid hbx
  have HB1 := Lib.hid hB1
  clear hb he hbx hB1
  go_wp2_with fail
  refine wp_loop_rounds 2 ?_
  rw [rounds_succ]
  go_wp2_with fail
  obtain ⟨wq, hwq⟩ : ∃ wq, (w1.alloc (.cells #[.int .i64 k, .int .i64 i] 93)).alloc (.cells #[.pointer none] 94) = wq := ⟨_, rfl⟩
  have zP : Cells wq w1.heap.size 93 [.int .i64 k, .int .i64 i] := by
    rw [← hwq]
    exact (Cells.new w1 _ _).alloc _
  have zF : Cells wq (w1.heap.size + 1) 94 [.pointer none] := by
    rw [← hwq]
    exact cells_at (by simp) _ _
  have zb : Below w1.heap.size w1 wq := by
    rw [← hwq]
    exact ((Below.refl _ _).alloc (Nat.le_refl _) _).alloc (by simp) _
  rw [hwq]
  clear hwq
  have hzF := zF.lt
  have HBq := Lib.hid (HB1.out.trans (zb.mono HB1.out.size))
  have HFq := Lib.hid (HF.out.below HBq.out lg)
  have HXq := Lib.hid (HX1.out.below zb hz1)
  have HGq := Lib.hid (HG.out.below HBq.out)
  have HPl := Lib.hid zP
  have HFl := Lib.hid zF
  clear zP zF zb c0 c1 p0 p1 HX1 HB1
  go_region_with (first | (go_at_call 33; refine (as_fault_fault ⟨g, 0, none⟩ (w1.heap.size + 1) (.pointer none) _ ?_ ?_).mono ?_; exact HGq.out; exact HFl.out; rintro ev w2 ⟨rfl, hc, ho⟩; (have q0 := hc.cell (i := 0) rfl); (have q1 := (HPl.out.drew.kept ho (by simp)).cell (i := 0) rfl); (have q2 := (HPl.out.drew.kept ho (by simp)).cell (i := 1) rfl); (have q3 := (HFq.out.drew.kept ho (by simp; omega)).cell (i := 0) rfl); (have q4 := (HFq.out.drew.kept ho (by simp; omega)).cell (i := 1) rfl)))
  all_goals
    have hB2 : Below w.heap.size w w2 := HBq.out.drew.trans (ho.below (by have := HBq.out.size; simpa using this) (fun x hx => by simp at hx; have := HBq.out.size; omega))
    have hx2 := HXq.out.drew.kept ho (by simp; omega)
    have hf2 := HFq.out.drew.kept ho (by simp; omega)
    have q5 : w2.cell? ⟨g, 2, none⟩ = some (.iface 53 (.int .i64 n)) := hf2.cell (i := 2) rfl
    have HB2 := Lib.hid hB2
    have HX2 := Lib.hid hx2
    have HF2 := Lib.hid hf2
    have lx2 := hx2.lt
    have lf2 := hf2.lt
    clear hB2 hx2 hf2 hc ho HXq HFq HGq HBq HPl HFl
    go_wp2_with fail
    rw [rounds_succ]
    go_wp2_with fail
    refine (as_num_fault n ⟨w2.heap.size, 0, none⟩ _ ((HG.out.below HB2.out).below ((Below.refl _ _).alloc (Nat.le_refl _) _))).mono ?_
    rintro e w3 ⟨rfl, hb⟩
    have HB3 := Lib.hid ((HB2.out.alloc HB2.out.size (.cells #[.pointer none] 94)).trans (hb.mono (by have := HB2.out.size; simp; omega)))
    have HX3 := Lib.hid ((HX2.out.alloc (.cells #[.pointer none] 94)).below hb (by simp; omega))
    have HF3 := Lib.hid ((HF2.out.alloc (.cells #[.pointer none] 94)).below hb (by simp; omega))
    clear hb HX2 HF2 HB2 q0 q1 q2 q3 q4 q5
    have lx3 := HX3.out.lt
    have lf3 := HF3.out.lt
    go_wp2_with fail
    refine (as_fault_errno g n w3.heap.size (.int .i64 0) _ ((HG.out.below HB3.out).below ((Below.refl _ _).alloc (Nat.le_refl _) _)) (Cells.new w3 53 [.int .i64 0]) ((HF3.out.alloc _).cell (i := 2) rfl)).mono ?_
    rintro e w4 ⟨rfl, hc, ho⟩
    have HB4 := Lib.hid ((HB3.out.alloc HB3.out.size (.cells #[.int .i64 0] 53)).trans (ho.below (by have := HB3.out.size; simp; omega) (fun x hx => by simp at hx; have := HB3.out.size; omega)))
    have HX4 := Lib.hid ((HX3.out.alloc (.cells #[.int .i64 0] 53)).kept ho (by simp; omega))
    have HF4 := Lib.hid ((HF3.out.alloc (.cells #[.int .i64 0] 53)).kept ho (by simp; omega))
    have c0 := HX4.out.cell (i := 0) rfl
    have c2 : w4.cell? ⟨w3.heap.size, 0, none⟩ = some (.int .i64 n) := hc.cell rfl
    clear hc ho HX3 HF3 HB3
    go_wp2_with fail
    go_loopg [11] 20 (fun g' vi wr => ∃ j : Int, vi = .int .i64 j ∧ 1 ≤ j ∧ j ≤ 21 ∧ g' = (21 - j).toNat ∧ Cells wr w.heap.size 51 [.int .i64 n, .slice (some ⟨pb, 0, none⟩) 1 1] ∧ Cells wr g 98 [.int .i64 k, .int .i64 i, errV n] ∧ Below w.heap.size w wr)
    case atStart => exact ⟨1, rfl, by omega, by omega, rfl, HX4.out, HF4.out, HB4.out⟩
    case round =>
      obtain ⟨j, rfl, hi1, hi2, hgg, hcs, hfs, hbl⟩ := hrel
      have GG := Lib.hid hgg
      have HCS := Lib.hid hcs
      have HFS := Lib.hid hfs
      have HBL := Lib.hid hbl
      have c0 : wr.cell? ⟨w.heap.size, 0, none⟩ = some (.int .i64 n) := hcs.cell rfl
      clear hgg hcs hfs hbl
      by_cases hi : j ≤ 20
      · have d0 : decide (j ≤ 20) = true := by simpa using hi
        by_cases hn : n = j
        · subst hn
          have hIs := fun W h => is_fault g n n W h
          simp only [beq_self_eq_true] at hIs
          go_wp2_with fail
          go_quiet ((go_at_call 34; exact Calls.quiet_of_same (hIs _ (HFS.out.cell (i := 2) rfl))))
          go_wp2_with fail
          go_roundg (21 - (n + 1)).toNat
          case measure => rw [GG.out]; omega
          case rel => exact ⟨n + 1, rfl, by omega, by omega, rfl, HCS.out, HFS.out, below_drewN HBL.out _⟩
        · have d1 : (n == j) = false := by simpa using hn
          have d2 : (j == n) = false := by rw [beq_eq_false_iff_ne]; exact fun e => hn e.symm
          have hIs := fun W h => is_fault g n j W h
          rw [d1] at hIs
          clear hn
          go_wp2_with fail
          go_quiet ((go_at_call 34; exact Calls.quiet_of_same (hIs _ (HFS.out.cell (i := 2) rfl))))
          go_wp2_with fail
          go_roundg (21 - (j + 1)).toNat
          case measure => rw [GG.out]; omega
          case rel => exact ⟨j + 1, rfl, by omega, by omega, rfl, HCS.out, HFS.out, below_drewN HBL.out _⟩
      · have d0 : decide (j ≤ 20) = false := by simpa using hi
        go_wp2
        go_returns
        exact ⟨rfl, HBL.out⟩
theorem same_any (x : EV) (v u : Value) (w : World) (hp : x.pos) (hg : EVar w) (hv : ErrIs w v x) (hu : ErrV w u x) : Calls Tryz.prog 11 #[v, u] w (BoolIs true w) := by
  cases x with
  | nil =>
    obtain rfl : v = .nilIface := hv
    obtain rfl : u = _ := hu
    exact same_nil w
  | code n =>
    obtain rfl : v = errV n := hv
    obtain rfl : u = _ := hu
    exact same_code n w hp.1 hp.2 hg
  | «at» k i n =>
    obtain ⟨g, rfl, hf⟩ := hv
    obtain ⟨b, rfl, hpl⟩ := hu
    exact same_at k i n g b w hp.1 hp.2 hg hf hpl
section
variable {H : Type} {enc : TypeId × Value → H} {P : Program} {w : World}
theorem wfu32 {x : Int} (h : (Lit.int .u32 x).wf = true) : 0 ≤ x ∧ x < 4294967296 := by
  simp [Lit.wf, IntKind.min, IntKind.max, IntKind.signed, IntKind.bits] at h
  omega
theorem wfu64' {x : Int} (h : (Lit.int .u64 x).wf = true) : 0 ≤ x ∧ x < 18446744073709551616 := by
  simp [Lit.wf, IntKind.min, IntKind.max, IntKind.signed, IntKind.bits] at h
  omega
theorem ok_slice {t e : TypeId} {b0 : Nat} {v : Value} (ht : P.underlying t = some (.slice e)) (h : Cell.okWide P w .any b0 t v) : v = .slice none 0 0 ∨ ∃ b o n cap, v = .slice (some ⟨b, o, none⟩) n cap := by
  simp only [Cell.okWide, ht, Cell.ok] at h
  cases v <;> simp_all
  rename_i a n cap
  cases a with
  | none => exact .inl (by cases n <;> cases cap <;> simp_all)
  | some a =>
    obtain ⟨b, o, sp⟩ := a
    simp only [World.has] at h
    exact .inr ⟨b, o, by simpa using h.2.2.2.1⟩
def WordsIn (w : World) (v : Value) : Prop := ∃ ao cap l, v = .slice ao l.length cap ∧ See w ao cap u32Cells 1 l ∧ SForm ao cap ∧ ∀ x ∈ l, x < 4294967296
theorem open_words {t e : TypeId} {v : Value} {b0 base n : Nat} {held : Bool} {y : DataW H × List MemPlace} (ht : P.underlying t = some (.slice e)) (he : P.underlying e = some (.int .u32)) (hce : P.cellsOf e = 1) (hok : Cell.okWide P w .any b0 t v) (h : DataW.trod enc P w base (fun _ => true) held n t [v] = some y) : WordsIn w v := by
  rcases open_ints ht he hce h with ⟨h1, -⟩ | ⟨a, len, cap, zs, h1, -, hl, hm, hz, -, hc, hw⟩
  · simp only [List.cons.injEq, and_true] at h1
    subst h1
    exact ⟨none, 0, [], rfl, See.nil _ _ _, .inl ⟨rfl, rfl⟩, by simp⟩
  · simp only [List.cons.injEq, and_true] at h1
    subst h1
    rcases ok_slice ht hok with h2 | ⟨b, o, n2, c2, h2⟩
    · cases h2
    · simp only [Value.slice.injEq, Option.some.injEq] at h2
      obtain ⟨rfl, rfl, rfl⟩ := h2
      simp only [if_true] at hz
      have hlen : ((zs.take len).map Int.toNat).length = len := by simp; omega
      have hget : ∀ (i x : Nat), ((zs.take len).map Int.toNat)[i]? = some x → i < zs.length ∧ zs.getD i 0 = (x : Int) ∧ x < 4294967296 := by
        intro i x hx
        rw [List.getElem?_map, List.getElem?_take] at hx
        split at hx
        · rename_i hi
          have hil : i < zs.length := by omega
          rw [List.getElem?_eq_getElem hil] at hx
          simp only [Option.map_some, Option.some.injEq] at hx
          have := wfu32 (hw _ (List.getElem_mem hil))
          rw [List.getD_eq_getElem?_getD, List.getElem?_eq_getElem hil]
          simp only [Option.getD_some]
          exact ⟨hil, by omega, by omega⟩
        · cases hx
      refine ⟨some ⟨b, o, none⟩, cap, (zs.take len).map Int.toNat, by rw [hlen], ⟨by omega, hm, fun i x hx => ⟨b, o, rfl, fun j u hu => ?_⟩⟩, .inr ⟨_, _, rfl⟩, fun x hx => ?_⟩
      · obtain ⟨h3, h4, -⟩ := hget i x hx
        have := hc i h3
        rw [h4] at this
        have e : (⟨b, o, none⟩ : Addr).add i = ⟨b, o + i, none⟩ := by unfold Addr.add; split <;> simp_all
        rw [e] at this
        cases j with
        | zero =>
          simp only [u32Cells, List.getElem?_cons_zero, Option.some.injEq] at hu
          rw [Nat.mul_one, Nat.add_zero, this, hu]
        | succ j => simp [u32Cells] at hu
      · obtain ⟨i, hi⟩ := List.getElem?_of_mem hx
        exact (hget i x hi).2.2
def LinksIn (w : World) (v : Value) : Prop := ∃ ao cap l, v = .slice ao l.length cap ∧ See w ao cap linkCells 4 l ∧ SForm ao cap ∧ ∀ x ∈ l, x.ok
def LinkType (P : Program) (u a b : TypeId) : Prop := P.underlying a = some (.int .u32) ∧ P.underlying b = some (.int .u64) ∧ P.cellsOf u = 4 ∧ ∃ f0 f1 f2 f3, P.underlying u = some (.struct #[f0, f1, f2, f3]) ∧ oneCellFields P #[f0, f1, f2, f3] = true ∧ f0.type = a ∧ f1.type = b ∧ f2.type = a ∧ f3.type = a
theorem open_link {u a b : TypeId} {base n : Nat} {spare : Nat → Bool} {held : Bool} {cs : List Value} {y : DataW H × List MemPlace} (lt : LinkType P u a b) (h : DataW.trod enc P w base spare held n u cs = some y) : ∃ l : LinkD, cs = linkCells l ∧ l.ok := by
  obtain ⟨ha, hb, hcu, f0, f1, f2, f3, hu, hone, t0, t1, t2, t3⟩ := lt
  obtain ⟨xs, m, -, -, hlen, hxl, hf⟩ := DataW.trod_struct hu h
  rw [hcu] at hlen
  match cs, hlen with
  | [c0, c1, c2, c3], _ =>
    obtain ⟨o0, k0⟩ := hone_of hone 0 f0 rfl
    obtain ⟨o1, k1⟩ := hone_of hone 1 f1 rfl
    obtain ⟨o2, k2⟩ := hone_of hone 2 f2 rfl
    obtain ⟨o3, k3⟩ := hone_of hone 3 f3 rfl
    have h0 := hf 0 f0 rfl
    have h1 := hf 1 f1 rfl
    have h2 := hf 2 f2 rfl
    have h3 := hf 3 f3 rfl
    rw [o0, k0, t0] at h0
    rw [o1, k1, t1] at h1
    rw [o2, k2, t2] at h2
    rw [o3, k3, t3] at h3
    have some_of : ∀ (i : Nat) (f : Field), (#[f0, f1, f2, f3] : Array Field)[i]? = some f → ∃ z, xs[i]? = some z := by
      intro i f hi
      have hlt : i < 4 := (Array.getElem?_eq_some_iff.1 hi).1
      exact ⟨_, List.getElem?_eq_getElem (by simp at hxl; omega)⟩
    obtain ⟨z0, hz0⟩ := some_of 0 f0 rfl
    obtain ⟨z1, hz1⟩ := some_of 1 f1 rfl
    obtain ⟨z2, hz2⟩ := some_of 2 f2 rfl
    obtain ⟨z3, hz3⟩ := some_of 3 f3 rfl
    obtain ⟨n0, e0, -, w0⟩ := DataW.trod_int ha (h0.trans hz0)
    obtain ⟨n1, e1, -, w1⟩ := DataW.trod_int hb (h1.trans hz1)
    obtain ⟨n2, e2, -, w2⟩ := DataW.trod_int ha (h2.trans hz2)
    obtain ⟨n3, e3, -, w3⟩ := DataW.trod_int ha (h3.trans hz3)
    simp at e0 e1 e2 e3
    subst e0 e1 e2 e3
    have b0 := wfu32 w0
    have b1 := wfu64' w1
    have b2 := wfu32 w2
    have b3 := wfu32 w3
    refine ⟨⟨n0.toNat, n1.toNat, n2.toNat, n3.toNat⟩, ?_, ?_⟩
    · simp only [linkCells]
      rw [Int.toNat_of_nonneg b0.1, Int.toNat_of_nonneg b1.1, Int.toNat_of_nonneg b2.1, Int.toNat_of_nonneg b3.1]
    · simp only [LinkD.ok]
      omega
theorem open_links {t u a b : TypeId} {v : Value} {b0 base n : Nat} {held : Bool} {y : DataW H × List MemPlace} (hts : P.underlying t = some (.slice u)) (lt : LinkType P u a b) (hok : Cell.okWide P w .any b0 t v) (h : DataW.trod enc P w base (fun _ => true) held n t [v] = some y) : LinksIn w v := by
  rcases open_slice hts h with ⟨h1, -⟩ | ⟨a, len, cap, m, n, D, Pl, h1, -, hl, hm, hmm, -, hi⟩
  · simp only [List.cons.injEq, and_true] at h1
    subst h1
    exact ⟨none, 0, [], rfl, See.nil _ _ _, .inl ⟨rfl, rfl⟩, by simp⟩
  · simp only [List.cons.injEq, and_true] at h1
    subst h1
    rcases ok_slice hts hok with h2 | ⟨b, o, n2, c2, h2⟩
    · cases h2
    · simp only [Value.slice.injEq, Option.some.injEq] at h2
      obtain ⟨rfl, rfl, rfl⟩ := h2
      simp only [if_true] at hmm
      subst hmm
      have each : ∀ i, i < m → ∃ l : LinkD, l.ok ∧ ∀ j u, (linkCells l)[j]? = some u → w.cell? ⟨b, o + i * 4 + j, none⟩ = some u := by
        intro i him
        obtain ⟨cs, hc, ht⟩ := hi i him
        rw [lt.2.2.1] at hc
        obtain ⟨l, rfl, hlo⟩ := open_link lt ht
        obtain ⟨-, -, hat⟩ := World.cells?_some hc
        refine ⟨l, hlo, fun j u hu => ?_⟩
        have hj : j < 4 := (List.getElem?_eq_some_iff.1 hu).1
        have := hat j hj
        have e1 : (⟨b, o, none⟩ : Addr).add (i * 4) = ⟨b, o + i * 4, none⟩ := by unfold Addr.add; split <;> simp_all
        have e2 : (⟨b, o + i * 4, none⟩ : Addr).add j = ⟨b, o + i * 4 + j, none⟩ := by unfold Addr.add; split <;> simp_all
        rw [e1, e2, hu] at this
        exact this
      obtain ⟨L, hL⟩ : ∃ L : Nat → LinkD, ∀ i, i < m → (L i).ok ∧ ∀ j u, (linkCells (L i))[j]? = some u → w.cell? ⟨b, o + i * 4 + j, none⟩ = some u :=
        ⟨fun i => if h : i < m then Classical.choose (each i h) else default, fun i h => by simp only [dif_pos h]; exact Classical.choose_spec (each i h)⟩
      have hget : ∀ i x, ((List.range len).map L)[i]? = some x → i < len ∧ x = L i := by
        intro i x hx
        have hil : i < len := by have := (List.getElem?_eq_some_iff.1 hx).1; simpa using this
        rw [List.getElem?_map, List.getElem?_range hil] at hx
        simp only [Option.map_some, Option.some.injEq] at hx
        exact ⟨hil, hx.symm⟩
      refine ⟨some ⟨b, o, none⟩, m, (List.range len).map L, by simp, ⟨by simpa using hl, hm, fun i x hx => ⟨b, o, rfl, ?_⟩⟩, .inr ⟨_, _, rfl⟩, fun x hx => ?_⟩
      · obtain ⟨h3, rfl⟩ := hget i x hx
        exact (hL i (by omega)).2
      · obtain ⟨i, hi⟩ := List.getElem?_of_mem hx
        obtain ⟨h3, rfl⟩ := hget i x hi
        exact (hL i (by omega)).1
def HierType (P : Program) (u a b : TypeId) : Prop := P.cellsOf u = 5 ∧ P.cellTypes P.depth u = some [a, a, b, a, b] ∧ ∃ f0 f1 f2 f3 f4, P.underlying u = some (.struct #[f0, f1, f2, f3, f4]) ∧ oneCellFields P #[f0, f1, f2, f3, f4] = true ∧ f0.type = a ∧ f1.type = a ∧ f2.type = b ∧ f3.type = a ∧ f4.type = b
theorem open_hier_of {u a b x l y : TypeId} {v : Value} {b0 base : Nat} {held : Bool} {d : DataW H} {p : List MemPlace} (ht : HierType P u a b) (hta : P.underlying a = some (.slice x)) (htx : P.underlying x = some (.int .u32)) (hcx : P.cellsOf x = 1) (htb : P.underlying b = some (.slice l)) (lt : LinkType P l x y) (hv : Value.okWide P w .any b0 u v) (h : DataW.Trod enc P w base (fun _ => true) held u v d p) :
    ∃ A h, v = hierVal A h ∧ HSee w A h ∧ HForm A := by
  obtain ⟨hcs, hct, f0, f1, f2, f3, f4, hu, hone, t0, t1, t2, t3, t4⟩ := ht
  have hv' := hv
  simp only [Value.okWide, hu] at hv'
  obtain ⟨cs, rfl, hsz, ts, hts, -, hrow⟩ := hv'
  rw [hct] at hts
  simp only [Option.some.injEq] at hts
  subst hts
  obtain ⟨cs⟩ := cs
  match cs, hsz.trans hcs with
  | [c0, c1, c2, c3, c4], _ =>
    obtain ⟨fuel, hf⟩ := h
    obtain ⟨xs, n, _, hx, _, hlen, hg⟩ := DataW.trod_struct hu hf
    obtain ⟨o0, k0⟩ := hone_of hone 0 f0 rfl
    obtain ⟨o1, k1⟩ := hone_of hone 1 f1 rfl
    obtain ⟨o2, k2⟩ := hone_of hone 2 f2 rfl
    obtain ⟨o3, k3⟩ := hone_of hone 3 f3 rfl
    obtain ⟨o4, k4⟩ := hone_of hone 4 f4 rfl
    match xs, hlen with
    | [y0, y1, y2, y3, y4], _ =>
      have h0 : DataW.trod enc P w base (fun _ => true) held n f0.type [c0] = some y0 := by simpa [Value.cells, o0, k0] using hg 0 f0 rfl
      have h1 : DataW.trod enc P w base (fun _ => true) held n f1.type [c1] = some y1 := by simpa [Value.cells, o1, k1] using hg 1 f1 rfl
      have h2 : DataW.trod enc P w base (fun _ => true) held n f2.type [c2] = some y2 := by simpa [Value.cells, o2, k2] using hg 2 f2 rfl
      have h3 : DataW.trod enc P w base (fun _ => true) held n f3.type [c3] = some y3 := by simpa [Value.cells, o3, k3] using hg 3 f3 rfl
      have h4 : DataW.trod enc P w base (fun _ => true) held n f4.type [c4] = some y4 := by simpa [Value.cells, o4, k4] using hg 4 f4 rfl
      rw [t0] at h0; rw [t1] at h1; rw [t2] at h2; rw [t3] at h3; rw [t4] at h4
      have r0 : Cell.okWide P w .any b0 a c0 := by obtain ⟨u, hu', h⟩ := hrow 0 c0 rfl; simp at hu'; subst hu'; exact h
      have r1 : Cell.okWide P w .any b0 a c1 := by obtain ⟨u, hu', h⟩ := hrow 1 c1 rfl; simp at hu'; subst hu'; exact h
      have r2 : Cell.okWide P w .any b0 b c2 := by obtain ⟨u, hu', h⟩ := hrow 2 c2 rfl; simp at hu'; subst hu'; exact h
      have r3 : Cell.okWide P w .any b0 a c3 := by obtain ⟨u, hu', h⟩ := hrow 3 c3 rfl; simp at hu'; subst hu'; exact h
      have r4 : Cell.okWide P w .any b0 b c4 := by obtain ⟨u, hu', h⟩ := hrow 4 c4 rfl; simp at hu'; subst hu'; exact h
      obtain ⟨a0, q0, l0, rfl, s0, m0, b0⟩ := open_words hta htx hcx r0 h0
      obtain ⟨a1, q1, l1, rfl, s1, m1, b1⟩ := open_words hta htx hcx r1 h1
      obtain ⟨a2, q2, l2, rfl, s2, m2, b2⟩ := open_links htb lt r2 h2
      obtain ⟨a3, q3, l3, rfl, s3, m3, b3⟩ := open_words hta htx hcx r3 h3
      obtain ⟨a4, q4, l4, rfl, s4, m4, b4⟩ := open_links htb lt r4 h4
      exact ⟨⟨a0, a1, a2, a3, a4, q0, q1, q2, q3, q4⟩, ⟨l0, l1, l2, l3, l4⟩, rfl, ⟨s0, s1, s2, s3, s4, b0, b1, b3, b2, b4⟩, ⟨m0, m1, m2, m3, m4⟩⟩
set_option maxRecDepth 100000 in
theorem Tryz.linkType : LinkType Tryz.prog 63 61 35 :=
  ⟨Tryz.underlying61, Tryz.underlying35, by kernel_rfl, _, _, _, _, Tryz.underlying63, by kernel_rfl, rfl, rfl, rfl, rfl⟩
set_option maxRecDepth 100000 in
theorem Tryz.hierType : HierType Tryz.prog 25 22 23 :=
  ⟨by kernel_rfl, by kernel_rfl, _, _, _, _, _, Tryz.underlying25, by kernel_rfl, rfl, rfl, rfl, rfl, rfl⟩
set_option maxRecDepth 100000 in
theorem open_hier {v : Value} {b0 base : Nat} {held : Bool} {d : DataW H} {p : List MemPlace} (hv : Value.okWide Tryz.prog w .any b0 25 v) (h : DataW.Trod enc Tryz.prog w base (fun _ => true) held 25 v d p) :
    ∃ A h, v = hierVal A h ∧ HSee w A h ∧ HForm A :=
  open_hier_of Tryz.hierType Tryz.underlying22 Tryz.underlying61 (by kernel_rfl) Tryz.underlying23 Tryz.linkType hv h
end
end Go.Proofs.YtblkkjfpggcgfaaGreatDoor
