/- errors.As: a fault round a number, at a number; a number, at a pointer to a fault. -/
import Derived.Test.YtchhbgckonpedaaGreatDoorG25
import Derived.Test.YtchhbgckonpedaaGreatDoorG16
import Derived.Test.YtchhbgckonpedaaGreatDoorG23
import Derived.Deep.RegionHeld3
import Derived.Test.YtchhbgckonpedaaGreatDoorG24
import Derived.Test.YtchhbgckonpedaaGreatDoorChecked
import Derived.Shelf.SlSortCmp.NoneTotal
namespace Go.Proofs.YtchhbgckonpedaaGreatDoor
open Go.RowKit Go.Extern.Stop Go.Stop Go.Extern
set_option maxRecDepth 100000 in
set_option maxHeartbeats 4000000 in
theorem as_fault_num_run (g : Nat) (e : Int) (t : Addr) (old : Value) (w : World) (hg : w.cell? ⟨0, 0, none⟩ = some (.iface 166 (.agg #[.pointer (some ⟨1, 30, none⟩)]))) (ht0 : w.cell? t = some old) (hf0 : w.frozen? t = false) (hg3 : w.cell? ⟨g, 2, none⟩ = some (.iface 61 (.int .i64 e))) :
    Calls Tryz.prog 40 #[.iface 84 (.pointer (some ⟨g, 0, none⟩)), .iface 89 (.pointer (some t))] w fun ev w' => ev = .returned (.bool true) ∧ w' = ((((w.alloc (.cells #[.pointer (some t)] 89)).alloc (.cells #[.pointer (some ⟨1, 89, none⟩), .pointer (some ⟨w.heap.size, 0, none⟩), .int .u64 150] 125)).alloc (.cells #[.pointer (some ⟨1, 89, none⟩), .pointer (some ⟨w.heap.size, 0, none⟩), .int .u64 150] 125)).alloc (.cells #[.int .i64 e] 61)).setCell t (.int .i64 e) := by
  have x6 := fun (args : Array Value) (W : World) => run_callFunc_extern (P := Tryz.prog) (f := 62) (e := fun args => ReflectliteValue.unpack (args.getD 0 (.tuple #[]))) Tryz.func62 (by kernel_rfl) (by kernel_rfl) (by kernel_rfl) (by kernel_rfl) args W
  have x7 := fun (args : Array Value) (W : World) => run_callFunc_extern (P := Tryz.prog) (f := 63) (e := ReflectliteValue.methodAny (ReflectliteValue.valueError "reflectlite.Value.Type" 0) (fun t _ _ _ => ReflectliteType.toType t)) Tryz.func63 (by kernel_rfl) (by kernel_rfl) (by kernel_rfl) (by kernel_rfl) args W
  have x8 := fun (args : Array Value) (W : World) => run_callFunc_extern (P := Tryz.prog) (f := 64) (e := ReflectliteValue.method (ReflectliteValue.valueError "reflectlite.Value.IsNil" 0) ReflectliteValue.isNil) Tryz.func64 (by kernel_rfl) (by kernel_rfl) (by kernel_rfl) (by kernel_rfl) args W
  have x27 := fun (args : Array Value) (W : World) => run_callFunc_extern (P := Tryz.prog) (f := 169) (e := ReflectliteType.abiMethod fun t => do pure (.int .u8 (← Rtype.kind t))) Tryz.func169 (by kernel_rfl) (by kernel_rfl) (by kernel_rfl) (by kernel_rfl) args W
  have x37 := fun (args : Array Value) (W : World) => run_callFunc_extern (P := Tryz.prog) (f := 181) (e := ReflectliteType.method ReflectliteType.elem) Tryz.func181 (by kernel_rfl) (by kernel_rfl) (by kernel_rfl) (by kernel_rfl) args W
  have x38 := fun (args : Array Value) (W : World) => run_callFunc_extern (P := Tryz.prog) (f := 182) (e := ReflectliteType.relation "Implements" ReflectliteType.implements_) Tryz.func182 (by kernel_rfl) (by kernel_rfl) (by kernel_rfl) (by kernel_rfl) args W
  have x10 := fun (args : Array Value) (W : World) => run_callFunc_extern (P := Tryz.prog) (f := 66) (e := ReflectliteType.typeOf) Tryz.func66 (by kernel_rfl) (by kernel_rfl) (by kernel_rfl) (by kernel_rfl) args W
  have x35 := fun (args : Array Value) (W : World) => run_callFunc_extern (P := Tryz.prog) (f := 179) (e := ReflectliteType.relation "AssignableTo" ReflectliteType.assignableTo) Tryz.func179 (by kernel_rfl) (by kernel_rfl) (by kernel_rfl) (by kernel_rfl) args W
  have x11 := fun (args : Array Value) (W : World) => run_callFunc_extern (P := Tryz.prog) (f := 84) (e := ReflectliteValue.method (ReflectliteValue.valueError "reflectlite.Value.Elem" 0) ReflectliteValue.elem) Tryz.func84 (by kernel_rfl) (by kernel_rfl) (by kernel_rfl) (by kernel_rfl) args W
  have x12 := fun (args : Array Value) (W : World) => run_callFunc_extern (P := Tryz.prog) (f := 85) (e := ReflectliteValue.set) Tryz.func85 (by kernel_rfl) (by kernel_rfl) (by kernel_rfl) (by kernel_rfl) args W
  have f6 := Tryz.valueOfENP
  have f7 := Tryz.typeENP
  have k27 := Tryz.kindENP
  have k25 := Tryz.kindEENP
  have e27 := Tryz.elemENP
  have i25 := Tryz.implementsENP
  have n8 := Tryz.isNilENP ⟨w.heap.size, 0, none⟩ t ((w.alloc (.cells #[.pointer (some t)] 89)).alloc (.cells #[.pointer (some ⟨1, 89, none⟩), .pointer (some ⟨w.heap.size, 0, none⟩), .int .u64 150] 125)) (by simp)
  have hlt : 0 < w.heap.size := World.block_lt_of_cell? w _ hg
  have hg2 : ((w.alloc (.cells #[.pointer (some t)] 89)).alloc (.cells #[.pointer (some ⟨1, 89, none⟩), .pointer (some ⟨w.heap.size, 0, none⟩), .int .u64 150] 125)).cell? ⟨0, 0, none⟩ = some (.iface 166 (.agg #[.pointer (some ⟨1, 30, none⟩)])) := by
    rw [World.cell?_alloc_lt _ _ ⟨0, 0, none⟩ (by simp), World.cell?_alloc_lt _ _ ⟨0, 0, none⟩ hlt]; exact hg
  have htl : t.block < w.heap.size := World.block_lt_of_cell? w _ ht0
  have el := Tryz.elemVENP ⟨w.heap.size, 0, none⟩ t (((w.alloc (.cells #[.pointer (some t)] 89)).alloc (.cells #[.pointer (some ⟨1, 89, none⟩), .pointer (some ⟨w.heap.size, 0, none⟩), .int .u64 150] 125)).alloc (.cells #[.pointer (some ⟨1, 89, none⟩), .pointer (some ⟨w.heap.size, 0, none⟩), .int .u64 150] 125)) (by rw [World.cell?_alloc_lt _ _ ⟨w.heap.size, 0, none⟩ (by simp; omega)]; simp)
  have st := Tryz.setENP t ⟨w.heap.size + 1 + 1 + 1, 0, none⟩ e old ((((w.alloc (.cells #[.pointer (some t)] 89)).alloc (.cells #[.pointer (some ⟨1, 89, none⟩), .pointer (some ⟨w.heap.size, 0, none⟩), .int .u64 150] 125)).alloc (.cells #[.pointer (some ⟨1, 89, none⟩), .pointer (some ⟨w.heap.size, 0, none⟩), .int .u64 150] 125)).alloc (.cells #[.int .i64 e] 61))
    (by rw [World.cell?_alloc_at _ _ _ _ (by simp)]; rfl)
    (by rw [World.cell?_alloc_lt _ _ t (by simp; omega), World.cell?_alloc_lt _ _ t (by simp; omega), World.cell?_alloc_lt _ _ t (by simp; omega), World.cell?_alloc_lt _ _ t htl]; exact ht0)
    (by rw [World.frozen?_alloc_old _ _ t (by simp; omega), World.frozen?_alloc_old _ _ t (by simp; omega), World.frozen?_alloc_old _ _ t (by simp; omega), World.frozen?_alloc_old _ _ t (Nat.ne_of_lt htl)]; exact hf0)
  have hgl : g < w.heap.size := World.block_lt_of_cell? w _ hg3
  have hg4 : (((w.alloc (.cells #[.pointer (some t)] 89)).alloc (.cells #[.pointer (some ⟨1, 89, none⟩), .pointer (some ⟨w.heap.size, 0, none⟩), .int .u64 150] 125)).alloc (.cells #[.pointer (some ⟨1, 89, none⟩), .pointer (some ⟨w.heap.size, 0, none⟩), .int .u64 150] 125)).cell? ⟨g, 2, none⟩ = some (.iface 61 (.int .i64 e)) := by
    rw [World.cell?_alloc_lt _ _ ⟨g, 2, none⟩ (by simp; omega), World.cell?_alloc_lt _ _ ⟨g, 2, none⟩ (by simp; omega), World.cell?_alloc_lt _ _ ⟨g, 2, none⟩ hgl]; exact hg3
  have tO := Tryz.typeOfE
  have tF := Tryz.typeOfF
  have a25 := Tryz.assignEE
  have aF := Tryz.assignFE
  have v25 := Tryz.valueOfE
  have nF := Tryz.noAsF
  have uF := Tryz.unwF
  go_enter Tryz.func40, Tryz.ntmps40
  go_wp2
  refine wp_loop_rounds 2 ?_
  rw [rounds_succ]
  go_wp2
  rw [rounds_succ]
  go_wp2
  go_ret
  exact ⟨rfl, rfl⟩
theorem as_fault_errno (g : Nat) (e : Int) (tb : Nat) (old : Value) (w : World) (hg : EVar w) (ht : Cells w tb 61 [old]) (hg3 : w.cell? ⟨g, 2, none⟩ = some (.iface 61 (.int .i64 e))) :
    Calls Tryz.prog 40 #[.iface 84 (.pointer (some ⟨g, 0, none⟩)), .iface 89 (.pointer (some ⟨tb, 0, none⟩))] w fun ev w' => ev = .returned (.bool true) ∧ Cells w' tb 61 [.int .i64 e] ∧ Only [tb] w w' :=
  (as_fault_num_run g e ⟨tb, 0, none⟩ old w hg (ht.cell rfl) (ht.frozen 0) hg3).mono fun ev w' ⟨h1, h2⟩ => ⟨h1, h2 ▸ (((((ht.alloc _).alloc _).alloc _).alloc _).set 0 _), h2 ▸ (((((Only.refl [tb] w).alloc _).alloc _).alloc _).alloc _).setCell (.inl (by simp)) _⟩
set_option maxRecDepth 100000 in
set_option maxHeartbeats 4000000 in
theorem as_num_fault (e : Int) (t : Addr) (w : World) (hg : EVar w) :
    Calls Tryz.prog 40 #[.iface 61 (.int .i64 e), .iface 86 (.pointer (some t))] w fun ev w' => ev = .returned (.bool false) ∧ Below w.heap.size w w' := by
  unfold EVar at hg
  have x6 := fun (args : Array Value) (W : World) => run_callFunc_extern (P := Tryz.prog) (f := 62) (e := fun args => ReflectliteValue.unpack (args.getD 0 (.tuple #[]))) Tryz.func62 (by kernel_rfl) (by kernel_rfl) (by kernel_rfl) (by kernel_rfl) args W
  have x7 := fun (args : Array Value) (W : World) => run_callFunc_extern (P := Tryz.prog) (f := 63) (e := ReflectliteValue.methodAny (ReflectliteValue.valueError "reflectlite.Value.Type" 0) (fun t _ _ _ => ReflectliteType.toType t)) Tryz.func63 (by kernel_rfl) (by kernel_rfl) (by kernel_rfl) (by kernel_rfl) args W
  have x8 := fun (args : Array Value) (W : World) => run_callFunc_extern (P := Tryz.prog) (f := 64) (e := ReflectliteValue.method (ReflectliteValue.valueError "reflectlite.Value.IsNil" 0) ReflectliteValue.isNil) Tryz.func64 (by kernel_rfl) (by kernel_rfl) (by kernel_rfl) (by kernel_rfl) args W
  have x27 := fun (args : Array Value) (W : World) => run_callFunc_extern (P := Tryz.prog) (f := 169) (e := ReflectliteType.abiMethod fun t => do pure (.int .u8 (← Rtype.kind t))) Tryz.func169 (by kernel_rfl) (by kernel_rfl) (by kernel_rfl) (by kernel_rfl) args W
  have x37 := fun (args : Array Value) (W : World) => run_callFunc_extern (P := Tryz.prog) (f := 181) (e := ReflectliteType.method ReflectliteType.elem) Tryz.func181 (by kernel_rfl) (by kernel_rfl) (by kernel_rfl) (by kernel_rfl) args W
  have x38 := fun (args : Array Value) (W : World) => run_callFunc_extern (P := Tryz.prog) (f := 182) (e := ReflectliteType.relation "Implements" ReflectliteType.implements_) Tryz.func182 (by kernel_rfl) (by kernel_rfl) (by kernel_rfl) (by kernel_rfl) args W
  have x10 := fun (args : Array Value) (W : World) => run_callFunc_extern (P := Tryz.prog) (f := 66) (e := ReflectliteType.typeOf) Tryz.func66 (by kernel_rfl) (by kernel_rfl) (by kernel_rfl) (by kernel_rfl) args W
  have x35 := fun (args : Array Value) (W : World) => run_callFunc_extern (P := Tryz.prog) (f := 179) (e := ReflectliteType.relation "AssignableTo" ReflectliteType.assignableTo) Tryz.func179 (by kernel_rfl) (by kernel_rfl) (by kernel_rfl) (by kernel_rfl) args W
  have x11 := fun (args : Array Value) (W : World) => run_callFunc_extern (P := Tryz.prog) (f := 84) (e := ReflectliteValue.method (ReflectliteValue.valueError "reflectlite.Value.Elem" 0) ReflectliteValue.elem) Tryz.func84 (by kernel_rfl) (by kernel_rfl) (by kernel_rfl) (by kernel_rfl) args W
  have x12 := fun (args : Array Value) (W : World) => run_callFunc_extern (P := Tryz.prog) (f := 85) (e := ReflectliteValue.set) Tryz.func85 (by kernel_rfl) (by kernel_rfl) (by kernel_rfl) (by kernel_rfl) args W
  have f6 := Tryz.valueOfFPP
  have f7 := Tryz.typeFPP
  have k27 := Tryz.kindFPP
  have k25 := Tryz.kindEFPP
  have e27 := Tryz.elemFPP
  have i25 := Tryz.implementsFPP
  have n8 := Tryz.isNilFPP ⟨w.heap.size, 0, none⟩ t ((w.alloc (.cells #[.pointer (some t)] 86)).alloc (.cells #[.pointer (some ⟨1, 86, none⟩), .pointer (some ⟨w.heap.size, 0, none⟩), .int .u64 150] 125)) (by simp)
  have hlt : 0 < w.heap.size := World.block_lt_of_cell? w _ hg
  have hg2 : ((w.alloc (.cells #[.pointer (some t)] 86)).alloc (.cells #[.pointer (some ⟨1, 86, none⟩), .pointer (some ⟨w.heap.size, 0, none⟩), .int .u64 150] 125)).cell? ⟨0, 0, none⟩ = some (.iface 166 (.agg #[.pointer (some ⟨1, 30, none⟩)])) := by
    rw [World.cell?_alloc_lt _ _ ⟨0, 0, none⟩ (by simp), World.cell?_alloc_lt _ _ ⟨0, 0, none⟩ hlt]; exact hg
  have tO := Tryz.typeOfE
  have aE := Tryz.assignEF
  have nE := Tryz.noAsE
  have uE := Tryz.unwE
  have vE := Tryz.unwsE
  go_enter Tryz.func40, Tryz.ntmps40
  go_wp2
  refine wp_loop_rounds 1 ?_
  rw [rounds_succ]
  go_wp2
  go_ret
  exact ⟨rfl, by go_grown⟩
end Go.Proofs.YtchhbgckonpedaaGreatDoor
namespace Go.Proofs.YtchhbgckonpedaaGreatDoor
open Go.ChangeShapes Go.WideShapes Go.ChangeAt Go.RowKit Go.Joins Go.Deep
set_option maxRecDepth 100000 in
theorem same_nil (w : World) : Calls Tryz.prog 15 #[.nilIface, .agg #[.int .i64 0, .slice none 0 0]] w (BoolIs true w) := by
  go_enter Tryz.func15, Tryz.ntmps15
  go_wp2_with fail
  refine (bad_any _ .nil _ rfl trivial).mono ?_
  rintro e w1 ⟨he, hb⟩
  have he' : e = .returned (.bool false) := he
  subst he'
  have HB := Lib.hid (((Below.refl w.heap.size w).alloc (Nat.le_refl _) _).trans (hb.mono (by simp)))
  clear hb he
  go_wp2
  go_returns
  exact ⟨rfl, HB.out⟩
set_option maxRecDepth 100000 in
set_option maxHeartbeats 2000000 in
theorem same_code (n : Int) (w : World) (h1 : 1 ≤ n) (h2 : n ≤ 20) (hg : EVar w) : Calls Tryz.prog 15 #[errV n, .agg #[.int .i64 n, .slice none 0 0]] w (BoolIs true w) := by
  have HG := Lib.hid hg
  clear hg
  unfold errV
  go_enter Tryz.func15, Tryz.ntmps15
  go_wp2_with fail
  refine (bad_any _ (.code n) _ rfl ⟨h1, h2⟩).mono ?_
  rintro e w1 ⟨he, hb⟩
  have he' : e = .returned (.bool true) := he
  subst he'
  have hbx := (Cells.new w 36 [.int .i64 n, .slice none 0 0]).below hb (by simp)
  have HB1 := Lib.hid (((Below.refl w.heap.size w).alloc (Nat.le_refl _) _).trans (hb.mono (by simp)))
  have c0 : w1.cell? ⟨w.heap.size, 0, none⟩ = some (.int .i64 n) := hbx.cell rfl
  have c1 : w1.cell? ⟨w.heap.size, 1, none⟩ = some (.slice none 0 0) := hbx.cell rfl
  have lb := hbx.lt
  have HX1 := Lib.hid hbx
  clear hb he hbx
  go_wp2_with fail
  refine wp_loop_rounds 1 ?_
  rw [rounds_succ]
  go_wp2_with fail
  refine (as_num_fault n ⟨w1.heap.size, 0, none⟩ _ ((HG.out.below HB1.out).below ((Below.refl _ _).alloc (Nat.le_refl _) _))).mono ?_
  rintro e w2 ⟨rfl, hb⟩
  have HB2 := Lib.hid ((HB1.out.alloc HB1.out.size (.cells #[.pointer none] 84)).trans (hb.mono (by have := HB1.out.size; simp; omega)))
  have hx2 := (HX1.out.alloc (.cells #[.pointer none] 84)).below hb (by simp; omega)
  have HX2 := Lib.hid hx2
  have lb2 := hx2.lt
  clear hb hx2 c0 c1 HX1 HB1
  go_wp2_with fail
  refine (as_errno_errno n w2.heap.size (.int .i64 0) _ ((HG.out.below HB2.out).below ((Below.refl _ _).alloc (Nat.le_refl _) _)) (Cells.new w2 61 [.int .i64 0])).mono ?_
  rintro e w3 ⟨rfl, hc, ho⟩
  have hB3 : Below w.heap.size w w3 := (HB2.out.alloc HB2.out.size (.cells #[.int .i64 0] 61)).trans (ho.below (by have := HB2.out.size; simp; omega) (fun x hx => by simp at hx; have := HB2.out.size; omega))
  have hx3 := (HX2.out.alloc (.cells #[.int .i64 0] 61)).kept ho (by simp; omega)
  have c0 : w3.cell? ⟨w.heap.size, 0, none⟩ = some (.int .i64 n) := hx3.cell rfl
  have c2 : w3.cell? ⟨w2.heap.size, 0, none⟩ = some (.int .i64 n) := hc.cell rfl
  have HX3 := Lib.hid hx3
  have HB3 := Lib.hid hB3
  have lb3 := hx3.lt
  clear hc ho hx3 hB3 HX2 HB2
  go_wp2_with fail
  go_loopg [11] 20 (fun g vi wr => ∃ i : Int, vi = .int .i64 i ∧ 1 ≤ i ∧ i ≤ 21 ∧ g = (21 - i).toNat ∧ Cells wr w.heap.size 36 [.int .i64 n, .slice none 0 0] ∧ Below w.heap.size w wr)
  case atStart => exact ⟨1, rfl, by omega, by omega, rfl, HX3.out, HB3.out⟩
  case round =>
    obtain ⟨i, rfl, hi1, hi2, hgg, hcs, hbl⟩ := hrel
    have GG := Lib.hid hgg
    have HCS := Lib.hid hcs
    have HBL := Lib.hid hbl
    have c0 : wr.cell? ⟨w.heap.size, 0, none⟩ = some (.int .i64 n) := hcs.cell rfl
    clear hgg hcs hbl
    by_cases hi : i ≤ 20
    · have d0 : decide (i ≤ 20) = true := by simpa using hi
      by_cases hn : n = i
      · subst hn
        have hIs := is_errno n n
        simp only [beq_self_eq_true] at hIs
        go_wp2_with fail
        go_quiet ((go_at_call 41; exact Calls.quiet_of_same (hIs _)))
        go_wp2_with fail
        go_roundg (21 - (n + 1)).toNat
        case measure => rw [GG.out]; omega
        case rel => exact ⟨n + 1, rfl, by omega, by omega, rfl, HCS.out, below_drewN HBL.out _⟩
      · have d1 : (n == i) = false := by simpa using hn
        have d2 : (i == n) = false := by rw [beq_eq_false_iff_ne]; exact fun e => hn e.symm
        have hIs := is_errno n i
        rw [d1] at hIs
        clear hn
        go_wp2_with fail
        go_quiet ((go_at_call 41; exact Calls.quiet_of_same (hIs _)))
        go_wp2_with fail
        go_roundg (21 - (i + 1)).toNat
        case measure => rw [GG.out]; omega
        case rel => exact ⟨i + 1, rfl, by omega, by omega, rfl, HCS.out, below_drewN HBL.out _⟩
    · have d0 : decide (i ≤ 20) = false := by simpa using hi
      go_wp2
      go_returns
      exact ⟨rfl, HBL.out⟩
set_option maxRecDepth 100000 in
set_option maxHeartbeats 4000000 in
theorem same_at (k i n : Int) (g pb : Nat) (w : World) (h1 : 1 ≤ n) (h2 : n ≤ 20) (hg : EVar w) (hf : Cells w g 88 [.int .i64 k, .int .i64 i, errV n]) (hp : Cells w pb 83 [.int .i64 k, .int .i64 i]) :
    Calls Tryz.prog 15 #[.iface 84 (.pointer (some ⟨g, 0, none⟩)), .agg #[.int .i64 n, .slice (some ⟨pb, 0, none⟩) 1 1]] w (BoolIs true w) := by
  have HG := Lib.hid hg
  have HF := Lib.hid hf
  have HP := Lib.hid hp
  have lg := hf.lt
  have lp := hp.lt
  clear hg hf hp
  go_enter Tryz.func15, Tryz.ntmps15
  go_wp2_with fail
  refine (bad_any _ (.at k i n) _ ⟨pb, rfl, HP.out.alloc _⟩ ⟨h1, h2⟩).mono ?_
  rintro e w1 ⟨he, hb⟩
  have he' : e = .returned (.bool true) := he
  subst he'
  have hbx := (Cells.new w 36 [.int .i64 n, .slice (some ⟨pb, 0, none⟩) 1 1]).below hb (by simp)
  have hB1 := ((Below.refl w.heap.size w).alloc (Nat.le_refl _) (.cells #[.int .i64 n, .slice (some ⟨pb, 0, none⟩) 1 1] 36)).trans (hb.mono (by simp))
  have hz1 := hbx.lt
  have c0 : w1.cell? ⟨w.heap.size, 0, none⟩ = some (.int .i64 n) := hbx.cell rfl
  have c1 : w1.cell? ⟨w.heap.size, 1, none⟩ = some (.slice (some ⟨pb, 0, none⟩) 1 1) := hbx.cell rfl
  have p0 : w1.cell? ⟨pb, 0, none⟩ = some (.int .i64 k) := (HP.out.below hB1 lp).cell rfl
  have p1 : w1.cell? ⟨pb, 1, none⟩ = some (.int .i64 i) := (HP.out.below hB1 lp).cell rfl
  have lp1 : pb < w1.heap.size := by omega
  have HX1 := Lib.hid hbx
  have HB1 := Lib.hid hB1
  clear hb he hbx hB1
  go_wp2_with fail
  refine wp_loop_rounds 2 ?_
  rw [rounds_succ]
  go_wp2_with fail
  obtain ⟨wq, hwq⟩ : ∃ wq, (w1.alloc (.cells #[.int .i64 k, .int .i64 i] 83)).alloc (.cells #[.pointer none] 84) = wq := ⟨_, rfl⟩
  have zP : Cells wq w1.heap.size 83 [.int .i64 k, .int .i64 i] := by
    rw [← hwq]
    exact (Cells.new w1 _ _).alloc _
  have zF : Cells wq (w1.heap.size + 1) 84 [.pointer none] := by
    rw [← hwq]
    exact cells_at (by simp) _ _
  have zb : Below w1.heap.size w1 wq := by
    rw [← hwq]
    exact ((Below.refl _ _).alloc (Nat.le_refl _) _).alloc (by simp) _
  rw [hwq]
  clear hwq
  have hzF := zF.lt
  have HBq := Lib.hid (HB1.out.trans (zb.mono HB1.out.size))
  have HFq := Lib.hid (HF.out.below HBq.out lg)
  have HXq := Lib.hid (HX1.out.below zb hz1)
  have HGq := Lib.hid (HG.out.below HBq.out)
  have HPl := Lib.hid zP
  have HFl := Lib.hid zF
  clear zP zF zb c0 c1 p0 p1 HX1 HB1
  go_region_with (first | (go_at_call 40; refine (as_fault_fault ⟨g, 0, none⟩ (w1.heap.size + 1) (.pointer none) _ ?_ ?_).mono ?_; exact HGq.out; exact HFl.out; rintro ev w2 ⟨rfl, hc, ho⟩; (have q0 := hc.cell (i := 0) rfl); (have q1 := (HPl.out.drew.kept ho (by simp)).cell (i := 0) rfl); (have q2 := (HPl.out.drew.kept ho (by simp)).cell (i := 1) rfl); (have q3 := (HFq.out.drew.kept ho (by simp; omega)).cell (i := 0) rfl); (have q4 := (HFq.out.drew.kept ho (by simp; omega)).cell (i := 1) rfl)))
  all_goals
    have hB2 : Below w.heap.size w w2 := HBq.out.drew.trans (ho.below (by have := HBq.out.size; simpa using this) (fun x hx => by simp at hx; have := HBq.out.size; omega))
    have hx2 := HXq.out.drew.kept ho (by simp; omega)
    have hf2 := HFq.out.drew.kept ho (by simp; omega)
    have q5 : w2.cell? ⟨g, 2, none⟩ = some (.iface 61 (.int .i64 n)) := hf2.cell (i := 2) rfl
    have HB2 := Lib.hid hB2
    have HX2 := Lib.hid hx2
    have HF2 := Lib.hid hf2
    have lx2 := hx2.lt
    have lf2 := hf2.lt
    clear hB2 hx2 hf2 hc ho HXq HFq HGq HBq HPl HFl
    go_wp2_with fail
    rw [rounds_succ]
    go_wp2_with fail
    refine (as_num_fault n ⟨w2.heap.size, 0, none⟩ _ ((HG.out.below HB2.out).below ((Below.refl _ _).alloc (Nat.le_refl _) _))).mono ?_
    rintro e w3 ⟨rfl, hb⟩
    have HB3 := Lib.hid ((HB2.out.alloc HB2.out.size (.cells #[.pointer none] 84)).trans (hb.mono (by have := HB2.out.size; simp; omega)))
    have HX3 := Lib.hid ((HX2.out.alloc (.cells #[.pointer none] 84)).below hb (by simp; omega))
    have HF3 := Lib.hid ((HF2.out.alloc (.cells #[.pointer none] 84)).below hb (by simp; omega))
    clear hb HX2 HF2 HB2 q0 q1 q2 q3 q4 q5
    have lx3 := HX3.out.lt
    have lf3 := HF3.out.lt
    go_wp2_with fail
    refine (as_fault_errno g n w3.heap.size (.int .i64 0) _ ((HG.out.below HB3.out).below ((Below.refl _ _).alloc (Nat.le_refl _) _)) (Cells.new w3 61 [.int .i64 0]) ((HF3.out.alloc _).cell (i := 2) rfl)).mono ?_
    rintro e w4 ⟨rfl, hc, ho⟩
    have HB4 := Lib.hid ((HB3.out.alloc HB3.out.size (.cells #[.int .i64 0] 61)).trans (ho.below (by have := HB3.out.size; simp; omega) (fun x hx => by simp at hx; have := HB3.out.size; omega)))
    have HX4 := Lib.hid ((HX3.out.alloc (.cells #[.int .i64 0] 61)).kept ho (by simp; omega))
    have HF4 := Lib.hid ((HF3.out.alloc (.cells #[.int .i64 0] 61)).kept ho (by simp; omega))
    have c0 := HX4.out.cell (i := 0) rfl
    have c2 : w4.cell? ⟨w3.heap.size, 0, none⟩ = some (.int .i64 n) := hc.cell rfl
    clear hc ho HX3 HF3 HB3
    go_wp2_with fail
    go_loopg [11] 20 (fun g' vi wr => ∃ j : Int, vi = .int .i64 j ∧ 1 ≤ j ∧ j ≤ 21 ∧ g' = (21 - j).toNat ∧ Cells wr w.heap.size 36 [.int .i64 n, .slice (some ⟨pb, 0, none⟩) 1 1] ∧ Cells wr g 88 [.int .i64 k, .int .i64 i, errV n] ∧ Below w.heap.size w wr)
    case atStart => exact ⟨1, rfl, by omega, by omega, rfl, HX4.out, HF4.out, HB4.out⟩
    case round =>
      obtain ⟨j, rfl, hi1, hi2, hgg, hcs, hfs, hbl⟩ := hrel
      have GG := Lib.hid hgg
      have HCS := Lib.hid hcs
      have HFS := Lib.hid hfs
      have HBL := Lib.hid hbl
      have c0 : wr.cell? ⟨w.heap.size, 0, none⟩ = some (.int .i64 n) := hcs.cell rfl
      clear hgg hcs hfs hbl
      by_cases hi : j ≤ 20
      · have d0 : decide (j ≤ 20) = true := by simpa using hi
        by_cases hn : n = j
        · subst hn
          have hIs := fun W h => is_fault g n n W h
          simp only [beq_self_eq_true] at hIs
          go_wp2_with fail
          go_quiet ((go_at_call 41; exact Calls.quiet_of_same (hIs _ (HFS.out.cell (i := 2) rfl))))
          go_wp2_with fail
          go_roundg (21 - (n + 1)).toNat
          case measure => rw [GG.out]; omega
          case rel => exact ⟨n + 1, rfl, by omega, by omega, rfl, HCS.out, HFS.out, below_drewN HBL.out _⟩
        · have d1 : (n == j) = false := by simpa using hn
          have d2 : (j == n) = false := by rw [beq_eq_false_iff_ne]; exact fun e => hn e.symm
          have hIs := fun W h => is_fault g n j W h
          rw [d1] at hIs
          clear hn
          go_wp2_with fail
          go_quiet ((go_at_call 41; exact Calls.quiet_of_same (hIs _ (HFS.out.cell (i := 2) rfl))))
          go_wp2_with fail
          go_roundg (21 - (j + 1)).toNat
          case measure => rw [GG.out]; omega
          case rel => exact ⟨j + 1, rfl, by omega, by omega, rfl, HCS.out, HFS.out, below_drewN HBL.out _⟩
      · have d0 : decide (j ≤ 20) = false := by simpa using hi
        go_wp2
        go_returns
        exact ⟨rfl, HBL.out⟩
theorem same_any (x : EV) (v u : Value) (w : World) (hp : x.pos) (hg : EVar w) (hv : ErrIs w v x) (hu : ErrV w u x) : Calls Tryz.prog 15 #[v, u] w (BoolIs true w) := by
  cases x with
  | nil =>
    obtain rfl : v = .nilIface := hv
    obtain rfl : u = _ := hu
    exact same_nil w
  | code n =>
    obtain rfl : v = errV n := hv
    obtain rfl : u = _ := hu
    exact same_code n w hp.1 hp.2 hg
  | «at» k i n =>
    obtain ⟨g, rfl, hf⟩ := hv
    obtain ⟨b, rfl, hpl⟩ := hu
    exact same_at k i n g b w hp.1 hp.2 hg hf hpl
structure UX (A : HA) (h : HierD) (w wx : World) : Prop where
  x : Cells wx w.heap.size 25 (hierCells A h)
  b : Below w.heap.size w wx
theorem UX.below {A : HA} {h : HierD} {w wx wy : World} (k : UX A h w wx) (o : Below wx.heap.size wx wy) : UX A h w wy := ⟨k.x.below o k.x.lt, k.b.trans (o.mono k.b.size)⟩
structure UF (bf : Nat) (c : Int) (a : Option Addr) (n cap : Nat) (x : EV) (wx : World) : Prop where
  f : Cells wx bf 36 [.int .i64 c, .slice a n cap]
  v : ErrV wx (.agg #[.int .i64 c, .slice a n cap]) x
theorem UF.below {bf : Nat} {c : Int} {a : Option Addr} {n cap : Nat} {x : EV} {wx wy : World} (k : UF bf c a n cap x wx) (o : Below wx.heap.size wx wy) : UF bf c a n cap x wy := ⟨k.f.below o k.f.lt, k.v.below o⟩
end Go.Proofs.YtchhbgckonpedaaGreatDoor
namespace Go.Proofs.YtchhbgckonpedaaGreatDoor
open Go.Shelf Go.RowKit Go.Lib Go.Sort
set_option maxRecDepth 100000 in
def sortArcs_ren : Go.Shelf.Ren := ⟨fun | 6 => 88 | 15 => 107 | 14 => 106 | 28 => 131 | 29 => 132 | 20 => 123 | 21 => 124 | 22 => 125 | 23 => 126 | 24 => 127 | 25 => 128 | 26 => 129 | 27 => 130 | 46 => 142 | 47 => 143 | 48 => 144 | 49 => 145 | 50 => 146 | 57 => 153 | n => n,
  fun | 22 => 50 | 24 => 100 | 25 => 186 | 3 => 3 | 39 => 212 | 0 => 0 | 53 => 62 | 55 => 45 | 4 => 4 | 46 => 233 | 45 => 232 | 50 => 237 | 5 => 5 | 9 => 9 | 66 => 254 | 70 => 258 | 76 => 265 | 77 => 140 | n => n,
  fun | n => n⟩
set_option maxRecDepth 100000 in
theorem sortArcs : SlLaysF0.n6 Tryz.prog sortArcs_ren := {
  mixed := by kernel_rfl,
  f6 := ⟨Tryz.f88.name, by decide, Tryz.func88.trans (congrArg some (by kernel_rfl))⟩,
  f14 := ⟨Tryz.f106.name, by decide, Tryz.func106.trans (congrArg some (by kernel_rfl))⟩,
  f15 := Tryz.func107.trans (congrArg some (by kernel_rfl)),
  f20 := ⟨Tryz.f123.name, by decide, Tryz.func123.trans (congrArg some (by kernel_rfl))⟩,
  f21 := ⟨Tryz.f124.name, by decide, Tryz.func124.trans (congrArg some (by kernel_rfl))⟩,
  f22 := ⟨Tryz.f125.name, by decide, Tryz.func125.trans (congrArg some (by kernel_rfl))⟩,
  f23 := ⟨Tryz.f126.name, by decide, Tryz.func126.trans (congrArg some (by kernel_rfl))⟩,
  f24 := ⟨Tryz.f127.name, by decide, Tryz.func127.trans (congrArg some (by kernel_rfl))⟩,
  f25 := ⟨Tryz.f128.name, by decide, Tryz.func128.trans (congrArg some (by kernel_rfl))⟩,
  f26 := ⟨Tryz.f129.name, by decide, Tryz.func129.trans (congrArg some (by kernel_rfl))⟩,
  f27 := ⟨Tryz.f130.name, by decide, Tryz.func130.trans (congrArg some (by kernel_rfl))⟩,
  f28 := Tryz.func131.trans (congrArg some (by kernel_rfl)),
  f29 := Tryz.func132.trans (congrArg some (by kernel_rfl)),
  f46 := ⟨Tryz.f142.name, by decide, Tryz.func142.trans (congrArg some (by kernel_rfl))⟩,
  f47 := Tryz.func143.trans (congrArg some (by kernel_rfl)),
  f48 := Tryz.func144.trans (congrArg some (by kernel_rfl)),
  f49 := ⟨Tryz.f145.name, by decide, Tryz.func145.trans (congrArg some (by kernel_rfl))⟩,
  f50 := ⟨Tryz.f146.name, by decide, Tryz.func146.trans (congrArg some (by kernel_rfl))⟩,
  f57 := ⟨Tryz.f153.name, by decide, Tryz.func153.trans (congrArg some (by kernel_rfl))⟩,
  t0 := Tryz.underlying0,
  a0 := Tryz.isAgg0,
  z0 := Tryz.sizeOf0,
  v0 := Tryz.zeroValue0,
  t3 := Tryz.underlying3,
  a3 := Tryz.isAgg3,
  z3 := Tryz.sizeOf3,
  v3 := Tryz.zeroValue3,
  t4 := Tryz.underlying4,
  a4 := Tryz.isAgg4,
  z4 := Tryz.sizeOf4,
  v4 := Tryz.zeroValue4,
  t5 := Tryz.underlying5,
  a5 := Tryz.isAgg5,
  z5 := Tryz.sizeOf5,
  v5 := Tryz.zeroValue5,
  t9 := Tryz.underlying9,
  a9 := Tryz.isAgg9,
  z9 := Tryz.sizeOf9,
  v9 := Tryz.zeroValue9,
  t22 := Tryz.underlying50,
  a22 := Tryz.isAgg50,
  z22 := Tryz.sizeOf50,
  v22 := Tryz.zeroValue50,
  t25 := Tryz.underlying186,
  a25 := Tryz.isAgg186,
  z25 := Tryz.sizeOf186,
  v25 := Tryz.zeroValue186,
  t39 := Tryz.underlying212,
  a39 := Tryz.isAgg212,
  z39 := Tryz.sizeOf212,
  v39 := Tryz.zeroValue212,
  t45 := Tryz.underlying232,
  a45 := Tryz.isAgg232,
  z45 := Tryz.sizeOf232,
  v45 := Tryz.zeroValue232,
  t46 := Tryz.underlying233,
  a46 := Tryz.isAgg233,
  z46 := Tryz.sizeOf233,
  v46 := Tryz.zeroValue233,
  t50 := Tryz.underlying237,
  a50 := Tryz.isAgg237,
  z50 := Tryz.sizeOf237,
  v50 := Tryz.zeroValue237,
  t53 := Tryz.underlying62,
  a53 := Tryz.isAgg62,
  z53 := Tryz.sizeOf62,
  v53 := Tryz.zeroValue62,
  t55 := Tryz.underlying45,
  a55 := Tryz.isAgg45,
  z55 := Tryz.sizeOf45,
  v55 := Tryz.zeroValue45,
  t66 := Tryz.underlying254,
  a66 := Tryz.isAgg254,
  z66 := Tryz.sizeOf254,
  v66 := Tryz.zeroValue254,
  t70 := Tryz.underlying258,
  a70 := Tryz.isAgg258,
  z70 := Tryz.sizeOf258,
  v70 := Tryz.zeroValue258,
  t76 := Tryz.underlying265,
  a76 := Tryz.isAgg265,
  z76 := Tryz.sizeOf265,
  v76 := Tryz.zeroValue265,
  t77 := Tryz.underlying140,
  a77 := Tryz.isAgg140,
  z77 := Tryz.sizeOf140,
  v77 := Tryz.zeroValue140 }
end Go.Proofs.YtchhbgckonpedaaGreatDoor
