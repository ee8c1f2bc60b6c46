/- The contracts of Turn's two closures. -/
import Derived.Test.YtjbphoophgbmiaaQuery4
import Derived.Test.YtjbphoophgbmiaaDistP
import Derived.Laws.Cover3
namespace Go.Proofs.Ytjbphoophgbmiaa
open Go.ChangeShapes Go.WideShapes Go.ChangeAt Go.RowKit Go.Joins Go.Deep

set_option maxRecDepth 100000 in
theorem child_any (ups downs i b5 b6 : Nat) (w : World) (h5 : w.cell? ⟨b5, 0, none⟩ = some (.int .u32 ups)) (h6 : w.cell? ⟨b6, 0, none⟩ = some (.int .u32 downs)) (hi : i < 4294967296) (hu : i < ups → i + downs < 4294967296) :
    Calls Try.prog 23 #[.int .u32 i, .pointer (some ⟨b5, 0, none⟩), .pointer (some ⟨b6, 0, none⟩)] w fun e w' => e = .returned (.int .u32 (childOf ups downs i : Nat)) ∧ w' = w := by
  by_cases h1 : i = 4294967295
  · have d1 : ((i : Int) == 4294967295) = true := by simp; omega
    have hc : childOf ups downs i = i := by unfold childOf; rw [if_pos h1]
    rw [hc]
    clear hc h1 hu
    go_enter Try.func23, Try.ntmps23
    go_wp2
    go_returns
    exact ⟨by first | rfl | (congr 1; congr 1; simp at d1; omega), rfl⟩
  · have d1 : ((i : Int) == 4294967295) = false := by simp; omega
    by_cases h2 : i < ups
    · have d2 : decide (i < ups) = true := by simpa using h2
      have hc : childOf ups downs i = i + downs := by unfold childOf; rw [if_neg h1, if_pos h2]
      have hb := hu h2
      rw [hc]
      clear hc h1 hu
      go_enter Try.func23, Try.ntmps23
      go_wp2
      go_returns
      refine ⟨ret_int ?_, rfl⟩
      first | omega | (show IntKind.u32.wrap _ = _; rw [IntWalk.u32_in _ (by omega) (by omega)]; omega)
    · have d2 : decide (i < ups) = false := by simpa using h2
      have hc : childOf ups downs i = i - ups := by unfold childOf; rw [if_neg h1, if_neg h2]
      rw [hc]
      clear hc h1 hu
      go_enter Try.func23, Try.ntmps23
      go_wp2
      go_returns
      refine ⟨ret_int ?_, rfl⟩
      first | omega | (show IntKind.u32.wrap _ = _; rw [IntWalk.u32_in _ (by omega) (by omega)]; omega)
end Go.Proofs.Ytjbphoophgbmiaa

/- The contract of Turn's closure that turns a list of links. -/
namespace Go.Proofs.Ytjbphoophgbmiaa
open Go.ChangeShapes Go.WideShapes Go.ChangeAt Go.RowKit Go.Joins Go.Deep

theorem Try.infoLink : (Try.prog.info? 60).map (fun i => (i.zero, i.size, i.bytes)) = some (some (.agg #[.int .u32 0, .int .u64 0, .int .u32 0, .int .u32 0]), 4, 24) := by kernel_rfl
def LinksNew (l : List LinkD) (w : World) (e : Ending) (w' : World) : Prop :=
  ∃ ao cap, e = .returned (.slice ao l.length cap) ∧ w'.ownsRow 0 60 4 (.slice ao l.length cap) l.length (l.flatMap linkCells) ∧ (∀ k, (Value.slice ao l.length cap).ownBlock = some k → w.heap.size ≤ k) ∧ Below w.heap.size w w'

set_option maxRecDepth 100000 in
set_option maxHeartbeats 2000000 in
theorem turned_any (ups downs b5 b6 b7 : Nat) (l : List LinkD) (ao : Option Addr) (cap : Nat) (w : World) (see : See w ao cap linkCells 4 l) (h5 : w.cell? ⟨b5, 0, none⟩ = some (.int .u32 ups)) (h6 : w.cell? ⟨b6, 0, none⟩ = some (.int .u32 downs))
    (h7 : w.cell? ⟨b7, 0, none⟩ = some (.func (.func 23) #[] #[.pointer (some ⟨b5, 0, none⟩), .pointer (some ⟨b6, 0, none⟩)])) (hok : ∀ x ∈ l, x.ok) (hud : ups + downs ≤ 1048576) (hl : l.length ≤ 1048576) :
    Calls Try.prog 24 #[.slice ao l.length cap, .pointer (some ⟨b7, 0, none⟩)] w (LinksNew (l.map (turnLink ups downs)) w) := by
  have lb5 := block_lt h5
  have lb6 := block_lt h6
  have lb7 := block_lt h7
  have SEE := Lib.hid see
  have HOK := Lib.hid hok
  have H5 := Lib.hid h5
  have H6 := Lib.hid h6
  have H7 := Lib.hid h7
  clear see hok h5 h6 h7
  go_enter Try.func24, Try.ntmps24
  go_wp2_with fail
  go_loopg [4, 9] l.length (fun g vm vi wr => ∃ (k : Nat) (ao2 : Option Addr) (cap2 : Nat), vi = .int .i64 k ∧ k ≤ l.length ∧ g = l.length - k ∧ vm = .slice ao2 k cap2 ∧
    wr.ownsRow 0 60 4 (.slice ao2 k cap2) k (((l.take k).map (turnLink ups downs)).flatMap linkCells) ∧ (∀ b, (Value.slice ao2 k cap2).ownBlock = some b → w.heap.size ≤ b) ∧ Below w.heap.size w wr)
  case atStart => exact ⟨0, none, 0, rfl, Nat.zero_le _, rfl, rfl, World.ownsRow_nil _ _ _ _, by simp [Value.ownBlock], Below.refl _ _⟩
  case round =>
    obtain ⟨k, ao2, cap2, rfl, hk, hg, rfl, hown, hnew, hbl⟩ := hrel
    have HG := Lib.hid hg
    have HOWN := Lib.hid hown
    have HNEW := Lib.hid hnew
    have HBL := Lib.hid hbl
    have hz := hbl.size
    clear hg hown hnew hbl
    by_cases hkl : k < l.length
    · obtain ⟨x, hx⟩ : ∃ x, l[k]? = some x := ⟨_, List.getElem?_eq_getElem hkl⟩
      obtain ⟨b, o, ea, cc⟩ := (SEE.out.below HBL.out).cell k x hx
      have e0 := cc 0 _ rfl
      have e1 := cc 1 _ rfl
      have e2 := cc 2 _ rfl
      have e3 := cc 3 _ rfl
      rw [Nat.add_zero] at e0
      have lb := block_lt e0
      have h5 : wr.cell? ⟨b5, 0, none⟩ = some (.int .u32 ups) := ck HBL.out H5.out
      have h6 : wr.cell? ⟨b6, 0, none⟩ = some (.int .u32 downs) := ck HBL.out H6.out
      have h7 : wr.cell? ⟨b7, 0, none⟩ = some (.func (.func 23) #[] #[.pointer (some ⟨b5, 0, none⟩), .pointer (some ⟨b6, 0, none⟩)]) := ck HBL.out H7.out
      have hxo := HOK.out x (List.mem_of_getElem? hx)
      have x2 := hxo.2.2.1
      have x3 := hxo.2.2.2
      have lr5 : b5 < wr.heap.size := by omega
      have lr6 : b6 < wr.heap.size := by omega
      have lr7 : b7 < wr.heap.size := by omega
      have EA := Lib.hid ea
      have HX := Lib.hid hx
      clear ea cc hx hxo
      rw [EA.out]
      go_wp2_with fail
      have hcx := Cells.new wr 60 (linkCells x)
      have hbx : Below wr.heap.size wr (wr.alloc (.cells (linkCells x).toArray 60)) := (Below.refl _ _).alloc (Nat.le_refl _) _
      have hownx := HOWN.out.alloc (.cells (linkCells x).toArray 60)
      obtain ⟨wq, hwq⟩ : ∃ wq, wr.alloc (.cells #[.int .u32 x.to, .int .u64 x.wt, .int .u32 x.left, .int .u32 x.right] 60) = wq := ⟨_, rfl⟩
      rw [show (linkCells x).toArray = #[.int .u32 x.to, .int .u64 x.wt, .int .u32 x.left, .int .u32 x.right] from rfl, hwq] at hbx hownx
      rw [show wr.alloc (.cells (linkCells x).toArray 60) = wq from hwq] at hcx
      rw [hwq]
      have q5 := ck hbx h5
      have q6 := ck hbx h6
      have q7 := ck hbx h7
      have v0 : wq.cell? ⟨wr.heap.size, 0, none⟩ = some (.int .u32 x.to) := hcx.cell rfl
      have v1 : wq.cell? ⟨wr.heap.size, 1, none⟩ = some (.int .u64 x.wt) := hcx.cell rfl
      have v2 : wq.cell? ⟨wr.heap.size, 2, none⟩ = some (.int .u32 x.left) := hcx.cell rfl
      have v3 : wq.cell? ⟨wr.heap.size, 3, none⟩ = some (.int .u32 x.right) := hcx.cell rfl
      have f2 := hcx.frozen 2
      have f3 := hcx.frozen 3
      have lq := hcx.lt
      have HCX := Lib.hid hcx
      have HBX := Lib.hid hbx
      have HOX := Lib.hid hownx
      clear hcx hbx hownx hwq h5 h6 h7 e0 e1 e2 e3
      go_still_tail 9, (by kernel_rfl)
      still_call (child_any ups downs x.right b5 b6 _ q5 q6 x3 (fun h => by omega))
      repeat still_step
      still_call (child_any ups downs x.left b5 b6 _ q5 q6 x2 (fun h => by omega))
      repeat still_step
      refine wpStill_nil ?_
      have hz3 : w.heap.size ≤ wq.heap.size := by omega
      have hB3 := HBL.out.trans (HBX.out.mono hz)
      have hkm : k ≤ 1048576 := by omega
      generalize hcl : childOf ups downs x.left = cl
      generalize hcr : childOf ups downs x.right = cr
      have HCL := Lib.hid hcl
      have HCR := Lib.hid hcr
      clear hcl hcr
      go_wp2_with (at_builtin; refine wpList_app _ rfl _ _ 23 rfl 60 (.agg #[.int .u32 0, .int .u64 0, .int .u32 0, .int .u32 0]) 4 24 Try.underlying23 Try.infoLink rfl (by decide) (.slice ao2 k cap2) k (((l.take k).map (turnLink ups downs)).flatMap linkCells) rfl ?own ⟨wq.heap.size, 0, none⟩ 1 1 (linkCells ⟨x.to, x.wt, cr, cl⟩) rfl rfl ?c1 ?c2 ?c3 ?c4 ?_)
      case own =>
        refine own_kept (bs := [wr.heap.size]) HOX.out ((((Only.refl _ wq).setCell (.inl (by simp)) _).setCell (.inl (by simp)) _).alloc _).drew (fun q hq => ?_)
        have := (HOWN.out.lt q hq).2
        simp
        omega
      case c1 =>
        have hzs : ((wq.setCell ⟨wr.heap.size, 2, none⟩ (.int .u32 cr)).setCell ⟨wr.heap.size, 3, none⟩ (.int .u32 cl)).heap.size = wq.heap.size := by simp [World.setCell]
        have := cells_new ((wq.setCell ⟨wr.heap.size, 2, none⟩ (.int .u32 cr)).setCell ⟨wr.heap.size, 3, none⟩ (.int .u32 cl)) 60 (linkCells ⟨x.to, x.wt, cr, cl⟩)
        rw [hzs] at this
        exact this
      case c2 => intro u hu; simp [linkCells] at hu; rcases hu with rfl | rfl | rfl | rfl <;> rfl
      case c3 => unfold maxLen; omega
      case c4 => omega
      intro ao5 cap5 w5 hown5 ho5 hk5
      have hbw := ((((hB3.setCell (p := ⟨wr.heap.size, 2, none⟩) hz (.int .u32 cr)).setCell (p := ⟨wr.heap.size, 3, none⟩) hz (.int .u32 cl)).alloc (by simp [World.setCell]; omega) (.cells #[.int .u32 x.to, .int .u64 x.wt, .int .u32 cr, .int .u32 cl] 60))).drew
      have hnew5 : ∀ x, (Value.slice ao5 (k + 1) cap5).ownBlock = some x → w.heap.size ≤ x := by
        intro x hx
        rcases hk5 x hx with h1 | h1
        · exact HNEW.out x h1
        · have := hbw.size; omega
      have hbl5 : Below w.heap.size w w5 := hbw.trans (ho5.below hbw.size (fun q hq => HNEW.out q (by simpa using hq)))
      have hf5 : ((l.take k).map (turnLink ups downs)).flatMap linkCells ++ linkCells (⟨x.to, x.wt, cr, cl⟩ : LinkD) = ((l.take (k + 1)).map (turnLink ups downs)).flatMap linkCells := by
        rw [List.take_add_one, HX.out, List.map_append, List.flatMap_append]
        simp [turnLink, HCL.out, HCR.out]
      rw [← List.map_take, hf5] at hown5
      have O5 := Lib.hid hown5
      have N5 := Lib.hid hnew5
      have B5 := Lib.hid hbl5
      clear hown5 ho5 hk5 hnew5 hbl5 hf5 hbw hB3
      go_wp2_with fail
      rw [← EA.out]
      go_roundg (l.length - (k + 1))
      case measure => rw [HG.out]; omega
      case rel => exact ⟨k + 1, ao5, cap5, by go_num, by omega, rfl, rfl, O5.out, N5.out, B5.out⟩
    · obtain rfl : k = l.length := by omega
      go_wp2
      go_returns
      refine ⟨ao2, cap2, by rw [List.length_map]; rfl, ?_, ?_, HBL.out⟩
      · rw [List.length_map]
        have := HOWN.out
        rw [List.take_length] at this
        exact this
      · rw [List.length_map]
        exact HNEW.out
end Go.Proofs.Ytjbphoophgbmiaa

/- The contract of slices.Clone at lists of words. -/
namespace Go.Proofs.Ytjbphoophgbmiaa
open Go.ChangeShapes Go.WideShapes Go.ChangeAt Go.RowKit Go.Joins Go.Deep

theorem Try.infoU32 : (Try.prog.info? 38).map (fun i => (i.zero, i.size, i.bytes)) = some (some (.int .u32 0), 1, 4) := by kernel_rfl
/-- A slice is nil, or has a place. -/
def SForm (ao : Option Addr) (cap : Nat) : Prop := (ao = none ∧ cap = 0) ∨ ∃ b o, ao = some ⟨b, o, none⟩
def WordsNew (l : List Nat) (w : World) (e : Ending) (w' : World) : Prop :=
  ∃ ao cap, e = .returned (.slice ao l.length cap) ∧ See w' ao cap u32Cells 1 l ∧ (SForm ao cap ∧ ∀ b o, ao = some ⟨b, o, none⟩ → w.heap.size ≤ b) ∧ Below w.heap.size w w'
theorem own_form2 {w : World} {base size n cap : Nat} {e : TypeId} {ao : Option Addr} {xs : List Value} (h : w.ownsRow base e size (.slice ao n cap) n xs) : SForm ao cap := by
  rcases h.2 with ⟨h1, -⟩ | ⟨g, c, cur, h1, -⟩
  · simp only [Value.slice.injEq] at h1
    exact .inl ⟨h1.1, h1.2.2⟩
  · simp only [Value.slice.injEq] at h1
    exact .inr ⟨g, 0, h1.1⟩

theorem run_eql_slice_nil {P : Program} (w : World) (t e : TypeId) (a : Option Addr) (l c : Nat) (h : P.underlying t = some (.slice e)) : (binOp .eql t (.slice a l c) (.slice none 0 0)).run P w = .ok (.bool a.isNone) w := by
  simp only [binOp]
  simp [run_equal_slice_nil w t e a l c h]

set_option maxRecDepth 100000 in
theorem clone_any (l : List Nat) (ao : Option Addr) (cap : Nat) (w : World) (see : See w ao cap u32Cells 1 l) (hf : SForm ao cap) (hl : l.length ≤ 1048577) :
    Calls Try.prog 25 #[.slice ao l.length cap] w (WordsNew l w) := by
  rcases hf with ⟨rfl, rfl⟩ | ⟨b, o, rfl⟩
  · have h0 : l = [] := List.eq_nil_of_length_eq_zero (by have := see.hcap; omega)
    subst h0
    clear see
    have hnl := fun W : World => run_eql_slice_nil (P := Try.prog) W 22 38 none 0 0 Try.underlying22
    simp only [Option.isNone_none] at hnl
    go_enter Try.func25, Try.ntmps25
    go_wp2
    go_returns
    exact ⟨none, 0, rfl, See.nil _ _ _, ⟨.inl ⟨rfl, rfl⟩, fun b o e => by cases e⟩, by go_grown⟩
  · have SEE := Lib.hid see
    clear see
    have hnl := fun W : World => run_eql_slice_nil (P := Try.prog) W 22 38 (some ⟨b, o, none⟩) l.length cap Try.underlying22
    simp only [Option.isNone_some] at hnl
    go_enter Try.func25, Try.ntmps25
    go_wp2_with (at_builtin; refine wpList_app _ rfl _ _ 22 rfl 38 (.int .u32 0) 1 4 Try.underlying22 Try.infoU32 rfl (by decide) (.slice (some ⟨w.heap.size, 0, none⟩) 0 0) 0 [] rfl ?own ⟨b, o, none⟩ l.length cap (l.flatMap u32Cells) rfl ?c0 ?c1 ?c2 ?c3 ?c4 ?_)
    case own => exact ⟨rfl, .inr ⟨w.heap.size, 0, #[], rfl, Nat.zero_le _, heap_alloc_new w _, Nat.le_refl _, Nat.zero_le _, rfl, rfl⟩⟩
    case c0 => exact flat_length u32Cells_len l
    case c1 =>
      intro j u hu
      have hg := flat_get u32Cells_len l j 0 (by omega)
      rw [Nat.mul_one, Nat.add_zero, hu] at hg
      cases hx : l[j]? with
      | none => rw [hx] at hg; cases hg
      | some x =>
        rw [hx] at hg
        obtain ⟨b', o', e, hc⟩ := (SEE.out.alloc (.cells #[] 38)).cell j x hx
        simp only [Option.some.injEq, Addr.mk.injEq, and_true] at e
        obtain ⟨rfl, rfl⟩ := e
        have := hc 0 u hg.symm
        rw [Nat.mul_one, Nat.add_zero] at this
        have e : (⟨b, o, none⟩ : Addr).add j = ⟨b, o + j, none⟩ := by unfold Addr.add; split <;> simp_all
        rw [e]
        exact this
    case c2 =>
      intro u hu
      rw [List.mem_flatMap] at hu
      obtain ⟨x, -, hu⟩ := hu
      simp [u32Cells] at hu
      subst hu
      rfl
    case c3 => unfold maxLen; omega
    case c4 => omega
    intro ao5 cap5 w5 hown5 ho5 hk5
    have hB := ((Below.refl w.heap.size w).alloc (Nat.le_refl _) (.cells #[] 38)).trans (ho5.below (by simp) (fun q hq => by simp [Value.ownBlock] at hq; omega))
    have hnew : ∀ b o, ao5 = some ⟨b, o, none⟩ → w.heap.size ≤ b := by
      intro b o e
      subst e
      rcases hk5 b rfl with h1 | h1
      · simp [Value.ownBlock] at h1; omega
      · omega
    have O5 := Lib.hid hown5
    have NW := Lib.hid hnew
    have B5 := Lib.hid hB
    clear hown5 ho5 hk5 hB hnl hnew
    go_wp2
    go_returns
    exact ⟨ao5, cap5, rfl, (See.of_own u32Cells_len (by simpa using O5.out) (by omega)).1, ⟨own_form2 (by simpa using O5.out), NW.out⟩, B5.out⟩
end Go.Proofs.Ytjbphoophgbmiaa

/- Each of a hierarchy's slices is nil, or has a place. -/
namespace Go.Proofs.Ytjbphoophgbmiaa

structure HForm (A : HA) : Prop where
  f0 : SForm A.a0 A.c0
  f1 : SForm A.a1 A.c1
  f2 : SForm A.a2 A.c2
  f3 : SForm A.a3 A.c3
  f4 : SForm A.a4 A.c4
end Go.Proofs.Ytjbphoophgbmiaa
