/- The contract of Turn's closure that turns a list of links. -/
import Derived.Test.YtjbphoophgbmiaaTurn1
namespace Go.Proofs.Ytjbphoophgbmiaa
open Go.ChangeShapes Go.WideShapes Go.ChangeAt Go.RowKit Go.Joins Go.Deep

theorem Try.infoLink : (Try.prog.info? 60).map (fun i => (i.zero, i.size, i.bytes)) = some (some (.agg #[.int .u32 0, .int .u64 0, .int .u32 0, .int .u32 0]), 4, 24) := by kernel_rfl
def LinksNew (l : List LinkD) (w : World) (e : Ending) (w' : World) : Prop :=
  ∃ ao cap, e = .returned (.slice ao l.length cap) ∧ w'.ownsRow 0 60 4 (.slice ao l.length cap) l.length (l.flatMap linkCells) ∧ (∀ k, (Value.slice ao l.length cap).ownBlock = some k → w.heap.size ≤ k) ∧ Below w.heap.size w w'

set_option maxRecDepth 100000 in
set_option maxHeartbeats 2000000 in
theorem turned_any (ups downs b5 b6 b7 : Nat) (l : List LinkD) (ao : Option Addr) (cap : Nat) (w : World) (see : See w ao cap linkCells 4 l) (h5 : w.cell? ⟨b5, 0, none⟩ = some (.int .u32 ups)) (h6 : w.cell? ⟨b6, 0, none⟩ = some (.int .u32 downs))
    (h7 : w.cell? ⟨b7, 0, none⟩ = some (.func (.func 23) #[] #[.pointer (some ⟨b5, 0, none⟩), .pointer (some ⟨b6, 0, none⟩)])) (hok : ∀ x ∈ l, x.ok) (hud : ups + downs ≤ 1048576) (hl : l.length ≤ 1048576) :
    Calls Try.prog 24 #[.slice ao l.length cap, .pointer (some ⟨b7, 0, none⟩)] w (LinksNew (l.map (turnLink ups downs)) w) := by
  have lb5 := block_lt h5
  have lb6 := block_lt h6
  have lb7 := block_lt h7
  have SEE := Lib.hid see
  have HOK := Lib.hid hok
  have H5 := Lib.hid h5
  have H6 := Lib.hid h6
  have H7 := Lib.hid h7
  clear see hok h5 h6 h7
  go_enter Try.func24, Try.ntmps24
  go_wp2_with fail
  go_loopg [4, 9] l.length (fun g vm vi wr => ∃ (k : Nat) (ao2 : Option Addr) (cap2 : Nat), vi = .int .i64 k ∧ k ≤ l.length ∧ g = l.length - k ∧ vm = .slice ao2 k cap2 ∧
    wr.ownsRow 0 60 4 (.slice ao2 k cap2) k (((l.take k).map (turnLink ups downs)).flatMap linkCells) ∧ (∀ b, (Value.slice ao2 k cap2).ownBlock = some b → w.heap.size ≤ b) ∧ Below w.heap.size w wr)
  case atStart => exact ⟨0, none, 0, rfl, Nat.zero_le _, rfl, rfl, World.ownsRow_nil _ _ _ _, by simp [Value.ownBlock], Below.refl _ _⟩
  case round =>
    obtain ⟨k, ao2, cap2, rfl, hk, hg, rfl, hown, hnew, hbl⟩ := hrel
    have HG := Lib.hid hg
    have HOWN := Lib.hid hown
    have HNEW := Lib.hid hnew
    have HBL := Lib.hid hbl
    have hz := hbl.size
    clear hg hown hnew hbl
    by_cases hkl : k < l.length
    · obtain ⟨x, hx⟩ : ∃ x, l[k]? = some x := ⟨_, List.getElem?_eq_getElem hkl⟩
      obtain ⟨b, o, ea, cc⟩ := (SEE.out.below HBL.out).cell k x hx
      have e0 := cc 0 _ rfl
      have e1 := cc 1 _ rfl
      have e2 := cc 2 _ rfl
      have e3 := cc 3 _ rfl
      rw [Nat.add_zero] at e0
      have lb := block_lt e0
      have h5 : wr.cell? ⟨b5, 0, none⟩ = some (.int .u32 ups) := ck HBL.out H5.out
      have h6 : wr.cell? ⟨b6, 0, none⟩ = some (.int .u32 downs) := ck HBL.out H6.out
      have h7 : wr.cell? ⟨b7, 0, none⟩ = some (.func (.func 23) #[] #[.pointer (some ⟨b5, 0, none⟩), .pointer (some ⟨b6, 0, none⟩)]) := ck HBL.out H7.out
      have hxo := HOK.out x (List.mem_of_getElem? hx)
      have x2 := hxo.2.2.1
      have x3 := hxo.2.2.2
      have lr5 : b5 < wr.heap.size := by omega
      have lr6 : b6 < wr.heap.size := by omega
      have lr7 : b7 < wr.heap.size := by omega
      have EA := Lib.hid ea
      have HX := Lib.hid hx
      clear ea cc hx hxo
      rw [EA.out]
      go_wp2_with fail
      have hcx := Cells.new wr 60 (linkCells x)
      have hbx : Below wr.heap.size wr (wr.alloc (.cells (linkCells x).toArray 60)) := (Below.refl _ _).alloc (Nat.le_refl _) _
      have hownx := HOWN.out.alloc (.cells (linkCells x).toArray 60)
      obtain ⟨wq, hwq⟩ : ∃ wq, wr.alloc (.cells #[.int .u32 x.to, .int .u64 x.wt, .int .u32 x.left, .int .u32 x.right] 60) = wq := ⟨_, rfl⟩
      rw [show (linkCells x).toArray = #[.int .u32 x.to, .int .u64 x.wt, .int .u32 x.left, .int .u32 x.right] from rfl, hwq] at hbx hownx
      rw [show wr.alloc (.cells (linkCells x).toArray 60) = wq from hwq] at hcx
      rw [hwq]
      have q5 := ck hbx h5
      have q6 := ck hbx h6
      have q7 := ck hbx h7
      have v0 : wq.cell? ⟨wr.heap.size, 0, none⟩ = some (.int .u32 x.to) := hcx.cell rfl
      have v1 : wq.cell? ⟨wr.heap.size, 1, none⟩ = some (.int .u64 x.wt) := hcx.cell rfl
      have v2 : wq.cell? ⟨wr.heap.size, 2, none⟩ = some (.int .u32 x.left) := hcx.cell rfl
      have v3 : wq.cell? ⟨wr.heap.size, 3, none⟩ = some (.int .u32 x.right) := hcx.cell rfl
      have f2 := hcx.frozen 2
      have f3 := hcx.frozen 3
      have lq := hcx.lt
      have HCX := Lib.hid hcx
      have HBX := Lib.hid hbx
      have HOX := Lib.hid hownx
      clear hcx hbx hownx hwq h5 h6 h7 e0 e1 e2 e3
      go_still_tail 9, (by kernel_rfl)
      still_call (child_any ups downs x.right b5 b6 _ q5 q6 x3 (fun h => by omega))
      repeat still_step
      still_call (child_any ups downs x.left b5 b6 _ q5 q6 x2 (fun h => by omega))
      repeat still_step
      refine wpStill_nil ?_
      have hz3 : w.heap.size ≤ wq.heap.size := by omega
      have hB3 := HBL.out.trans (HBX.out.mono hz)
      have hkm : k ≤ 1048576 := by omega
      generalize hcl : childOf ups downs x.left = cl
      generalize hcr : childOf ups downs x.right = cr
      have HCL := Lib.hid hcl
      have HCR := Lib.hid hcr
      clear hcl hcr
      go_wp2_with (at_builtin; refine wpList_app _ rfl _ _ 23 rfl 60 (.agg #[.int .u32 0, .int .u64 0, .int .u32 0, .int .u32 0]) 4 24 Try.underlying23 Try.infoLink rfl (by decide) (.slice ao2 k cap2) k (((l.take k).map (turnLink ups downs)).flatMap linkCells) rfl ?own ⟨wq.heap.size, 0, none⟩ 1 1 (linkCells ⟨x.to, x.wt, cr, cl⟩) rfl rfl ?c1 ?c2 ?c3 ?c4 ?_)
      case own =>
        refine own_kept (bs := [wr.heap.size]) HOX.out ((((Only.refl _ wq).setCell (.inl (by simp)) _).setCell (.inl (by simp)) _).alloc _).drew (fun q hq => ?_)
        have := (HOWN.out.lt q hq).2
        simp
        omega
      case c1 =>
        have hzs : ((wq.setCell ⟨wr.heap.size, 2, none⟩ (.int .u32 cr)).setCell ⟨wr.heap.size, 3, none⟩ (.int .u32 cl)).heap.size = wq.heap.size := by simp [World.setCell]
        have := cells_new ((wq.setCell ⟨wr.heap.size, 2, none⟩ (.int .u32 cr)).setCell ⟨wr.heap.size, 3, none⟩ (.int .u32 cl)) 60 (linkCells ⟨x.to, x.wt, cr, cl⟩)
        rw [hzs] at this
        exact this
      case c2 => intro u hu; simp [linkCells] at hu; rcases hu with rfl | rfl | rfl | rfl <;> rfl
      case c3 => unfold maxLen; omega
      case c4 => omega
      intro ao5 cap5 w5 hown5 ho5 hk5
      have hbw := ((((hB3.setCell (p := ⟨wr.heap.size, 2, none⟩) hz (.int .u32 cr)).setCell (p := ⟨wr.heap.size, 3, none⟩) hz (.int .u32 cl)).alloc (by simp [World.setCell]; omega) (.cells #[.int .u32 x.to, .int .u64 x.wt, .int .u32 cr, .int .u32 cl] 60))).drew
      have hnew5 : ∀ x, (Value.slice ao5 (k + 1) cap5).ownBlock = some x → w.heap.size ≤ x := by
        intro x hx
        rcases hk5 x hx with h1 | h1
        · exact HNEW.out x h1
        · have := hbw.size; omega
      have hbl5 : Below w.heap.size w w5 := hbw.trans (ho5.below hbw.size (fun q hq => HNEW.out q (by simpa using hq)))
      have hf5 : ((l.take k).map (turnLink ups downs)).flatMap linkCells ++ linkCells (⟨x.to, x.wt, cr, cl⟩ : LinkD) = ((l.take (k + 1)).map (turnLink ups downs)).flatMap linkCells := by
        rw [List.take_add_one, HX.out, List.map_append, List.flatMap_append]
        simp [turnLink, HCL.out, HCR.out]
      rw [← List.map_take, hf5] at hown5
      have O5 := Lib.hid hown5
      have N5 := Lib.hid hnew5
      have B5 := Lib.hid hbl5
      clear hown5 ho5 hk5 hnew5 hbl5 hf5 hbw hB3
      go_wp2_with fail
      rw [← EA.out]
      go_roundg (l.length - (k + 1))
      case measure => rw [HG.out]; omega
      case rel => exact ⟨k + 1, ao5, cap5, by go_num, by omega, rfl, rfl, O5.out, N5.out, B5.out⟩
    · obtain rfl : k = l.length := by omega
      go_wp2
      go_returns
      refine ⟨ao2, cap2, by rw [List.length_map]; rfl, ?_, ?_, HBL.out⟩
      · rw [List.length_map]
        have := HOWN.out
        rw [List.take_length] at this
        exact this
      · rw [List.length_map]
        exact HNEW.out
end Go.Proofs.Ytjbphoophgbmiaa
