/- Contracts of package heap: up, down. -/
import Derived.Test.YtjbphoophgbmiaaHeap1
import Derived.StillTailTactics
namespace Go.Proofs.Ytjbphoophgbmiaa
open Go.ChangeShapes Go.WideShapes Go.ChangeAt Go.RowKit Go.Joins Go.Deep

set_option maxRecDepth 100000 in
theorem up_any {hb ab : Nat} {iv : Value} {s : HS} (i : Nat) (x : Item) (w : World) (h : HRep w hb iv ab s) (hx : s.1[i]? = some x) :
    Calls Try.prog 87 #[.pointer (some ⟨hb, 0, none⟩), .int .i64 i] w fun e w' => e = .returned (.tuple #[]) ∧ HRep w' hb iv ab (upP s i x) ∧ Only (hfoot hb iv ab) w w' := by
  have hi : i < s.1.length := (List.getElem?_eq_some_iff.1 hx).1
  obtain ⟨ib, cap, rfl, g0, g1, f0, f1, ne0, ne1, l1⟩ := h.item hx
  have h0 : w.cell? ⟨hb, 0, none⟩ = some (.slice (some ⟨ib, 0, none⟩) s.1.length cap) := h.hd.cell rfl
  have l0 := h.hd.lt
  have hm := h.m
  have hid : x.2 < s.2.length := h.ids x (List.mem_of_getElem? hx)
  have H : Hid (HRep w hb (.slice (some ⟨ib, 0, none⟩) s.1.length cap) ab s) := h
  clear h
  have HX := Lib.hid hx
  clear hx
  go_enter Try.func87, Try.ntmps87
  go_wp2_with fail
  go_loopw [1, 5] (fun vi vp wr => ∃ (j : Nat) (s' : HS), vi = .int .i64 j ∧ j < s'.1.length ∧ s'.1.length = s.1.length ∧ s'.2.length = s.2.length ∧ HRep wr hb (.slice (some ⟨ib, 0, none⟩) s.1.length cap) ab s' ∧ upP s' j x = upP s i x ∧
      Cells wr w.heap.size 177 (itemCells x) ∧ Only (hfoot hb (.slice (some ⟨ib, 0, none⟩) s.1.length cap) ab) w wr) (fun vi _ _ => (intOf vi).toNat)
  case atStart =>
    exact ⟨i, s, rfl, hi, rfl, rfl, H.out.alloc _, rfl, Cells.new w _ _, (Only.refl _ _).alloc _⟩
  case round =>
    obtain ⟨j, s', rfl, hj, hs1, hs2, hr, hu, hc, ho⟩ := hrel
    have hs0 : wr.cell? ⟨w.heap.size, 0, none⟩ = some (.int .u64 x.1) := hc.cell rfl
    have hs1' : wr.cell? ⟨w.heap.size, 1, none⟩ = some (.int .u32 x.2) := hc.cell rfl
    have hh0 : wr.cell? ⟨hb, 0, none⟩ = some (.slice (some ⟨ib, 0, none⟩) s.1.length cap) := hr.hd.cell rfl
    have hl := hr.m
    by_cases hj0 : 0 < j
    · obtain ⟨q, hq, hq2⟩ : ∃ q : Nat, ((j : Int) - 1) / 4 = (q : Int) ∧ q = (j - 1) / 4 := ⟨(j - 1) / 4, by omega, rfl⟩
      have hqj : q < j := by omega
      obtain ⟨y, hy⟩ : ∃ y, s'.1[q]? = some y := ⟨_, List.getElem?_eq_getElem (by omega)⟩
      obtain ⟨y0, y1, -⟩ := hr.itemIn hy
      have HQ := Lib.hid hq
      have HQ2 := Lib.hid hq2
      have HY := Lib.hid hy
      have HU := Lib.hid hu
      have HR := Lib.hid hr
      have HC := Lib.hid hc
      have HO := Lib.hid ho
      have HS1 := Lib.hid hs1
      have HS2 := Lib.hid hs2
      have hql : q < s.1.length := by omega
      have hj2 : (1 : Int) ≤ j := by omega
      clear hq hq2 hy hu hr hc ho hs1 hs2
      go_wp2_with fail
      rw [HQ.out]
      go_still_tail 8, (by kernel_rfl)
      cases hlt : lt2 x y
      · go_wp2_with fail
        refine (less_any x y _).mono ?_
        rintro e w1 ⟨rfl, hg⟩
        have b0 := ck hg (show wr.drew.cell? _ = _ from hs0)
        have b1 := ck hg (show wr.drew.cell? _ = _ from hs1')
        have e1 : upP s' j x = putP s' j x := by
          rw [upP, if_pos hj0, ← HQ2.out, show itemAt s' q = y by simp [itemAt, HY.out], hlt]; simp
        have HE := Lib.hid e1
        have HG := Lib.hid hg
        clear e1 hg
        go_wp2_with fail
        refine (put_any j x _ ((HR.out.drew).below HG.out) hj (by rw [HS2.out]; exact hid)).mono ?_
        rintro e w2 ⟨rfl, hr2, ho2⟩
        go_wp2
        go_returns
        refine ⟨rfl, ?_, ?_⟩
        · rw [← HU.out, HE.out]; exact hr2
        · exact ((HO.out.drew).trans (Only.of_below (bs := []) HG.out) (by simp)).trans ho2 (fun _ h => .inl h)
      · go_wp2_with fail
        refine (less_any x y _).mono ?_
        rintro e w1 ⟨rfl, hg⟩
        have b0 := ck hg (show wr.drew.cell? _ = _ from y0)
        have b1 := ck hg (show wr.drew.cell? _ = _ from y1)
        have b2 := ck hg (show wr.drew.cell? _ = _ from hh0)
        have e1 : upP s' j x = upP (putP s' j y) q x := by
          rw [upP, if_pos hj0, ← HQ2.out, show itemAt s' q = y by simp [itemAt, HY.out], hlt]; simp
        have hyi : y.2 < s'.2.length := HR.out.ids y (List.mem_of_getElem? HY.out)
        have HE := Lib.hid e1
        have HG := Lib.hid hg
        clear e1 hg
        go_wp2_with fail
        refine (put_any j y _ ((HR.out.drew).below HG.out) hj hyi).mono ?_
        rintro e w2 ⟨rfl, hr2, ho2⟩
        have ho2' : Only (hfoot hb (.slice (some ⟨ib, 0, none⟩) s.1.length cap) ab) w w2 := ((HO.out.drew).trans (Only.of_below (bs := []) HG.out) (by simp)).trans ho2 (fun _ h => .inl h)
        have hc2 : Cells w2 w.heap.size 177 (itemCells x) := ((HC.out.drew).below HG.out (HC.out.lt)).kept ho2 (fun h => by have := H.out.lt _ h; omega)
        have HR2 := Lib.hid hr2
        have HO2 := Lib.hid ho2'
        have HC2 := Lib.hid hc2
        clear hr2 ho2 ho2' hc2
        go_wp2_with fail
        go_roundw
        case rel => exact ⟨q, putP s' j y, rfl, by rw [putP_length]; omega, by rw [putP_length, HS1.out], by rw [putP_length2, HS2.out], HR2.out, by rw [← HE.out, HU.out], HC2.out, HO2.out⟩
        case measure => simp [intOf]; omega
    · have e1 : upP s' j x = putP s' j x := by rw [upP, if_neg hj0]
      have HE := Lib.hid e1
      have HU := Lib.hid hu
      have HR := Lib.hid hr
      have HO := Lib.hid ho
      have HS2 := Lib.hid hs2
      clear e1 hu hr hc ho hs1 hs2
      go_wp2_with fail
      refine (put_any j x _ HR.out hj (by rw [HS2.out]; exact hid)).mono ?_
      rintro e w2 ⟨rfl, hr2, ho2⟩
      go_wp2
      go_returns
      refine ⟨rfl, ?_, HO.out.trans ho2 (fun _ h => .inl h)⟩
      rw [← HU.out, HE.out]; exact hr2
end Go.Proofs.Ytjbphoophgbmiaa
