/- Contracts of package heap: down. -/
import Derived.Test.YtjbphoophgbmiaaHeap2
namespace Go.Proofs.Ytjbphoophgbmiaa
open Go.ChangeShapes Go.WideShapes Go.ChangeAt Go.RowKit Go.Joins Go.Deep

/-- The variable 'best': -1 for none. -/
def encB : Option Nat → Int
  | none => -1
  | some c => (c : Int)

set_option maxRecDepth 100000 in
set_option maxHeartbeats 1000000 in
theorem down_any {hb ab : Nat} {iv : Value} {s : HS} (i : Nat) (x : Item) (w : World) (h : HRep w hb iv ab s) (hx : s.1[i]? = some x) :
    Calls Try.prog 88 #[.pointer (some ⟨hb, 0, none⟩), .int .i64 i] w fun e w' => e = .returned (.tuple #[]) ∧ HRep w' hb iv ab (downP s i x) ∧ Only (hfoot hb iv ab) w w' := by
  have hi : i < s.1.length := (List.getElem?_eq_some_iff.1 hx).1
  obtain ⟨ib, cap, rfl, g0, g1, f0, f1, ne0, ne1, l1⟩ := h.item hx
  have h0 : w.cell? ⟨hb, 0, none⟩ = some (.slice (some ⟨ib, 0, none⟩) s.1.length cap) := h.hd.cell rfl
  have l0 := h.hd.lt
  have hm := h.m
  have hid : x.2 < s.2.length := h.ids x (List.mem_of_getElem? hx)
  have H : Hid (HRep w hb (.slice (some ⟨ib, 0, none⟩) s.1.length cap) ab s) := h
  clear h
  have HX := Lib.hid hx
  clear hx
  go_enter Try.func88, Try.ntmps88
  go_wp2_with fail
  go_loopw [1, 5] (fun vi vb wr => ∃ (j : Nat) (s' : HS), vi = .int .i64 j ∧ j < s.1.length ∧ s'.1.length = s.1.length ∧ s'.2.length = s.2.length ∧ HRep wr hb (.slice (some ⟨ib, 0, none⟩) s.1.length cap) ab s' ∧ downP s' j x = downP s i x ∧
      Cells wr w.heap.size 177 (itemCells x) ∧ Only (hfoot hb (.slice (some ⟨ib, 0, none⟩) s.1.length cap) ab) w wr) (fun vi _ _ => s.1.length - (intOf vi).toNat)
  case atStart =>
    exact ⟨i, s, rfl, hi, rfl, rfl, H.out.alloc _, rfl, Cells.new w _ _, (Only.refl _ _).alloc _⟩
  case round =>
    obtain ⟨j, s', rfl, hj, hs1, hs2, hr, hu, hc, ho⟩ := hrel
    have HU := Lib.hid hu
    have HR := Lib.hid hr
    have HC := Lib.hid hc
    have HO := Lib.hid ho
    have HS1 := Lib.hid hs1
    have HS2 := Lib.hid hs2
    clear hu hr hc ho hs1 hs2
    obtain ⟨wo, rfl⟩ : ∃ wo : World, wo = wr := ⟨_, rfl⟩
    go_wp2_with fail
    go_loopw [5, 15] (fun vb vk wi => ∃ (k : Nat) (b : Option Nat), vk = .int .i64 k ∧ k ≤ 4 ∧ vb = .int .i64 (encB b) ∧ bestTo s' j k = b ∧ HRep wi hb (.slice (some ⟨ib, 0, none⟩) s.1.length cap) ab s' ∧
      Cells wi w.heap.size 177 (itemCells x) ∧ Only (hfoot hb (.slice (some ⟨ib, 0, none⟩) s.1.length cap) ab) w wi) (fun _ vk _ => 4 - (intOf vk).toNat)
    case atStart => exact ⟨0, none, rfl, by omega, rfl, rfl, HR.out, HC.out, HO.out⟩
    case round =>
      obtain ⟨k, b, rfl, hk, rfl, hb1, hr, hc, ho⟩ := hrel
      have hh0 : wr.cell? ⟨hb, 0, none⟩ = some (.slice (some ⟨ib, 0, none⟩) s.1.length cap) := hr.hd.cell rfl
      have x0 : wr.cell? ⟨w.heap.size, 0, none⟩ = some (.int .u64 x.1) := hc.cell rfl
      have x1 : wr.cell? ⟨w.heap.size, 1, none⟩ = some (.int .u32 x.2) := hc.cell rfl
      have HRi := Lib.hid hr
      have HCi := Lib.hid hc
      have HOi := Lib.hid ho
      have HB1 := Lib.hid hb1
      clear hr hc ho hb1
      by_cases hk4 : k < 4
      · obtain ⟨c, hcc⟩ : ∃ c : Nat, (j : Int) * 4 + 1 + k = (c : Int) := ⟨j * 4 + 1 + k, by omega⟩
        have hcc2 : c = j * 4 + 1 + k := by omega
        have HCC := Lib.hid hcc
        have HCC2 := Lib.hid hcc2
        clear hcc hcc2
        by_cases hcl : c < s.1.length
        · cases b with
          | none =>
            have e1 : bestTo s' j (k + 1) = some c := by
              rw [bestTo, HB1.out, bestStep, ← HCC2.out, if_pos (by rw [HS1.out]; exact hcl)]
            have HE := Lib.hid e1
            clear e1
            have hd1 : decide (c < s.1.length) = true := by simpa using hcl
            have hbm : (encB none) = -1 := rfl
            rw [hbm]
            clear hbm
            go_wp2_with fail
            rw [HCC.out]
            go_quiet (fail)
            go_wp2_with fail
            go_roundw
            case rel => exact ⟨k + 1, some c, by go_num, by omega, rfl, HE.out, HRi.out.drewN _, HCi.out.drewN _, HOi.out.drewN _⟩
            case measure => simp [intOf]; omega
          | some d =>
            have hdl : d < s.1.length := by have := (bestTo_range s' j k d HB1.out).2; rw [HS1.out] at this; exact this
            obtain ⟨y, hy⟩ : ∃ y, s'.1[c]? = some y := ⟨_, List.getElem?_eq_getElem (by rw [HS1.out]; exact hcl)⟩
            obtain ⟨z, hz⟩ : ∃ z, s'.1[d]? = some z := ⟨_, List.getElem?_eq_getElem (by rw [HS1.out]; exact hdl)⟩
            obtain ⟨y0, y1, -⟩ := HRi.out.itemIn hy
            obtain ⟨z0, z1, -⟩ := HRi.out.itemIn hz
            have e1 : bestTo s' j (k + 1) = if lt2 y z then some c else some d := by
              rw [bestTo, HB1.out, bestStep, ← HCC2.out, if_pos (by rw [HS1.out]; exact hcl), show itemAt s' c = y by simp [itemAt, hy], show itemAt s' d = z by simp [itemAt, hz]]
            have HE := Lib.hid e1
            clear e1 hy hz
            have hd1 : decide (c < s.1.length) = true := by simpa using hcl
            have hbm : (encB (some d)) = (d : Int) := rfl
            rw [hbm]
            clear hbm
            have hd2 : decide ((d : Int) < 0) = false := by simp
            go_wp2_with fail
            rw [HCC.out]
            cases hlt : lt2 y z
            · go_still_tail 25, (by kernel_rfl)
              go_wp2_with fail
              refine (less_any y z _).mono ?_
              rintro e w1 ⟨rfl, hg⟩
              have HG := Lib.hid hg
              clear hg
              go_wp2_with fail
              go_roundw
              case rel => exact ⟨k + 1, some d, by go_num, by omega, rfl, by rw [HE.out, hlt]; rfl, (HRi.out.drew).below HG.out, (HCi.out.drew).below HG.out HCi.out.lt, (HOi.out.drew).trans (Only.of_below (bs := []) HG.out) (by simp)⟩
              case measure => simp [intOf]; omega
            · go_still_tail 25, (by kernel_rfl)
              go_wp2_with fail
              refine (less_any y z _).mono ?_
              rintro e w1 ⟨rfl, hg⟩
              have HG := Lib.hid hg
              clear hg
              go_wp2_with fail
              go_roundw
              case rel => exact ⟨k + 1, some c, by go_num, by omega, rfl, by rw [HE.out, hlt]; rfl, (HRi.out.drew).below HG.out, (HCi.out.drew).below HG.out HCi.out.lt, (HOi.out.drew).trans (Only.of_below (bs := []) HG.out) (by simp)⟩
              case measure => simp [intOf]; omega
        · have e1 : bestTo s' j (k + 1) = b := by
            rw [bestTo, HB1.out, bestStep.eq_def, ← HCC2.out, if_neg (by rw [HS1.out]; exact hcl)]
          have HE := Lib.hid e1
          clear e1
          have hd1 : decide (c < s.1.length) = false := by simpa using hcl
          go_wp2_with fail
          rw [HCC.out]
          go_quiet (fail)
          go_wp2_with fail
          go_roundw
          case rel => exact ⟨k + 1, b, by go_num, by omega, rfl, HE.out, HRi.out.drewN _, HCi.out.drewN _, HOi.out.drewN _⟩
          case measure => simp [intOf]; omega
      · obtain rfl : k = 4 := by omega
        cases b with
        | none =>
          have e1 : downP s' j x = putP s' j x := downP_none HB1.out
          have HE := Lib.hid e1
          clear e1
          have hbm : (encB none) = -1 := rfl
          rw [hbm]
          clear hbm
          go_wp2_with fail
          go_quiet (fail)
          go_wp2_with fail
          refine (put_any j x _ (HRi.out.drewN _) (by rw [HS1.out]; exact hj) (by rw [HS2.out]; exact hid)).mono ?_
          rintro e w2 ⟨rfl, hr2, ho2⟩
          go_wp2
          go_returns
          exact ⟨rfl, by rw [← HU.out, HE.out]; exact hr2, (HOi.out.drewN _).trans ho2 (fun _ h => .inl h)⟩
        | some d =>
          have hdr := bestTo_range s' j 4 d HB1.out
          have hdl : d < s.1.length := by have := hdr.2; rw [HS1.out] at this; exact this
          have hjd : j < d := hdr.1
          obtain ⟨z, hz⟩ : ∃ z, s'.1[d]? = some z := ⟨_, List.getElem?_eq_getElem (by rw [HS1.out]; exact hdl)⟩
          obtain ⟨z0, z1, -⟩ := HRi.out.itemIn hz
          have hzi : z.2 < s'.2.length := HRi.out.ids z (List.mem_of_getElem? hz)
          have e1 : downP s' j x = if lt2 z x then downP (putP s' j z) d x else putP s' j x := by
            rw [downP_some HB1.out, show itemAt s' d = z by simp [itemAt, hz]]
          have HE := Lib.hid e1
          clear e1 hz hdr
          have hbm : (encB (some d)) = (d : Int) := rfl
          rw [hbm]
          clear hbm
          have hd2 : decide ((d : Int) < 0) = false := by simp
          go_wp2_with fail
          cases hlt : lt2 z x
          · go_still_tail 11, (by kernel_rfl)
            go_wp2_with fail
            refine (less_any z x _).mono ?_
            rintro e w1 ⟨rfl, hg⟩
            have b0 := ck hg (show wr.drew.cell? _ = _ from x0)
            have b1 := ck hg (show wr.drew.cell? _ = _ from x1)
            have HG := Lib.hid hg
            clear hg
            go_wp2_with fail
            refine (put_any j x _ ((HRi.out.drew).below HG.out) (by rw [HS1.out]; exact hj) (by rw [HS2.out]; exact hid)).mono ?_
            rintro e w2 ⟨rfl, hr2, ho2⟩
            go_wp2
            go_returns
            exact ⟨rfl, by rw [← HU.out, HE.out, hlt]; exact hr2, ((HOi.out.drew).trans (Only.of_below (bs := []) HG.out) (by simp)).trans ho2 (fun _ h => .inl h)⟩
          · go_still_tail 11, (by kernel_rfl)
            go_wp2_with fail
            refine (less_any z x _).mono ?_
            rintro e w1 ⟨rfl, hg⟩
            have b0 := ck hg (show wr.drew.cell? _ = _ from z0)
            have b1 := ck hg (show wr.drew.cell? _ = _ from z1)
            have b2 := ck hg (show wr.drew.cell? _ = _ from hh0)
            have HG := Lib.hid hg
            clear hg
            go_wp2_with fail
            refine (put_any j z _ ((HRi.out.drew).below HG.out) (by rw [HS1.out]; exact hj) hzi).mono ?_
            rintro e w2 ⟨rfl, hr2, ho2⟩
            have hc2 : Cells w2 w.heap.size 177 (itemCells x) := ((HCi.out.drew).below HG.out (HCi.out.lt)).kept ho2 (fun h => by have := H.out.lt _ h; omega)
            have HR2 := Lib.hid hr2
            have HO2 := Lib.hid (((HOi.out.drew).trans (Only.of_below (bs := []) HG.out) (by simp)).trans ho2 (fun _ h => .inl h))
            have HC2 := Lib.hid hc2
            clear hr2 ho2 hc2
            go_wp2_with fail
            go_roundw
            case rel => exact ⟨d, putP s' j z, rfl, hdl, by rw [putP_length, HS1.out], by rw [putP_length2, HS2.out], HR2.out, by rw [← HU.out, HE.out, hlt]; rfl, HC2.out, HO2.out⟩
            case measure => simp [intOf]; omega
end Go.Proofs.Ytjbphoophgbmiaa
