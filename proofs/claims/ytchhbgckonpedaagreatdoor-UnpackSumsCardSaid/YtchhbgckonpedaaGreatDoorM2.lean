/- Contracts of package heap: down. -/
import Derived.Test.YtchhbgckonpedaaGreatDoorM1
namespace Go.Proofs.YtchhbgckonpedaaGreatDoor
open Go.ChangeShapes Go.WideShapes Go.ChangeAt Go.RowKit Go.Joins Go.Deep

/-- The variable 'best': -1 for none. -/
def encB : Option Nat → Int
  | none => -1
  | some c => (c : Int)

set_option maxRecDepth 100000 in
set_option maxHeartbeats 1000000 in
theorem down_any {hb ab : Nat} {iv : Value} {s : HS} (i : Nat) (x : Item) (w : World) (h : HRep w hb iv ab s) (hx : s.1[i]? = some x) :
    Calls Tryz.prog 152 #[.pointer (some ⟨hb, 0, none⟩), .int .i64 i] w fun e w' => e = .returned (.tuple #[]) ∧ HRep w' hb iv ab (downP s i x) ∧ Only (hfoot hb iv ab) w w' := by
  have hi : i < s.1.length := (List.getElem?_eq_some_iff.1 hx).1
  obtain ⟨ib, cap, rfl, g0, g1, f0, f1, ne0, ne1, l1⟩ := h.item hx
  have h0 : w.cell? ⟨hb, 0, none⟩ = some (.slice (some ⟨ib, 0, none⟩) s.1.length cap) := h.hd.cell rfl
  have l0 := h.hd.lt
  have hm := h.m
  have hid : x.2 < s.2.length := h.ids x (List.mem_of_getElem? hx)
  have H : Hid (HRep w hb (.slice (some ⟨ib, 0, none⟩) s.1.length cap) ab s) := h
  clear h
  have HX := Lib.hid hx
  clear hx
  go_enter Tryz.func152, Tryz.ntmps152
  go_wp2_with fail
  go_loopw [1, 5] (fun vi vb wr => ∃ (j : Nat) (s' : HS), vi = .int .i64 j ∧ j < s.1.length ∧ s'.1.length = s.1.length ∧ s'.2.length = s.2.length ∧ HRep wr hb (.slice (some ⟨ib, 0, none⟩) s.1.length cap) ab s' ∧ downP s' j x = downP s i x ∧
      Cells wr w.heap.size 250 (itemCells x) ∧ Only (hfoot hb (.slice (some ⟨ib, 0, none⟩) s.1.length cap) ab) w wr) (fun vi _ _ => s.1.length - (intOf vi).toNat)
  case atStart =>
    exact ⟨i, s, rfl, hi, rfl, rfl, H.out.alloc _, rfl, Cells.new w _ _, (Only.refl _ _).alloc _⟩
  case round =>
    obtain ⟨j, s', rfl, hj, hs1, hs2, hr, hu, hc, ho⟩ := hrel
    have HU := Lib.hid hu
    have HR := Lib.hid hr
    have HC := Lib.hid hc
    have HO := Lib.hid ho
    have HS1 := Lib.hid hs1
    have HS2 := Lib.hid hs2
    clear hu hr hc ho hs1 hs2
    obtain ⟨wo, rfl⟩ : ∃ wo : World, wo = wr := ⟨_, rfl⟩
    go_wp2_with fail
    go_loopw [5, 15] (fun vb vk wi => ∃ (k : Nat) (b : Option Nat), vk = .int .i64 k ∧ k ≤ 4 ∧ vb = .int .i64 (encB b) ∧ bestTo s' j k = b ∧ HRep wi hb (.slice (some ⟨ib, 0, none⟩) s.1.length cap) ab s' ∧
      Cells wi w.heap.size 250 (itemCells x) ∧ Only (hfoot hb (.slice (some ⟨ib, 0, none⟩) s.1.length cap) ab) w wi) (fun _ vk _ => 4 - (intOf vk).toNat)
    case atStart => exact ⟨0, none, rfl, by omega, rfl, rfl, HR.out, HC.out, HO.out⟩
    case round =>
      obtain ⟨k, b, rfl, hk, rfl, hb1, hr, hc, ho⟩ := hrel
      have hh0 : wr.cell? ⟨hb, 0, none⟩ = some (.slice (some ⟨ib, 0, none⟩) s.1.length cap) := hr.hd.cell rfl
      have x0 : wr.cell? ⟨w.heap.size, 0, none⟩ = some (.int .u64 x.1) := hc.cell rfl
      have x1 : wr.cell? ⟨w.heap.size, 1, none⟩ = some (.int .u32 x.2) := hc.cell rfl
      have HRi := Lib.hid hr
      have HCi := Lib.hid hc
      have HOi := Lib.hid ho
      have HB1 := Lib.hid hb1
      clear hr hc ho hb1
      by_cases hk4 : k < 4
      · obtain ⟨c, hcc⟩ : ∃ c : Nat, (j : Int) * 4 + 1 + k = (c : Int) := ⟨j * 4 + 1 + k, by omega⟩
        have hcc2 : c = j * 4 + 1 + k := by omega
        have HCC := Lib.hid hcc
        have HCC2 := Lib.hid hcc2
        clear hcc hcc2
        by_cases hcl : c < s.1.length
        · cases b with
          | none =>
            have e1 : bestTo s' j (k + 1) = some c := by
              rw [bestTo, HB1.out, bestStep, ← HCC2.out, if_pos (by rw [HS1.out]; exact hcl)]
            have HE := Lib.hid e1
            clear e1
            have hd1 : decide (c < s.1.length) = true := by simpa using hcl
            have hbm : (encB none) = -1 := rfl
            rw [hbm]
            clear hbm
            go_wp2_with fail
            rw [HCC.out]
            go_quiet (fail)
            go_wp2_with fail
            go_roundw
            case rel => exact ⟨k + 1, some c, by go_num, by omega, rfl, HE.out, HRi.out.drewN _, HCi.out.drewN _, HOi.out.drewN _⟩
            case measure => simp [intOf]; omega
          | some d =>
            have hdl : d < s.1.length := by have := (bestTo_range s' j k d HB1.out).2; rw [HS1.out] at this; exact this
            obtain ⟨y, hy⟩ : ∃ y, s'.1[c]? = some y := ⟨_, List.getElem?_eq_getElem (by rw [HS1.out]; exact hcl)⟩
            obtain ⟨z, hz⟩ : ∃ z, s'.1[d]? = some z := ⟨_, List.getElem?_eq_getElem (by rw [HS1.out]; exact hdl)⟩
            obtain ⟨y0, y1, -⟩ := HRi.out.itemIn hy
            obtain ⟨z0, z1, -⟩ := HRi.out.itemIn hz
            have e1 : bestTo s' j (k + 1) = if lt2 y z then some c else some d := by
              rw [bestTo, HB1.out, bestStep, ← HCC2.out, if_pos (by rw [HS1.out]; exact hcl), show itemAt s' c = y by simp [itemAt, hy], show itemAt s' d = z by simp [itemAt, hz]]
            have HE := Lib.hid e1
            clear e1 hy hz
            have hd1 : decide (c < s.1.length) = true := by simpa using hcl
            have hbm : (encB (some d)) = (d : Int) := rfl
            rw [hbm]
            clear hbm
            have hd2 : decide ((d : Int) < 0) = false := by simp
            go_wp2_with fail
            rw [HCC.out]
            cases hlt : lt2 y z
            · go_still_tail 25, (by kernel_rfl)
              go_wp2_with fail
              refine (less_any y z _).mono ?_
              rintro e w1 ⟨rfl, hg⟩
              have HG := Lib.hid hg
              clear hg
              go_wp2_with fail
              go_roundw
              case rel => exact ⟨k + 1, some d, by go_num, by omega, rfl, by rw [HE.out, hlt]; rfl, (HRi.out.drew).below HG.out, (HCi.out.drew).below HG.out HCi.out.lt, (HOi.out.drew).trans (Only.of_below (bs := []) HG.out) (by simp)⟩
              case measure => simp [intOf]; omega
            · go_still_tail 25, (by kernel_rfl)
              go_wp2_with fail
              refine (less_any y z _).mono ?_
              rintro e w1 ⟨rfl, hg⟩
              have HG := Lib.hid hg
              clear hg
              go_wp2_with fail
              go_roundw
              case rel => exact ⟨k + 1, some c, by go_num, by omega, rfl, by rw [HE.out, hlt]; rfl, (HRi.out.drew).below HG.out, (HCi.out.drew).below HG.out HCi.out.lt, (HOi.out.drew).trans (Only.of_below (bs := []) HG.out) (by simp)⟩
              case measure => simp [intOf]; omega
        · have e1 : bestTo s' j (k + 1) = b := by
            rw [bestTo, HB1.out, bestStep.eq_def, ← HCC2.out, if_neg (by rw [HS1.out]; exact hcl)]
          have HE := Lib.hid e1
          clear e1
          have hd1 : decide (c < s.1.length) = false := by simpa using hcl
          go_wp2_with fail
          rw [HCC.out]
          go_quiet (fail)
          go_wp2_with fail
          go_roundw
          case rel => exact ⟨k + 1, b, by go_num, by omega, rfl, HE.out, HRi.out.drewN _, HCi.out.drewN _, HOi.out.drewN _⟩
          case measure => simp [intOf]; omega
      · obtain rfl : k = 4 := by omega
        cases b with
        | none =>
          have e1 : downP s' j x = putP s' j x := downP_none HB1.out
          have HE := Lib.hid e1
          clear e1
          have hbm : (encB none) = -1 := rfl
          rw [hbm]
          clear hbm
          go_wp2_with fail
          go_quiet (fail)
          go_wp2_with fail
          refine (put_any j x _ (HRi.out.drewN _) (by rw [HS1.out]; exact hj) (by rw [HS2.out]; exact hid)).mono ?_
          rintro e w2 ⟨rfl, hr2, ho2⟩
          go_wp2
          go_returns
          exact ⟨rfl, by rw [← HU.out, HE.out]; exact hr2, (HOi.out.drewN _).trans ho2 (fun _ h => .inl h)⟩
        | some d =>
          have hdr := bestTo_range s' j 4 d HB1.out
          have hdl : d < s.1.length := by have := hdr.2; rw [HS1.out] at this; exact this
          have hjd : j < d := hdr.1
          obtain ⟨z, hz⟩ : ∃ z, s'.1[d]? = some z := ⟨_, List.getElem?_eq_getElem (by rw [HS1.out]; exact hdl)⟩
          obtain ⟨z0, z1, -⟩ := HRi.out.itemIn hz
          have hzi : z.2 < s'.2.length := HRi.out.ids z (List.mem_of_getElem? hz)
          have e1 : downP s' j x = if lt2 z x then downP (putP s' j z) d x else putP s' j x := by
            rw [downP_some HB1.out, show itemAt s' d = z by simp [itemAt, hz]]
          have HE := Lib.hid e1
          clear e1 hz hdr
          have hbm : (encB (some d)) = (d : Int) := rfl
          rw [hbm]
          clear hbm
          have hd2 : decide ((d : Int) < 0) = false := by simp
          go_wp2_with fail
          cases hlt : lt2 z x
          · go_still_tail 11, (by kernel_rfl)
            go_wp2_with fail
            refine (less_any z x _).mono ?_
            rintro e w1 ⟨rfl, hg⟩
            have b0 := ck hg (show wr.drew.cell? _ = _ from x0)
            have b1 := ck hg (show wr.drew.cell? _ = _ from x1)
            have HG := Lib.hid hg
            clear hg
            go_wp2_with fail
            refine (put_any j x _ ((HRi.out.drew).below HG.out) (by rw [HS1.out]; exact hj) (by rw [HS2.out]; exact hid)).mono ?_
            rintro e w2 ⟨rfl, hr2, ho2⟩
            go_wp2
            go_returns
            exact ⟨rfl, by rw [← HU.out, HE.out, hlt]; exact hr2, ((HOi.out.drew).trans (Only.of_below (bs := []) HG.out) (by simp)).trans ho2 (fun _ h => .inl h)⟩
          · go_still_tail 11, (by kernel_rfl)
            go_wp2_with fail
            refine (less_any z x _).mono ?_
            rintro e w1 ⟨rfl, hg⟩
            have b0 := ck hg (show wr.drew.cell? _ = _ from z0)
            have b1 := ck hg (show wr.drew.cell? _ = _ from z1)
            have b2 := ck hg (show wr.drew.cell? _ = _ from hh0)
            have HG := Lib.hid hg
            clear hg
            go_wp2_with fail
            refine (put_any j z _ ((HRi.out.drew).below HG.out) (by rw [HS1.out]; exact hj) hzi).mono ?_
            rintro e w2 ⟨rfl, hr2, ho2⟩
            have hc2 : Cells w2 w.heap.size 250 (itemCells x) := ((HCi.out.drew).below HG.out (HCi.out.lt)).kept ho2 (fun h => by have := H.out.lt _ h; omega)
            have HR2 := Lib.hid hr2
            have HO2 := Lib.hid (((HOi.out.drew).trans (Only.of_below (bs := []) HG.out) (by simp)).trans ho2 (fun _ h => .inl h))
            have HC2 := Lib.hid hc2
            clear hr2 ho2 hc2
            go_wp2_with fail
            go_roundw
            case rel => exact ⟨d, putP s' j z, rfl, hdl, by rw [putP_length, HS1.out], by rw [putP_length2, HS2.out], HR2.out, by rw [← HU.out, HE.out, hlt]; rfl, HC2.out, HO2.out⟩
            case measure => simp [intOf]; omega
end Go.Proofs.YtchhbgckonpedaaGreatDoor

/- Contracts of package heap: check, Key, Top, New. -/
namespace Go.Proofs.YtchhbgckonpedaaGreatDoor
open Go.ChangeShapes Go.WideShapes Go.ChangeAt Go.RowKit Go.Joins Go.Deep

theorem check_any {hb ab : Nat} {iv : Value} {s : HS} (id : Nat) (w : World) (h : HRep w hb iv ab s) (hid : id < s.2.length) :
    Calls Tryz.prog 149 #[.pointer (some ⟨hb, 0, none⟩), .int .u32 id] w fun e w' => e = .returned .nilIface ∧ w = w' := by
  have h1 : w.cell? ⟨hb, 1, none⟩ = some (.slice (some ⟨ab, 0, none⟩) s.2.length s.2.length) := h.hd.cell rfl
  have hn := h.n
  have hd : decide (s.2.length ≤ id) = false := by simp; omega
  clear h
  go_enter Tryz.func149, Tryz.ntmps149
  go_wp2
  go_returns
  exact ⟨rfl, rfl⟩

/-- What Key answers. -/
def keyVal : Option Int → Value
  | some k => .tuple #[.int .u64 k, .bool true]
  | none => .tuple #[.int .u64 0, .bool false]

set_option maxRecDepth 100000 in
theorem key_any {hb ab : Nat} {iv : Value} {s : HS} (id : Nat) (w : World) (h : HRep w hb iv ab s) (g : Good s) (hid : id < s.2.length) :
    Calls Tryz.prog 141 #[.pointer (some ⟨hb, 0, none⟩), .int .u32 id] w fun e w' => e = .returned (keyVal (keyOf s id)) ∧ Below w.heap.size w w' := by
  obtain ⟨pl, hpl⟩ : ∃ pl, s.2[id]? = some pl := ⟨_, List.getElem?_eq_getElem hid⟩
  have h1 : w.cell? ⟨hb, 1, none⟩ = some (.slice (some ⟨ab, 0, none⟩) s.2.length s.2.length) := h.hd.cell rfl
  have hn := h.n
  have hp := (h.place hid).1
  rw [getD_some hpl] at hp
  cases pl with
  | zero =>
    have e1 : keyOf s id = none := by simp [keyOf, hpl]
    rw [e1]
    clear hpl e1
    go_enter Tryz.func141, Tryz.ntmps141
    go_wp2_with fail
    refine (check_any id _ h hid).mono ?_
    rintro e w1 ⟨rfl, rfl⟩
    clear h
    go_wp2
    go_returns
    exact ⟨rfl, Below.refl _ _⟩
  | succ p =>
    obtain ⟨x, hx, hxd⟩ := g.wf.b id p hpl
    have hpl' := (List.getElem?_eq_some_iff.1 hx).1
    have e1 : keyOf s id = some x.1 := by rw [← hxd]; exact keyOf_at g.wf hx
    rw [e1]
    obtain ⟨ib, cap, rfl, g0, g1, -, -, -, -, -⟩ := h.item hx
    have h0 : w.cell? ⟨hb, 0, none⟩ = some (.slice (some ⟨ib, 0, none⟩) s.1.length cap) := h.hd.cell rfl
    have hm := h.m
    have eq1 : ((p : Int) + 1 == 0) = false := by rw [beq_eq_false_iff_ne]; omega
    have hp' : w.cell? ⟨ab, id, none⟩ = some (.int .i64 ((p : Int) + 1)) := hp
    clear hp
    clear hpl hx hxd e1
    go_enter Tryz.func141, Tryz.ntmps141
    go_wp2_with fail
    refine (check_any id _ h hid).mono ?_
    rintro e w1 ⟨rfl, rfl⟩
    clear h
    go_wp2
    go_quiet (fail)
    go_wp2
    go_returns
    exact ⟨rfl, below_draws _ _ _⟩

theorem top_any {hb ab : Nat} {iv : Value} {s : HS} (w : World) (h : HRep w hb iv ab s) :
    Calls Tryz.prog 117 #[.pointer (some ⟨hb, 0, none⟩)] w fun e w' => e = .returned (match s.1[0]? with | some x => .tuple #[.int .u32 x.2, .int .u64 x.1, .bool true] | none => .tuple #[.int .u32 0, .int .u64 0, .bool false]) ∧ Below w.heap.size w w' := by
  cases hx : s.1[0]? with
  | none =>
    have hl : s.1.length = 0 := by simpa using hx
    obtain ⟨ao, cap, rfl⟩ := own_form' h.its
    have h0 : w.cell? ⟨hb, 0, none⟩ = some (.slice ao s.1.length cap) := h.hd.cell rfl
    rw [hl] at h0
    clear h hx hl
    go_enter Tryz.func117, Tryz.ntmps117
    go_wp2
    go_returns
    exact ⟨rfl, Below.refl _ _⟩
  | some x =>
    have hl := (List.getElem?_eq_some_iff.1 hx).1
    obtain ⟨ib, cap, rfl, g0, g1, -, -, -, -, -⟩ := h.item hx
    have h0 : w.cell? ⟨hb, 0, none⟩ = some (.slice (some ⟨ib, 0, none⟩) s.1.length cap) := h.hd.cell rfl
    have hm := h.m
    have eq1 : ((s.1.length : Int) == 0) = false := by simp; intro e; simp [e] at hl
    rw [Nat.zero_mul] at g0 g1
    rw [Nat.zero_add] at g1
    clear h hx
    go_enter Tryz.func117, Tryz.ntmps117
    go_wp2
    go_quiet (fail)
    go_wp2
    go_returns
    exact ⟨rfl, below_draws _ _ _⟩

theorem Tryz.infoInt : (Tryz.prog.info? 3).map (fun i => (i.zero, i.size, i.bytes)) = some (some (.int .i64 0), 1, 8) := by kernel_rfl

/-- A new heap: without things. -/
theorem new_any (n : Nat) (hn : n ≤ 65536) (w : World) :
    Calls Tryz.prog 114 #[.int .i64 n] w fun e w' => e = .returned (.tuple #[.pointer (some ⟨w.heap.size + 1, 0, none⟩), .nilIface]) ∧ HRep w' (w.heap.size + 1) (.slice none 0 0) w.heap.size ([], List.replicate n 0) ∧ Below w.heap.size w w' := by
  have hmk := run_make_row' (P := Tryz.prog) 28 3 (.int .i64 0) 8 Tryz.underlying28 Tryz.infoInt rfl .i64 .i64 n (by omega) (by omega)
  go_enter Tryz.func114, Tryz.ntmps114
  go_wp2
  go_returns
  have em : madeCells #[Value.int .i64 0] n = (List.replicate n (Value.int .i64 0)).toArray := by
    rw [← toList_madeCells_one]
  refine ⟨rfl, ⟨?_, World.ownsRow_nil _ _ _ _, ?_, by simp, by simpa using hn, by simp, by simp, by simp [Value.ownBlock], by simp [Value.ownBlock]⟩, by go_grown⟩
  · have := Cells.new (w.alloc (.cells (madeCells #[Value.int .i64 0] n) 3)) 248 [.slice none 0 0, .slice (some ⟨w.heap.size, 0, none⟩) n n]
    simpa using this
  · have := (Cells.new w 3 (List.replicate n (Value.int .i64 0))).alloc (.cells #[.slice none 0 0, .slice (some ⟨w.heap.size, 0, none⟩) n n] 248)
    rw [em]
    simpa using this
end Go.Proofs.YtchhbgckonpedaaGreatDoor

/- Contracts of package heap: Set, Push. -/
namespace Go.Proofs.YtchhbgckonpedaaGreatDoor
open Go.ChangeShapes Go.WideShapes Go.ChangeAt Go.RowKit Go.Joins Go.Deep

theorem Tryz.infoItem : (Tryz.prog.info? 250).map (fun i => (i.zero, i.size, i.bytes)) = some (some (.agg #[.int .u64 0, .int .u32 0]), 2, 16) := by kernel_rfl

/-- The cells of a new block. -/
theorem cells_new (w : World) (t : TypeId) (l : List Value) : ∀ j u, l[j]? = some u → (w.alloc (.cells l.toArray t)).cell? ((⟨w.heap.size, 0, none⟩ : Addr).add j) = some u := by
  intro j u hu
  have e : (⟨w.heap.size, 0, none⟩ : Addr).add j = ⟨w.heap.size, j, none⟩ := by unfold Addr.add; split <;> simp_all
  rw [e]
  exact (Cells.new w t l).cell hu

/-- One item more, at the end. -/
theorem HRep.room {w w1 : World} {hb ab : Nat} {iv : Value} {s : HS} (h : HRep w hb iv ab s) {ao : Option Addr} {cap : Nat} (h0 : 0 < s.2.length) (hlen : s.1.length + 1 ≤ 65536)
    (ho : w1.ownsRow 0 250 2 (.slice ao (s.1.length + 1) cap) (s.1.length + 1) (s.1.flatMap itemCells ++ itemCells (0, 0))) (hw : Only iv.ownBlock.toList w w1)
    (hk : ∀ k, (Value.slice ao (s.1.length + 1) cap).ownBlock = some k → iv.ownBlock = some k ∨ w.heap.size ≤ k) :
    HRep (w1.setCell ⟨hb, 0, none⟩ (.slice ao (s.1.length + 1) cap)) hb (.slice ao (s.1.length + 1) cap) ab (s.1 ++ [(0, 0)], s.2) ∧ (∀ k ∈ hfoot hb (.slice ao (s.1.length + 1) cap) ab, k ∈ hfoot hb iv ab ∨ w.heap.size ≤ k) := by
  have n1 : ∀ k, (Value.slice ao (s.1.length + 1) cap).ownBlock = some k → k ≠ hb ∧ k ≠ ab := by
    intro k hk'
    rcases hk k hk' with h1 | h1
    · exact ⟨fun e => h.ne1 (by rw [h1, e]), fun e => h.ne2 (by rw [h1, e])⟩
    · have := h.hd.lt
      have := h.pl.lt
      exact ⟨by omega, by omega⟩
  have i1 : hb ∉ iv.ownBlock.toList := by simpa using h.ne1
  have i2 : ab ∉ iv.ownBlock.toList := by simpa using h.ne2
  refine ⟨⟨?_, ?_, ?_, ?_, h.n, by simpa using hlen, h.ne, fun e => (n1 _ e).1 rfl, fun e => (n1 _ e).2 rfl⟩, ?_⟩
  · exact (h.hd.kept hw i1).set 0 _
  · have : (s.1 ++ [(0, 0)]).flatMap itemCells = s.1.flatMap itemCells ++ itemCells (0, 0) := by simp
    simp only [List.length_append, List.length_cons, List.length_nil, Nat.zero_add]
    rw [this]
    exact Go.ownsRow_setCell_other ho (fun e => (n1 _ e).1 rfl) _
  · exact (h.pl.kept hw i2).other h.ne.symm _
  · intro x hx
    rcases List.mem_append.1 hx with hx | hx
    · exact h.ids x hx
    · simp only [List.mem_singleton] at hx
      subst hx
      exact h0
  · intro k hk'
    simp only [hfoot, List.mem_cons, Option.mem_toList] at hk' ⊢
    rcases hk' with rfl | rfl | hk'
    · exact .inl (.inl rfl)
    · exact .inl (.inr (.inl rfl))
    · rcases hk k hk' with h1 | h1
      · exact .inl (.inr (.inr h1))
      · exact .inr h1

/-- The same heap, its items laid anew perhaps. -/
def HNext (w w' : World) (hb ab : Nat) (iv : Value) (s' : HS) : Prop :=
  ∃ iv', HRep w' hb iv' ab s' ∧ Only (hfoot hb iv ab) w w' ∧ (∀ k ∈ hfoot hb iv' ab, k ∈ hfoot hb iv ab ∨ w.heap.size ≤ k)

theorem setP_mid {s : HS} (g : Good s) (id : Nat) (k : Int) (hid : id < s.2.length) : (upP (putP (roomP s id) (slotP s id) (k, id)) (slotP s id) (k, id)).2.length = s.2.length ∧
    ∀ j, (upP (putP (roomP s id) (slotP s id) (k, id)) (slotP s id) (k, id)).2.getD id 0 = j + 1 → (upP (putP (roomP s id) (slotP s id) (k, id)) (slotP s id) (k, id)).1[j]? = some (k, id) → setP s id k = downP (upP (putP (roomP s id) (slotP s id) (k, id)) (slotP s id) (k, id)) j (k, id) := by
  obtain ⟨-, -, hl2, -, -, -, -⟩ := setP_spec g id k hid
  refine ⟨?_, fun j h1 h2 => ?_⟩
  · rw [← hl2]
    simp only [setP, settleP, downP_length2 _ _ _ _ rfl]
  · simp only [setP, settleP, h1, Nat.add_sub_cancel, itemAt_eq h2]

set_option maxRecDepth 100000 in
set_option maxHeartbeats 1000000 in
theorem set_any {hb ab : Nat} {iv : Value} {s : HS} (id : Nat) (k : Int) (w : World) (h : HRep w hb iv ab s) (g : Good s) (hid : id < s.2.length) :
    Calls Tryz.prog 138 #[.pointer (some ⟨hb, 0, none⟩), .int .u32 id, .int .u64 k] w fun e w' => e = .returned .nilIface ∧ HNext w w' hb ab iv (setP s id k) := by
  obtain ⟨pl, hpl⟩ : ∃ pl, s.2[id]? = some pl := ⟨_, List.getElem?_eq_getElem hid⟩
  have h1 : w.cell? ⟨hb, 1, none⟩ = some (.slice (some ⟨ab, 0, none⟩) s.2.length s.2.length) := h.hd.cell rfl
  have hn := h.n
  have hp := (h.place hid).1
  rw [getD_some hpl] at hp
  obtain ⟨hg2, -, hl2, hsl, -, hl1, j, hj1, hj2⟩ := setP_spec g id k hid
  have hbd := hg2.wf.bound
  rw [hl1, hl2] at hbd
  cases pl with
  | zero =>
    have e1 : roomP s id = (s.1 ++ [((0 : Int), 0)], s.2) := by simp [roomP, hpl]
    have e2 : slotP s id = s.1.length := by simp [slotP, hpl]
    have hmid := setP_mid g id k hid
    rw [e1, e2] at hsl hj1 hj2 hmid
    have J1 := Lib.hid hj1
    have J2 := Lib.hid hj2
    have SL := Lib.hid hsl
    have UL := Lib.hid hmid.1
    have SE := Lib.hid (hmid.2 j hj1 hj2)
    have H := Lib.hid h
    have hm := h.m
    have hb2 : s.1.length + 1 ≤ 65536 := by rw [e1] at hbd; simp at hbd; omega
    obtain ⟨ao, cap, rfl⟩ := own_form' h.its
    have h0 : w.cell? ⟨hb, 0, none⟩ = some (.slice ao s.1.length cap) := h.hd.cell rfl
    have f0 := h.hd.frozen 0
    have l0 := h.hd.lt
    have its := Lib.hid h.its
    clear h hpl hsl e1 e2 hj1 hj2 hl1 hl2 hbd hg2 hmid
    go_enter Tryz.func138, Tryz.ntmps138
    go_wp2_with fail
    refine (check_any id _ H.out hid).mono ?_
    rintro e w1 ⟨rfl, rfl⟩
    go_wp2_with (at_builtin; refine wpList_app _ rfl _ _ 246 rfl 250 (.agg #[.int .u64 0, .int .u32 0]) 2 16 Tryz.underlying246 Tryz.infoItem rfl (by decide) (.slice ao s.1.length cap) s.1.length (s.1.flatMap itemCells) rfl (its.out.alloc _) ⟨w.heap.size, 0, none⟩ 1 1 (itemCells (0, 0)) rfl rfl ?c1 ?c2 ?c3 ?c4 ?_)
    case c1 => exact cells_new w _ _
    case c2 => intro u hu; simp [itemCells] at hu; rcases hu with rfl | rfl <;> rfl
    case c3 => unfold maxLen; omega
    case c4 => omega
    intro ao2 cap2 w2 hown2 ho2 hk2
    have hi1 : hb ∉ (Value.slice ao s.1.length cap).ownBlock.toList := by simpa using H.out.ne1
    have c20 : w2.cell? ⟨hb, 0, none⟩ = some (.slice ao s.1.length cap) := ho2.cell (((H.out.hd).alloc _).cell rfl) hi1
    have f20 : w2.frozen? ⟨hb, 0, none⟩ = false := (((H.out.hd).alloc _).kept ho2 hi1).frozen 0
    have hroom := (H.out.alloc _).room (by omega) hb2 hown2 ho2 (by simpa using hk2)
    have HRM := Lib.hid hroom
    have HO2 := Lib.hid ho2
    clear hown2 ho2 hk2 hi1 hroom
    go_wp2_with fail
    refine (put_any s.1.length (k, id) _ HRM.out.1 SL.out hid).mono ?_
    rintro e w3 ⟨rfl, hr3, ho3⟩
    have HR3 := Lib.hid hr3
    have HO3 := Lib.hid ho3
    clear hr3 ho3
    go_wp2_with fail
    refine (up_any s.1.length (k, id) _ HR3.out (by rw [put1, if_pos rfl, if_pos SL.out])).mono ?_
    rintro e w4 ⟨rfl, hr4, ho4⟩
    have hh4 : w4.cell? ⟨hb, 1, none⟩ = some (.slice (some ⟨ab, 0, none⟩) s.2.length s.2.length) := by
      have := hr4.hd.cell (i := 1) rfl
      rw [UL.out] at this
      exact this
    have hp4 : w4.cell? ⟨ab, id, none⟩ = some (.int .i64 ((j : Int) + 1)) := by
      have := (hr4.place (id := id) (by rw [UL.out]; exact hid)).1
      rw [J1.out] at this
      exact this
    have HR4 := Lib.hid hr4
    have HO4 := Lib.hid ho4
    have hj65 : j < 65536 := by
      have h1 := (List.getElem?_eq_some_iff.1 J2.out).1
      have h2 := hr4.m
      omega
    clear hr4 ho4
    go_wp2_with fail
    refine (down_any j (k, id) _ HR4.out J2.out).mono ?_
    rintro e w5 ⟨rfl, hr5, ho5⟩
    go_wp2
    go_returns
    have o1 : Only (hfoot hb (.slice ao s.1.length cap) ab) w (w2.setCell ⟨hb, 0, none⟩ (.slice ao2 (s.1.length + 1) cap2)) :=
      Only.setCell (Only.trans (Only.alloc (Only.refl _ _) _) HO2.out (fun x hx => .inl (by simp only [hfoot, List.mem_cons]; exact .inr (.inr hx)))) (.inl (by simp [hfoot])) _
    have sub : ∀ x ∈ hfoot hb (.slice ao2 (s.1.length + 1) cap2) ab, x ∈ hfoot hb (.slice ao s.1.length cap) ab ∨ w.heap.size ≤ x := fun x hx => (HRM.out.2 x hx).imp (fun h => h) (fun h => by simp at h; omega)
    exact ⟨rfl, _, by rw [SE.out]; exact hr5, ((o1.trans HO3.out sub).trans HO4.out sub).trans ho5 sub, sub⟩
  | succ p =>
    have e1 : roomP s id = s := by simp [roomP, hpl]
    have e2 : slotP s id = p := by simp [slotP, hpl]
    have hmid := setP_mid g id k hid
    rw [e1, e2] at hsl hj1 hj2 hmid
    have J1 := Lib.hid hj1
    have J2 := Lib.hid hj2
    have SL := Lib.hid hsl
    have UL := Lib.hid hmid.1
    have SE := Lib.hid (hmid.2 j hj1 hj2)
    have H := Lib.hid h
    have hp' : w.cell? ⟨ab, id, none⟩ = some (.int .i64 ((p : Int) + 1)) := hp
    have hp65 : p < 65536 := by have := h.m; omega
    clear h hpl hsl e1 e2 hj1 hj2 hl1 hl2 hbd hg2 hp hmid
    go_enter Tryz.func138, Tryz.ntmps138
    go_wp2_with fail
    refine (check_any id _ H.out hid).mono ?_
    rintro e w1 ⟨rfl, rfl⟩
    go_wp2_with fail
    refine (put_any p (k, id) _ H.out SL.out hid).mono ?_
    rintro e w3 ⟨rfl, hr3, ho3⟩
    have HR3 := Lib.hid hr3
    have HO3 := Lib.hid ho3
    clear hr3 ho3
    go_wp2_with fail
    refine (up_any p (k, id) _ HR3.out (by rw [put1, if_pos rfl, if_pos SL.out])).mono ?_
    rintro e w4 ⟨rfl, hr4, ho4⟩
    have hh4 : w4.cell? ⟨hb, 1, none⟩ = some (.slice (some ⟨ab, 0, none⟩) s.2.length s.2.length) := by
      have := hr4.hd.cell (i := 1) rfl
      rw [UL.out] at this
      exact this
    have hp4 : w4.cell? ⟨ab, id, none⟩ = some (.int .i64 ((j : Int) + 1)) := by
      have := (hr4.place (id := id) (by rw [UL.out]; exact hid)).1
      rw [J1.out] at this
      exact this
    have HR4 := Lib.hid hr4
    have HO4 := Lib.hid ho4
    have hj65 : j < 65536 := by
      have h1 := (List.getElem?_eq_some_iff.1 J2.out).1
      have h2 := hr4.m
      omega
    clear hr4 ho4
    go_wp2_with fail
    refine (down_any j (k, id) _ HR4.out J2.out).mono ?_
    rintro e w5 ⟨rfl, hr5, ho5⟩
    go_wp2
    go_returns
    exact ⟨rfl, iv, by rw [SE.out]; exact hr5, (HO3.out.trans HO4.out (fun _ h => .inl h)).trans ho5 (fun _ h => .inl h), fun _ h => .inl h⟩
end Go.Proofs.YtchhbgckonpedaaGreatDoor

/- Contracts of package heap: Push, Remove, Pop. -/
namespace Go.Proofs.YtchhbgckonpedaaGreatDoor
open Go.ChangeShapes Go.WideShapes Go.ChangeAt Go.RowKit Go.Joins Go.Deep

theorem HNext.of_below {w w' : World} {hb ab : Nat} {iv : Value} {s : HS} (h : HRep w hb iv ab s) (o : Below w.heap.size w w') : HNext w w' hb ab iv s :=
  ⟨iv, h.below o, Only.of_below o, fun _ h => .inl h⟩

def pushP (s : HS) (id : Nat) (k : Int) : HS :=
  match keyOf s id with
  | some o => if o ≤ k then s else setP s id k
  | none => setP s id k

set_option maxRecDepth 100000 in
theorem push_any {hb ab : Nat} {iv : Value} {s : HS} (id : Nat) (k : Int) (w : World) (h : HRep w hb iv ab s) (g : Good s) (hid : id < s.2.length) :
    Calls Tryz.prog 121 #[.pointer (some ⟨hb, 0, none⟩), .int .u32 id, .int .u64 k] w fun e w' => e = .returned .nilIface ∧ HNext w w' hb ab iv (pushP s id k) := by
  have H := Lib.hid h
  have HG := Lib.hid g
  cases hk : keyOf s id with
  | none =>
    have e1 : pushP s id k = setP s id k := by simp [pushP, hk]
    rw [e1]
    have HK := Lib.hid hk
    clear h g hk e1
    go_enter Tryz.func121, Tryz.ntmps121
    go_wp2_with fail
    refine (key_any id _ H.out HG.out hid).mono ?_
    rw [HK.out]
    rintro e w1 ⟨rfl, hb1⟩
    simp only [keyVal]
    have HB := Lib.hid hb1
    clear hb1
    go_wp2_with fail
    refine (set_any id k _ (H.out.below HB.out) HG.out hid).mono ?_
    rintro e w2 ⟨rfl, iv', hr, ho, hs⟩
    go_wp2
    go_returns
    exact ⟨rfl, iv', hr, (Only.of_below HB.out).trans ho (fun _ h => .inl h), fun x hx => (hs x hx).imp (fun h => h) (fun h => Nat.le_trans HB.out.size h)⟩
  | some o =>
    have HK := Lib.hid hk
    by_cases hle : o ≤ k
    · have e1 : pushP s id k = s := by simp [pushP, hk, hle]
      rw [e1]
      clear h g hk e1
      go_enter Tryz.func121, Tryz.ntmps121
      go_wp2_with fail
      refine (key_any id _ H.out HG.out hid).mono ?_
      rw [HK.out]
      rintro e w1 ⟨rfl, hb1⟩
      simp only [keyVal]
      have HB := Lib.hid hb1
      clear hb1
      go_wp2
      go_returns
      exact ⟨rfl, HNext.of_below H.out HB.out⟩
    · have e1 : pushP s id k = setP s id k := by simp [pushP, hk, hle]
      rw [e1]
      clear h g hk e1
      go_enter Tryz.func121, Tryz.ntmps121
      go_wp2_with fail
      refine (key_any id _ H.out HG.out hid).mono ?_
      rw [HK.out]
      rintro e w1 ⟨rfl, hb1⟩
      simp only [keyVal]
      have HB := Lib.hid hb1
      clear hb1
      go_wp2_with fail
      refine (set_any id k _ (H.out.below HB.out) HG.out hid).mono ?_
      rintro e w2 ⟨rfl, iv', hr, ho, hs⟩
      go_wp2
      go_returns
      exact ⟨rfl, iv', hr, (Only.of_below HB.out).trans ho (fun _ h => .inl h), fun x hx => (hs x hx).imp (fun h => h) (fun h => Nat.le_trans HB.out.size h)⟩

/-- The items but the last, and a place struck. -/
theorem HRep.less {w : World} {hb ab ib cap id m : Nat} {s : HS} (h : HRep w hb (.slice (some ⟨ib, 0, none⟩) (m + 1) cap) ab s) (hm : s.1.length = m + 1) :
    HRep ((w.setCell ⟨hb, 0, none⟩ (.slice (some ⟨ib, 0, none⟩) m cap)).setCell ⟨ab, id, none⟩ (.int .i64 0)) hb (.slice (some ⟨ib, 0, none⟩) m cap) ab (lessP s id) := by
  have hl : (s.1.take (s.1.length - 1)).length = m := by simp; omega
  have hl2 : (lessP s id).1.length = m := hl
  have hl3 : (lessP s id).2.length = s.2.length := by simp [lessP]
  refine ⟨?_, ?_, ?_, ?_, by rw [hl3]; exact h.n, by rw [hl2]; have := h.m; omega, h.ne, h.ne1, h.ne2⟩
  · rw [hl3]
    exact (h.hd.set 0 _).other h.ne _
  · rw [hl2]
    have e : (lessP s id).1.flatMap itemCells = (s.1.flatMap itemCells).take (m * 2) := by
      have := flat_take itemCells_len s.1 m
      rw [← this]
      simp only [lessP, hm, Nat.add_sub_cancel]
    rw [e]
    have o := h.its
    rw [hm] at o
    exact Go.ownsRow_setCell_other (Go.ownsRow_setCell_other (own_take o (by omega)) (fun e => h.ne1 e) _) (fun e => h.ne2 e) _
  · have := (h.pl.other (a := ⟨hb, 0, none⟩) h.ne.symm (.slice (some ⟨ib, 0, none⟩) m cap)).set id (.int .i64 0)
    simpa [lessP, List.map_set] using this
  · intro x hx
    rw [hl3]
    exact h.ids x (List.mem_of_mem_take hx)

set_option maxRecDepth 100000 in
set_option maxHeartbeats 1000000 in
theorem remove_any {hb ab : Nat} {iv : Value} {s : HS} (id i : Nat) (w : World) (h : HRep w hb iv ab s) (g : Good s) (hpl : s.2[id]? = some (i + 1)) :
    Calls Tryz.prog 139 #[.pointer (some ⟨hb, 0, none⟩), .int .u32 id] w fun e w' => e = .returned (.bool true) ∧ HNext w w' hb ab iv (removeP s id) := by
  obtain ⟨y, hy, hyd⟩ := g.wf.b id i hpl
  have hid := (List.getElem?_eq_some_iff.1 hpl).1
  have hil := (List.getElem?_eq_some_iff.1 hy).1
  have hkey : keyOf s id = some y.1 := by rw [← hyd]; exact keyOf_at g.wf hy
  obtain ⟨m, hm⟩ : ∃ m, s.1.length = m + 1 := ⟨s.1.length - 1, by omega⟩
  obtain ⟨x, hx⟩ : ∃ x, s.1[m]? = some x := ⟨_, List.getElem?_eq_getElem (by omega)⟩
  have hxid : x.2 < s.2.length := h.ids x (List.mem_of_getElem? hx)
  obtain ⟨ib, cap, hiv, g0, g1, -, -, ne0, ne1, l1⟩ := h.item hx
  rw [hm] at hiv
  subst hiv
  have h0 : w.cell? ⟨hb, 0, none⟩ = some (.slice (some ⟨ib, 0, none⟩) (m + 1) cap) := h.hd.cell rfl
  have h1 : w.cell? ⟨hb, 1, none⟩ = some (.slice (some ⟨ab, 0, none⟩) s.2.length s.2.length) := h.hd.cell rfl
  have f0 := h.hd.frozen 0
  have l0 := h.hd.lt
  have la := h.pl.lt
  obtain ⟨hp, fp⟩ := h.place hid
  rw [getD_some hpl] at hp
  have hp' : w.cell? ⟨ab, id, none⟩ = some (.int .i64 ((i : Int) + 1)) := hp
  have hm65 : m + 1 ≤ 65536 := by have := h.m; omega
  have hn := h.n
  have nha := h.ne
  have nah : ab ≠ hb := fun e => nha e.symm
  have hcap : m + 1 ≤ cap := by
    rcases h.its.2 with ⟨e, -⟩ | ⟨g', cap', cur, e, -, -, hc, -⟩
    · cases e
    · simp only [Value.slice.injEq, Option.some.injEq, Addr.mk.injEq, and_true] at e
      obtain ⟨-, -, rfl⟩ := e
      omega
  obtain ⟨-, -, -, -, -, hrest⟩ := removeP_spec g id i hpl
  have HREST := Lib.hid hrest
  have HK := Lib.hid hkey
  have HM := Lib.hid hm
  have HX := Lib.hid hx
  have HG := Lib.hid g
  have H := Lib.hid h
  have HPL := Lib.hid hpl
  have hle : m ≤ cap := by omega
  clear hp hrest hkey hx g h hpl hy hyd
  by_cases him : i < m
  · obtain ⟨x', hx', -, j, hj1, hj2⟩ := HREST.out (by rw [HM.out]; exact him)
    have hxx : x' = x := by
      rw [HM.out, Nat.add_sub_cancel, HX.out] at hx'
      simpa using hx'.symm
    subst hxx
    have e1 : removeP s id = downP (upP (putP (lessP s id) i x') i x') j x' := by
      simp only [removeP, getD_some HPL.out, Nat.add_sub_cancel, HM.out, if_pos him, settleP, itemAt_eq HX.out, hj1, itemAt_eq hj2]
    have RE := Lib.hid e1
    have J1 := Lib.hid hj1
    have J2 := Lib.hid hj2
    clear hx' hj1 hj2 e1 hm
    go_enter Tryz.func139, Tryz.ntmps139
    go_wp2_with fail
    refine (key_any id _ H.out HG.out hid).mono ?_
    rw [HK.out]
    rintro e w1 ⟨rfl, hb1⟩
    simp only [keyVal]
    have c0 := ck hb1 h0
    have c1 := ck hb1 h1
    have c2 := ck hb1 hp'
    have c3 := ck hb1 g0
    have c4 := ck hb1 g1
    have HR1 := Lib.hid (H.out.below hb1)
    have HB1 := Lib.hid hb1
    have q0 := HR1.out.hd.frozen 0
    have q1 := HR1.out.pl.frozen id
    have q2 := HR1.out.hd.lt
    have q3 := HR1.out.pl.lt
    have q4 : ib < w1.heap.size := HR1.out.lt ib (by simp [hfoot, Value.ownBlock])
    clear hb1
    go_wp2_with fail
    go_region
    go_wp2_with fail
    have hll : (lessP s id).1.length = m := by simp [lessP, HM.out]
    have hll2 : (lessP s id).2.length = s.2.length := by simp [lessP]
    have nbx : w1.heap.size ∉ hfoot hb (.slice (some ⟨ib, 0, none⟩) m cap) ab := by
      intro hmem
      have := HR1.out.lt w1.heap.size hmem
      omega
    refine (put_any i x' _ (((HR1.out.less (id := id) HM.out).alloc _).drew) (by rw [hll]; exact him) (by rw [hll2]; exact hxid)).mono ?_
    rintro e w3 ⟨rfl, hr3, ho3⟩
    have bx3 : Cells w3 w1.heap.size 250 (itemCells x') := by
      refine Cells.kept ?_ ho3 nbx
      have hs : ((w1.setCell ⟨hb, 0, none⟩ (.slice (some ⟨ib, 0, none⟩) m cap)).setCell ⟨ab, id, none⟩ (.int .i64 0)).heap.size = w1.heap.size := by simp
      have := Cells.new ((w1.setCell ⟨hb, 0, none⟩ (.slice (some ⟨ib, 0, none⟩) m cap)).setCell ⟨ab, id, none⟩ (.int .i64 0)) 250 (itemCells x')
      rw [hs] at this
      exact this.drew
    have HR3 := Lib.hid hr3
    have HO3 := Lib.hid ho3
    have BX3 := Lib.hid bx3
    have LL := Lib.hid hll
    have LL2 := Lib.hid hll2
    have NBX := Lib.hid nbx
    clear hr3 ho3 bx3 hll hll2 nbx
    go_wp2_with fail
    refine (up_any i x' _ HR3.out (by rw [put1, if_pos rfl, LL.out, if_pos him])).mono ?_
    rintro e w4 ⟨rfl, hr4, ho4⟩
    have UL := Lib.hid (show (upP (putP (lessP s id) i x') i x').2.length = s.2.length by rw [upP_length2 _ _ _ _ rfl, putP_length2, LL2.out])
    have hh4 : w4.cell? ⟨hb, 1, none⟩ = some (.slice (some ⟨ab, 0, none⟩) s.2.length s.2.length) := by
      have := hr4.hd.cell (i := 1) rfl
      rw [UL.out] at this
      exact this
    have hp4 : w4.cell? ⟨ab, x'.2, none⟩ = some (.int .i64 ((j : Int) + 1)) := by
      have := (hr4.place (id := x'.2) (by rw [UL.out]; exact hxid)).1
      rw [J1.out] at this
      exact this
    have hbx4 : w4.cell? ⟨w1.heap.size, 1, none⟩ = some (.int .u32 x'.2) := (BX3.out.kept ho4 NBX.out).cell rfl
    have HR4 := Lib.hid hr4
    have HO4 := Lib.hid ho4
    have hj65 : j < 65536 := by
      have h1 := (List.getElem?_eq_some_iff.1 J2.out).1
      have h2 := hr4.m
      omega
    clear hr4 ho4
    go_wp2_with fail
    go_still_tail 10, (by kernel_rfl)
    go_wp2_with fail
    refine (down_any j x' _ (HR4.out.drew) J2.out).mono ?_
    rintro e w5 ⟨rfl, hr5, ho5⟩
    go_wp2
    go_returns
    have sub : ∀ k ∈ hfoot hb (.slice (some ⟨ib, 0, none⟩) m cap) ab, k ∈ hfoot hb (.slice (some ⟨ib, 0, none⟩) (m + 1) cap) ab ∨ w.heap.size ≤ k := fun _ h => .inl h
    have o1 : Only (hfoot hb (.slice (some ⟨ib, 0, none⟩) (m + 1) cap) ab) w w3 := by
      refine Only.trans (Only.drew (Only.alloc (Only.setCell (Only.setCell (Only.of_below HB1.out) (.inl ?_) _) (.inl ?_) _) _)) HO3.out sub <;> simp [hfoot]
    exact ⟨rfl, _, by rw [RE.out]; exact hr5, ((o1.trans HO4.out sub).drew).trans ho5 sub, sub⟩
  · have e1 : removeP s id = lessP s id := by
      simp only [removeP, getD_some HPL.out, Nat.add_sub_cancel, HM.out, if_neg him]
    have RE := Lib.hid e1
    have hge : m ≤ i := by omega
    have hge2 : i ≤ m := by omega
    clear e1 hm
    go_enter Tryz.func139, Tryz.ntmps139
    go_wp2_with fail
    refine (key_any id _ H.out HG.out hid).mono ?_
    rw [HK.out]
    rintro e w1 ⟨rfl, hb1⟩
    simp only [keyVal]
    have c0 := ck hb1 h0
    have c1 := ck hb1 h1
    have c2 := ck hb1 hp'
    have c3 := ck hb1 g0
    have c4 := ck hb1 g1
    have HR1 := Lib.hid (H.out.below hb1)
    have HB1 := Lib.hid hb1
    have q0 := HR1.out.hd.frozen 0
    have q1 := HR1.out.pl.frozen id
    have q2 := HR1.out.hd.lt
    have q3 := HR1.out.pl.lt
    have q4 : ib < w1.heap.size := HR1.out.lt ib (by simp [hfoot, Value.ownBlock])
    clear hb1
    go_wp2_with fail
    go_region
    go_wp2
    go_returns
    refine ⟨rfl, .slice (some ⟨ib, 0, none⟩) m cap, ?_, ?_, fun _ h => .inl h⟩
    · rw [RE.out]
      exact ((HR1.out.less (id := id) HM.out).alloc _).drew
    · refine Only.drew (Only.alloc (Only.setCell (Only.setCell (Only.of_below HB1.out) (.inl ?_) _) (.inl ?_) _) _) <;> simp [hfoot]

theorem topOf {s : HS} {x : Item} (g : Good s) (hx : s.1[0]? = some x) : s.2[x.2]? = some (0 + 1) := g.wf.a 0 x hx
def popP (s : HS) : HS := match s.1[0]? with | some x => removeP s x.2 | none => s
/-- What Top and Pop answer. -/
def topVal : Option Item → Value
  | some x => .tuple #[.int .u32 x.2, .int .u64 x.1, .bool true]
  | none => .tuple #[.int .u32 0, .int .u64 0, .bool false]

set_option maxRecDepth 100000 in
theorem pop_any {hb ab : Nat} {iv : Value} {s : HS} (w : World) (h : HRep w hb iv ab s) (g : Good s) :
    Calls Tryz.prog 118 #[.pointer (some ⟨hb, 0, none⟩)] w fun e w' => e = .returned (topVal s.1[0]?) ∧ HNext w w' hb ab iv (popP s) := by
  have H := Lib.hid h
  have HG := Lib.hid g
  cases hx : s.1[0]? with
  | none =>
    have e1 : popP s = s := by simp [popP, hx]
    rw [e1]
    have HX := Lib.hid hx
    clear h g hx e1
    go_enter Tryz.func118, Tryz.ntmps118
    go_wp2_with fail
    refine (top_any _ H.out).mono ?_
    rw [HX.out]
    rintro e w1 ⟨rfl, hb1⟩
    have HB := Lib.hid hb1
    clear hb1
    go_wp2
    go_ret3
    exact ⟨rfl, HNext.of_below H.out HB.out⟩
  | some x =>
    have e1 : popP s = removeP s x.2 := by simp [popP, hx]
    rw [e1]
    have HX := Lib.hid hx
    clear h g hx e1
    go_enter Tryz.func118, Tryz.ntmps118
    go_wp2_with fail
    refine (top_any _ H.out).mono ?_
    rw [HX.out]
    rintro e w1 ⟨rfl, hb1⟩
    have HB := Lib.hid hb1
    clear hb1
    go_wp2_with fail
    refine (remove_any x.2 0 _ (H.out.below HB.out) HG.out (topOf HG.out HX.out)).mono ?_
    rintro e w2 ⟨rfl, iv', hr, ho, hs⟩
    go_wp2
    go_ret3
    exact ⟨rfl, iv', hr, (Only.of_below HB.out).trans ho (fun _ h => .inl h), fun x hx => (hs x hx).imp (fun h => h) (fun h => Nat.le_trans HB.out.size h)⟩
end Go.Proofs.YtchhbgckonpedaaGreatDoor

/- Contracts of package stamp, as package climb uses it: New, Set, Get, All. -/
namespace Go.Proofs.YtchhbgckonpedaaGreatDoor
open Go.ChangeShapes Go.WideShapes Go.ChangeAt Go.RowKit Go.Joins Go.Deep

def stampCells : Option Int → List Value
  | some v => [.int .u64 v, .int .u32 1]
  | none => [.int .u64 0, .int .u32 0]
theorem stampCells_len (x : Option Int) : (stampCells x).length = 2 := by cases x <;> rfl
/-- The array at the block sb, of the first age: what its places hold. -/
structure SRep (w : World) (sb cb : Nat) (ds : List (Option Int)) : Prop where
  hd : ∃ c : Nat, c ≤ ds.countP Option.isSome ∧ Cells w sb 228 [.slice (some ⟨cb, 0, none⟩) ds.length ds.length, .int .u32 1, .int .i64 c]
  cs : Cells w cb 230 (ds.flatMap stampCells)
  n : ds.length ≤ 65536
  ne : sb ≠ cb
namespace SRep
variable {w w' : World} {sb cb : Nat} {ds : List (Option Int)}
theorem kept {bs : List Nat} (h : SRep w sb cb ds) (o : Only bs w w') (h1 : sb ∉ bs) (h2 : cb ∉ bs) : SRep w' sb cb ds := by
  obtain ⟨⟨c, hc, h3⟩, h4, h5, h6⟩ := h
  exact ⟨⟨c, hc, h3.kept o h1⟩, h4.kept o h2, h5, h6⟩
theorem below (h : SRep w sb cb ds) (o : Below w.heap.size w w') : SRep w' sb cb ds := h.kept (bs := []) (Only.of_below o) (by simp) (by simp)
theorem alloc (h : SRep w sb cb ds) (o : Obj) : SRep (w.alloc o) sb cb ds := h.below ((Below.refl _ _).alloc (Nat.le_refl _) o)
theorem drew (h : SRep w sb cb ds) : SRep w.drew sb cb ds := h.below (Below.refl _ _).drew
theorem lt1 (h : SRep w sb cb ds) : sb < w.heap.size := by obtain ⟨⟨c, hc, h3⟩, -⟩ := h; exact h3.lt
theorem lt2 (h : SRep w sb cb ds) : cb < w.heap.size := h.cs.lt
theorem cell (h : SRep w sb cb ds) {i : Nat} {x : Option Int} (hx : ds[i]? = some x) : w.cell? ⟨cb, i * 2, none⟩ = (stampCells x)[0]? ∧ w.cell? ⟨cb, i * 2 + 1, none⟩ = (stampCells x)[1]? := by
  have e0 := flat_get stampCells_len ds i 0 (by omega)
  have e1 := flat_get stampCells_len ds i 1 (by omega)
  rw [Nat.add_zero, hx] at e0
  rw [hx] at e1
  cases x with
  | none => exact ⟨h.cs.cell e0, h.cs.cell e1⟩
  | some v => exact ⟨h.cs.cell e0, h.cs.cell e1⟩
end SRep
theorem countP_set_le (ds : List (Option Int)) (i : Nat) (v : Int) (hi : i < ds.length) : (ds.set i (some v)).countP Option.isSome = if (ds[i]'hi).isSome then ds.countP Option.isSome else ds.countP Option.isSome + 1 := by
  induction ds generalizing i with
  | nil => simp at hi
  | cons a l ih =>
    cases i with
    | zero => cases a <;> simp
    | succ i =>
      have hi' : i < l.length := by simpa using hi
      have := ih i hi'
      simp only [List.set_cons_succ, List.countP_cons, List.getElem_cons_succ, this]
      split <;> omega
theorem stamp_put {w : World} {sb cb c i : Nat} {ds : List (Option Int)} {v : Int} (h : SRep w sb cb ds) (hi : i < ds.length) (hc : c ≤ (ds.set i (some v)).countP Option.isSome) (w1 : World)
    (h1 : Cells w1 sb 228 [.slice (some ⟨cb, 0, none⟩) ds.length ds.length, .int .u32 1, .int .i64 c]) (h2 : Cells w1 cb 230 (ds.flatMap stampCells)) :
    SRep ((w1.setCell ⟨cb, i * 2, none⟩ (.int .u64 v)).setCell ⟨cb, i * 2 + 1, none⟩ (.int .u32 1)) sb cb (ds.set i (some v)) := by
  refine ⟨⟨c, hc, ?_⟩, ?_, by simpa using h.n, h.ne⟩
  · have := (h1.other (a := ⟨cb, i * 2, none⟩) h.ne (.int .u64 v)).other (a := ⟨cb, i * 2 + 1, none⟩) h.ne (.int .u32 1)
    simpa using this
  · have := (h2.set (i * 2) (.int .u64 v)).set (i * 2 + 1) (.int .u32 1)
    have hx : ds[i]? = some ds[i] := List.getElem?_eq_getElem hi
    have e : ((ds.flatMap stampCells).set (i * 2) (.int .u64 v)).set (i * 2 + 1) (.int .u32 1) = (ds.set i (some v)).flatMap stampCells := by
      have hl := flat_length stampCells_len ds
      apply List.ext_getElem?
      intro j
      have hdm : j / 2 * 2 + j % 2 = j := Nat.div_add_mod' j 2
      have hm : j % 2 < 2 := Nat.mod_lt _ (by omega)
      have r1 := flat_get stampCells_len (ds.set i (some v)) (j / 2) (j % 2) hm
      have r2 := flat_get stampCells_len ds (j / 2) (j % 2) hm
      rw [hdm] at r1 r2
      rw [r1]
      simp only [List.getElem?_set, List.length_set]
      by_cases c1 : i * 2 + 1 = j
      · have a1 : j / 2 = i := by omega
        have a2 : j % 2 = 1 := by omega
        rw [if_pos c1, if_pos (by omega), a1, a2, if_pos rfl, if_pos hi]
        rfl
      · rw [if_neg c1]
        by_cases c2 : i * 2 = j
        · have a1 : j / 2 = i := by omega
          have a2 : j % 2 = 0 := by omega
          rw [if_pos c2, if_pos (by omega), a1, a2, if_pos rfl, if_pos hi]
          rfl
        · have a1 : ¬ i = j / 2 := by omega
          rw [if_neg c2, if_neg a1, r2]
    rw [e] at this
    exact this

theorem rep_flat {α β : Type} (n : Nat) (a : α) (b : β) (f : α → List Value) (g : β → List Value) (h : f a = g b) : (List.replicate n a).flatMap f = (List.replicate n b).flatMap g := by
  induction n with
  | zero => rfl
  | succ n ih => simp [List.replicate_succ, h, ih]

theorem Tryz.infoStamp : (Tryz.prog.info? 230).map (fun i => (i.zero, i.size, i.bytes)) = some (some (.agg #[.int .u64 0, .int .u32 0]), 2, 16) := by kernel_rfl

theorem stampNew_any (n : Nat) (hn : n ≤ 65536) (w : World) :
    Calls Tryz.prog 115 #[.int .i64 n, .int .u32 1] w fun e w' => e = .returned (.tuple #[.pointer (some ⟨w.heap.size + 1, 0, none⟩), .nilIface]) ∧ SRep w' (w.heap.size + 1) w.heap.size (List.replicate n none) ∧ Below w.heap.size w w' := by
  have hmk := run_make_n (P := Tryz.prog) 226 230 (.agg #[.int .u64 0, .int .u32 0]) 2 16 Tryz.underlying226 Tryz.infoStamp .i64 .i64 n (by omega) (by omega)
  have em : madeCells (Value.agg #[Value.int .u64 0, Value.int .u32 0]).cells (n * 2) = ((List.replicate n (none : Option Int)).flatMap stampCells).toArray := by
    have := madeCells_eq [Value.int .u64 0, Value.int .u32 0] n (by decide)
    rw [← rep_flat n ()  none (fun _ => [Value.int .u64 0, Value.int .u32 0]) stampCells rfl]
    exact this
  rw [em] at hmk
  clear em
  generalize hL : (List.replicate n (none : Option Int)).flatMap stampCells = L at hmk
  have HL := Lib.hid hL
  clear hL
  go_enter Tryz.func115, Tryz.ntmps115
  go_wp2
  go_returns
  refine ⟨rfl, ⟨⟨0, Nat.zero_le _, ?_⟩, ?_, by simpa using hn, by simp⟩, by go_grown⟩
  · have := Cells.new (w.alloc (.cells L.toArray 230)) 228 [.slice (some ⟨w.heap.size, 0, none⟩) n n, .int .u32 1, .int .i64 0]
    simpa using this
  · rw [HL.out]
    exact (Cells.new w 230 L).alloc _

theorem stampSet_any {sb cb : Nat} {ds : List (Option Int)} (i : Nat) (v : Int) (w : World) (h : SRep w sb cb ds) (hi : i < ds.length) :
    Calls Tryz.prog 122 #[.pointer (some ⟨sb, 0, none⟩), .int .i64 i, .int .u64 v] w fun e w' => e = .returned .nilIface ∧ SRep w' sb cb (ds.set i (some v)) ∧ Only [sb, cb] w w' := by
  obtain ⟨c, hc, hd⟩ := h.hd
  have h0 : w.cell? ⟨sb, 0, none⟩ = some (.slice (some ⟨cb, 0, none⟩) ds.length ds.length) := hd.cell rfl
  have h1 : w.cell? ⟨sb, 1, none⟩ = some (.int .u32 1) := hd.cell rfl
  have h2 : w.cell? ⟨sb, 2, none⟩ = some (.int .i64 c) := hd.cell rfl
  have f2 := hd.frozen 2
  have f3 := h.cs.frozen (i * 2)
  have f4 := h.cs.frozen (i * 2 + 1)
  have hn := h.n
  have ne := h.ne
  have ne' : cb ≠ sb := fun e => ne e.symm
  have l1 := h.lt1
  have l2 := h.lt2
  have hcn : c ≤ 65536 := by have := List.countP_le_length (p := Option.isSome) (l := ds); omega
  obtain ⟨x, hx⟩ : ∃ x, ds[i]? = some x := ⟨_, List.getElem?_eq_getElem hi⟩
  obtain ⟨c0, c1⟩ := h.cell hx
  have hge : decide (ds.length ≤ i) = false := by simp; omega
  have hct := countP_set_le ds i v hi
  have hxi : ds[i] = x := by have := List.getElem?_eq_getElem hi; rw [hx] at this; exact (Option.some.inj this).symm
  rw [hxi] at hct
  have HCT := Lib.hid hct
  have HC := Lib.hid hc
  have H := Lib.hid h
  have HD := Lib.hid hd
  clear hct hxi hx hc h hd
  cases x with
  | none =>
    simp only [stampCells, List.getElem?_cons_zero, List.getElem?_cons_succ] at c0 c1
    go_enter Tryz.func122, Tryz.ntmps122
    go_wp2_with fail
    go_region
    go_wp2_with fail
    go_region
    go_wp2
    go_returns
    refine ⟨rfl, ?_, ?_⟩
    · have := stamp_put (c := c + 1) H.out hi (by rw [HCT.out]; simp; exact HC.out) (w.setCell ⟨sb, 2, none⟩ (.int .i64 ((c : Int) + 1))) (v := v) (HD.out.set 2 _) (H.out.cs.other ne' _)
      exact this.drew.drew
    · refine Only.drew (Only.drew (Only.setCell (Only.setCell (Only.setCell (Only.refl _ _) (.inl ?_) _) (.inl ?_) _) (.inl ?_) _)) <;> simp
  | some u =>
    simp only [stampCells, List.getElem?_cons_zero, List.getElem?_cons_succ] at c0 c1
    go_enter Tryz.func122, Tryz.ntmps122
    go_wp2_with fail
    go_region
    go_wp2_with fail
    go_region
    go_wp2
    go_returns
    refine ⟨rfl, ?_, ?_⟩
    · have := stamp_put (c := c) H.out hi (by rw [HCT.out]; simp; exact HC.out) w (v := v) HD.out H.out.cs
      exact this.drew.drew
    · refine Only.drew (Only.drew (Only.setCell (Only.setCell (Only.refl _ _) (.inl ?_) _) (.inl ?_) _)) <;> simp

/-- What Get answers. -/
def getVal : Option Int → Value
  | some v => .tuple #[.int .u64 v, .bool true]
  | none => .tuple #[.int .u64 0, .bool false]

theorem stampGet_any {sb cb : Nat} {ds : List (Option Int)} (i : Nat) (x : Option Int) (w : World) (h : SRep w sb cb ds) (hx : ds[i]? = some x) :
    Calls Tryz.prog 104 #[.pointer (some ⟨sb, 0, none⟩), .int .i64 i] w fun e w' => e = .returned (getVal x) ∧ Below w.heap.size w w' := by
  obtain ⟨c, hc, hd⟩ := h.hd
  have hi := (List.getElem?_eq_some_iff.1 hx).1
  have h0 : w.cell? ⟨sb, 0, none⟩ = some (.slice (some ⟨cb, 0, none⟩) ds.length ds.length) := hd.cell rfl
  have h1 : w.cell? ⟨sb, 1, none⟩ = some (.int .u32 1) := hd.cell rfl
  have hn := h.n
  obtain ⟨c0, c1⟩ := h.cell hx
  have hge : decide (ds.length ≤ i) = false := by simp; omega
  clear hx hc hd h
  cases x with
  | none =>
    simp only [stampCells, List.getElem?_cons_zero, List.getElem?_cons_succ] at c0 c1
    go_enter Tryz.func104, Tryz.ntmps104
    go_wp2_with fail
    go_quiet (fail)
    go_wp2
    go_returns
    exact ⟨rfl, below_draws _ _ _⟩
  | some u =>
    simp only [stampCells, List.getElem?_cons_zero, List.getElem?_cons_succ] at c0 c1
    go_enter Tryz.func104, Tryz.ntmps104
    go_wp2_with fail
    go_quiet (fail)
    go_wp2
    go_returns
    exact ⟨rfl, below_draws _ _ _⟩

end Go.Proofs.YtchhbgckonpedaaGreatDoor

/- The contract of stamp's All. -/
namespace Go.Proofs.YtchhbgckonpedaaGreatDoor
open Go.ChangeShapes Go.WideShapes Go.ChangeAt Go.RowKit Go.Joins Go.Deep
/-- The cells of a second new block. -/
theorem cells_new2 (w : World) (o : Obj) (t : TypeId) (l : List Value) : ∀ j u, l[j]? = some u → ((w.alloc o).alloc (.cells l.toArray t)).drew.cell? ((⟨w.heap.size + 1, 0, none⟩ : Addr).add j) = some u := by
  intro j u hu
  have e : (⟨w.heap.size + 1, 0, none⟩ : Addr).add j = ⟨w.heap.size + 1, j, none⟩ := by unfold Addr.add; split <;> simp_all
  rw [e]
  have := (Cells.new (w.alloc o) t l).cell hu
  simpa using this

/-- The places that hold a number, of the first k. -/
def allTo (ds : List (Option Int)) (k : Nat) : List Nat := (List.range k).filter fun i => (ds.getD i none).isSome
theorem allTo_succ (ds : List (Option Int)) (k : Nat) : allTo ds (k + 1) = allTo ds k ++ if (ds.getD k none).isSome then [k] else [] := by
  unfold allTo
  rw [List.range_succ, List.filter_append]
  congr 1
  by_cases h : (ds.getD k none).isSome = true
  · rw [if_pos h, List.filter_cons_of_pos (p := fun i => (ds.getD i none).isSome) h, List.filter_nil]
  · rw [if_neg h, List.filter_cons_of_neg (p := fun i => (ds.getD i none).isSome) h, List.filter_nil]
theorem allTo_le (ds : List (Option Int)) (k : Nat) : (allTo ds k).length ≤ k := by
  have := List.length_filter_le (fun i => (ds.getD i none).isSome) (List.range k)
  simpa [allTo] using this
def intCells (l : List Nat) : List Value := l.map fun (n : Nat) => .int .i64 (n : Int)

theorem Tryz.infoInt2 : (Tryz.prog.info? 3).map (fun i => (i.zero, i.size, i.bytes)) = some (some (.int .i64 0), 1, 8) := by kernel_rfl

set_option maxHeartbeats 400000 in
theorem stampAll_any {sb cb : Nat} {ds : List (Option Int)} (w : World) (h : SRep w sb cb ds) :
    Calls Tryz.prog 103 #[.pointer (some ⟨sb, 0, none⟩)] w fun e w' => (∃ ao cap, e = .returned (.slice ao (allTo ds ds.length).length cap) ∧ w'.ownsRow 0 3 1 (.slice ao (allTo ds ds.length).length cap) (allTo ds ds.length).length (intCells (allTo ds ds.length)) ∧
      (∀ k, (Value.slice ao (allTo ds ds.length).length cap).ownBlock = some k → w.heap.size ≤ k)) ∧ Below w.heap.size w w' := by
  obtain ⟨c, hc, hd⟩ := h.hd
  have h0 : w.cell? ⟨sb, 0, none⟩ = some (.slice (some ⟨cb, 0, none⟩) ds.length ds.length) := hd.cell rfl
  have hn := h.n
  have l1 := h.lt1
  have H := Lib.hid h
  clear hc hd h
  go_enter Tryz.func103, Tryz.ntmps103
  go_wp2_with fail
  go_loopw [3, 13] (fun vl vi wr => ∃ (k : Nat) (ao : Option Addr) (cap : Nat), vi = .int .i64 k ∧ k ≤ ds.length ∧ vl = .slice ao (allTo ds k).length cap ∧ wr.ownsRow 0 3 1 (.slice ao (allTo ds k).length cap) (allTo ds k).length (intCells (allTo ds k)) ∧
      (∀ b, (Value.slice ao (allTo ds k).length cap).ownBlock = some b → w.heap.size ≤ b) ∧ Below w.heap.size w wr) (fun _ vi _ => ds.length - (intOf vi).toNat)
  case atStart => exact ⟨0, none, 0, rfl, Nat.zero_le _, rfl, World.ownsRow_nil _ _ _ _, by simp [Value.ownBlock], Below.refl _ _⟩
  case round =>
    obtain ⟨k, ao, cap, rfl, hk, rfl, hown, hnew, hb⟩ := hrel
    by_cases hlt : k < ds.length
    · obtain ⟨x, hx⟩ : ∃ x, ds[k]? = some x := ⟨_, List.getElem?_eq_getElem hlt⟩
      have hS := H.out.below hb
      obtain ⟨c, hc, hd⟩ := hS.hd
      have hh0 : wr.cell? ⟨sb, 1, none⟩ = some (.int .u32 1) := hd.cell rfl
      have hsl : sb < wr.heap.size := hS.lt1
      have hcl : cb < wr.heap.size := hS.lt2
      obtain ⟨c0, c1⟩ := hS.cell hx
      have hsz := hb.size
      have hgx : ds.getD k none = x := by simp [List.getD_eq_getElem?_getD, hx]
      have hal := allTo_le ds k
      have HOWN := Lib.hid hown
      have HNEW := Lib.hid hnew
      have HB := Lib.hid hb
      have HGX := Lib.hid hgx
      clear hx hS hc hd hown hnew hb hgx
      cases x with
      | none =>
        simp only [stampCells, List.getElem?_cons_zero, List.getElem?_cons_succ] at c0 c1
        have es : allTo ds (k + 1) = allTo ds k := by rw [allTo_succ, HGX.out]; simp
        have ES := Lib.hid es
        clear es
        go_wp2_with fail
        go_region
        go_wp2_with fail
        go_roundw
        case rel => exact ⟨k + 1, ao, cap, by go_num, by omega, by rw [ES.out], by rw [ES.out]; exact own_drew (HOWN.out.alloc _), by rw [ES.out]; exact HNEW.out, (HB.out.alloc hsz _).drew⟩
        case measure => simp [intOf]; omega
      | some v =>
        simp only [stampCells, List.getElem?_cons_zero, List.getElem?_cons_succ] at c0 c1
        have es : allTo ds (k + 1) = allTo ds k ++ [k] := by rw [allTo_succ, HGX.out]; simp
        have ES := Lib.hid es
        clear es
        go_wp2_with fail
        go_region
        go_wp2_with (at_builtin; refine wpList_app _ rfl _ _ 28 rfl 3 (.int .i64 0) 1 8 Tryz.underlying28 Tryz.infoInt2 rfl (by decide) (.slice ao (allTo ds k).length cap) (allTo ds k).length (intCells (allTo ds k)) rfl ?own ⟨wr.heap.size + 1, 0, none⟩ 1 1 [.int .i64 k] rfl rfl ?c1 ?c2 ?c3 ?c4 ?_)
        case own => exact own_drew ((HOWN.out.alloc _).alloc _)
        case c1 => exact cells_new2 wr _ _ _
        case c2 => intro u hu; simp at hu; subst hu; rfl
        case c3 => unfold maxLen; omega
        case c4 => omega
        intro ao2 cap2 w2 hown2 ho2 hk2
        have e2 : (allTo ds (k + 1)).length = (allTo ds k).length + 1 := by rw [ES.out]; simp
        have e3 : intCells (allTo ds (k + 1)) = intCells (allTo ds k) ++ [.int .i64 k] := by rw [ES.out]; simp [intCells]
        have E2 := Lib.hid e2
        have E3 := Lib.hid e3
        have hbw : Below w.heap.size w w2 := by
          have b1 : Below w.heap.size w ((wr.alloc (.cells #[.int .u64 v, .int .u32 1] 230)).alloc (.cells #[.int .i64 k] 3)).drew := ((HB.out.alloc hsz _).alloc (by simp; omega) _).drew
          exact b1.trans (ho2.below (by simp; omega) (fun x hx => HNEW.out x (by simpa using hx)))
        have hnew2 : ∀ b, (Value.slice ao2 ((allTo ds k).length + 1) cap2).ownBlock = some b → w.heap.size ≤ b := by
          intro b hb
          rcases hk2 b hb with h1 | h1
          · exact HNEW.out b h1
          · omega
        have H2 := Lib.hid hown2
        have N2 := Lib.hid hnew2
        have B2 := Lib.hid hbw
        clear hown2 ho2 hk2 e2 e3 hbw hnew2
        go_wp2_with fail
        go_roundw
        case rel => exact ⟨k + 1, ao2, cap2, by go_num, by omega, by rw [E2.out], by rw [E2.out, E3.out]; exact H2.out, by rw [E2.out]; exact N2.out, B2.out⟩
        case measure => simp [intOf]; omega
    · obtain rfl : k = ds.length := by omega
      have HOWN := Lib.hid hown
      have HNEW := Lib.hid hnew
      have HB := Lib.hid hb
      clear hown hnew hb
      go_wp2
      go_returns
      exact ⟨⟨ao, cap, rfl, HOWN.out, HNEW.out⟩, HB.out⟩
end Go.Proofs.YtchhbgckonpedaaGreatDoor

/- The search upwards as data: what holds from round to round, and what distances come out. No program here. -/
namespace Go.Proofs.YtchhbgckonpedaaGreatDoor

structure SideD where
  n : Nat
  first : List Nat
  links : List LinkD
  bfirst : List Nat
  back : List LinkD
/-- The links at a rank. -/
def seg (first : List Nat) (links : List LinkD) (r : Nat) : List LinkD := (links.take (first.getD (r + 1) 0)).drop (first.getD r 0)
structure HalfOk (n : Nat) (first : List Nat) (links : List LinkD) : Prop where
  len : first.length = n + 1
  mono : ∀ r, r < n → first.getD r 0 ≤ first.getD (r + 1) 0
  last : ∀ r, r ≤ n → first.getD r 0 ≤ links.length
  up : ∀ r, r < n → ∀ l ∈ seg first links r, r < l.to ∧ l.to < n ∧ l.wt ≤ 140737488355328
structure SideOk (v : SideD) : Prop where
  n : v.n ≤ 65536
  fwd : HalfOk v.n v.first v.links
  bwd : HalfOk v.n v.bfirst v.back

/-- D tells the least lengths of the ways over links upwards from s. -/
structure IsD (n : Nat) (first : List Nat) (links : List LinkD) (s : Nat) (D : Nat → Option Int) : Prop where
  src : D s = some 0
  fwd : ∀ x d l, x < n → D x = some d → l ∈ seg first links x → ∃ e, D l.to = some e ∧ e ≤ d + l.wt
  bwd : ∀ r e, r ≠ s → D r = some e → ∃ x d l, x < n ∧ D x = some d ∧ l ∈ seg first links x ∧ l.to = r ∧ e = d + l.wt
  dom : ∀ r e, D r = some e → r < n
theorem IsD.unique {n : Nat} {first : List Nat} {links : List LinkD} (ok : HalfOk n first links) {s : Nat} {D E : Nat → Option Int} (h : IsD n first links s D) (k : IsD n first links s E) : ∀ r, D r = E r := by
  have key : ∀ (D E : Nat → Option Int), IsD n first links s D → IsD n first links s E → ∀ r, (∀ x, x < r → D x = E x) → ∀ e, D r = some e → ∃ e', E r = some e' ∧ e' ≤ e := by
    intro D E h k r ih e he
    by_cases hr : r = s
    · subst hr
      rw [h.src] at he
      exact ⟨0, k.src, by simp at he; omega⟩
    · obtain ⟨x, d, l, hx, hd, hl, hto, rfl⟩ := h.bwd r e hr he
      have hlt := (ok.up x hx l hl).1
      rw [hto] at hlt
      obtain ⟨e', h1, h2⟩ := k.fwd x d l hx (by rw [← ih x hlt]; exact hd) hl
      exact ⟨e', by rw [← hto]; exact h1, h2⟩
  intro r
  induction r using Nat.strongRecOn with
  | _ r ih =>
    cases hD : D r with
    | none =>
      cases hE : E r with
      | none => rfl
      | some e =>
        obtain ⟨e', h1, _⟩ := key E D k h r (fun x hx => (ih x hx).symm) e hE
        rw [hD] at h1; cases h1
    | some d =>
      obtain ⟨e', h1, h2⟩ := key D E h k r ih d hD
      obtain ⟨d', h3, h4⟩ := key E D k h r (fun x hx => (ih x hx).symm) e' h1
      rw [hD] at h3
      simp at h3
      rw [h1]
      congr 1
      omega

def eraseM (m : Nat → Option Int) (id : Nat) : Nat → Option Int := fun x => if x = id then none else m x
def pushM (m : Nat → Option Int) (id : Nat) (k : Int) : Nat → Option Int := fun x => if x = id then (match m id with | some o => some (if o ≤ k then o else k) | none => some k) else m x
def relax1 (ds : List (Option Int)) (d : Int) (m : Nat → Option Int) (l : LinkD) : Nat → Option Int := if (ds.getD l.to none).isSome then m else pushM m l.to (d + l.wt)

theorem Holds.push {s : HS} {n : Nat} {m : Nat → Option Int} (h : Holds s n m) (id : Nat) (k : Int) (hid : id < n) : (∀ x, keyOf (match keyOf s id with | some o => if o ≤ k then s else setP s id k | none => setP s id k) x = pushM m id k x) ∧
    Good (match keyOf s id with | some o => if o ≤ k then s else setP s id k | none => setP s id k) ∧ (match keyOf s id with | some o => if o ≤ k then s else setP s id k | none => setP s id k).2.length = n := by
  obtain ⟨g, hk, hl, -⟩ := setP_spec h.good id k (by rw [h.len]; exact hid)
  have hm := h.key id
  have hkm := h.key
  cases ho : keyOf s id with
  | none =>
    rw [ho] at hm
    refine ⟨fun x => ?_, g, hl.trans h.len⟩
    simp only [hk, pushM, ← hm, hkm]
  | some o =>
    rw [ho] at hm
    simp only
    split
    · rename_i hle
      refine ⟨fun x => ?_, h.good, h.len⟩
      simp only [pushM, ← hm, hkm, hle, if_true]
      split
      · rename_i e; rw [e, ← hm]
      · rfl
    · rename_i hle
      refine ⟨fun x => ?_, g, hl.trans h.len⟩
      simp only [hk, pushM, ← hm, hkm, hle, if_false]

section
variable {v : SideD} {s : Nat}
/-- What holds of the queue m and of the settled distances ds; P x l: the link l at x has been looked at. -/
structure CInv (v : SideD) (s : Nat) (m : Nat → Option Int) (ds : List (Option Int)) (P : Nat → LinkD → Prop) : Prop where
  len : ds.length = v.n
  dis : ∀ x d, ds.getD x none = some d → m x = none
  src : ds.getD s none = some 0 ∨ (m s = some 0 ∧ ∀ x, ds.getD x none = none)
  fwd : ∀ x d l, ds.getD x none = some d → l ∈ seg v.first v.links x → P x l → ∃ e, (ds.getD l.to none = some e ∨ m l.to = some e) ∧ e ≤ d + l.wt
  bwd : ∀ r e, r ≠ s → (ds.getD r none = some e ∨ m r = some e) → ∃ x d l, x < v.n ∧ ds.getD x none = some d ∧ l ∈ seg v.first v.links x ∧ l.to = r ∧ e = d + l.wt
  bnd : ∀ r e, (ds.getD r none = some e ∨ m r = some e) → 0 ≤ e ∧ e ≤ r * 140737488355328 ∧ r < v.n
  ord : ∀ x d r e, ds.getD x none = some d → m r = some e → d ≤ e

theorem getD_set (ds : List (Option Int)) (i : Nat) (v : Option Int) (x : Nat) (hi : i < ds.length) : (ds.set i v).getD x none = if i = x then v else ds.getD x none := by
  simp only [List.getD_eq_getElem?_getD, List.getElem?_set]
  by_cases h : i = x
  · rw [if_pos h, if_pos h, if_pos hi]; rfl
  · rw [if_neg h, if_neg h]

theorem CInv.start (hs : s < v.n) : CInv v s (pushM (fun _ => none) s 0) (List.replicate v.n none) (fun _ _ => True) := by
  have h0 : ∀ x, (List.replicate v.n (none : Option Int)).getD x none = none := by
    intro x
    simp only [List.getD_eq_getElem?_getD, List.getElem?_replicate]
    split <;> rfl
  have hm : ∀ x e, pushM (fun _ => none) s 0 x = some e → x = s ∧ e = 0 := by
    intro x e h
    unfold pushM at h
    split at h
    · rename_i hx; exact ⟨hx, by simpa using h.symm⟩
    · cases h
  refine ⟨by simp, fun x d h => ?_, .inr ⟨by simp [pushM], h0⟩, fun x d l h => ?_, fun r e hr h => ?_, fun r e h => ?_, fun x d r e h => ?_⟩
  · rw [h0] at h; cases h
  · rw [h0] at h; cases h
  · rcases h with h | h
    · rw [h0] at h; cases h
    · exact absurd (hm r e h).1 hr
  · rcases h with h | h
    · rw [h0] at h; cases h
    · obtain ⟨rfl, rfl⟩ := hm r e h
      exact ⟨by omega, by omega, hs⟩
  · rw [h0] at h; cases h

/-- The least thing is settled. -/
theorem CInv.settle {m : Nat → Option Int} {ds : List (Option Int)} (h : CInv v s m ds (fun _ _ => True)) {id : Nat} {k : Int} (hk : m id = some k) (hmin : ∀ d e, m d = some e → le2 (k, id) (e, d)) :
    CInv v s (eraseM m id) (ds.set id (some k)) (fun x _ => x ≠ id) ∧ (ds.set id (some k)).getD id none = some k ∧ (∀ x d, (ds.set id (some k)).getD x none = some d → d ≤ k) := by
  obtain ⟨hk0, hk1, hidn⟩ := h.bnd id k (.inr hk)
  have hidl : id < ds.length := by rw [h.len]; exact hidn
  have hset := fun x => getD_set ds id (some k) x hidl
  have hmin' : ∀ d e, m d = some e → k ≤ e := fun d e hd => by have := (le2_iff _ _).1 (hmin d e hd); simp at this; omega
  have hnot : ds.getD id none = none := by
    cases hd : ds.getD id none with
    | none => rfl
    | some d => have := h.dis id d hd; rw [hk] at this; cases this
  have herase : ∀ x e, eraseM m id x = some e → x ≠ id ∧ m x = some e := by
    intro x e hx
    unfold eraseM at hx
    split at hx
    · cases hx
    · rename_i hne; exact ⟨hne, hx⟩
  -- what is known of a rank is known still
  have hstay : ∀ r e, (ds.getD r none = some e ∨ m r = some e) → ((ds.set id (some k)).getD r none = some e ∨ eraseM m id r = some e) := by
    intro r e hr
    by_cases hri : id = r
    · subst hri
      rcases hr with hr | hr
      · rw [hnot] at hr; cases hr
      · rw [hk] at hr
        exact .inl (by rw [hset, if_pos rfl, hr])
    · rcases hr with hr | hr
      · exact .inl (by rw [hset, if_neg hri]; exact hr)
      · exact .inr (by unfold eraseM; rw [if_neg (fun e => hri e.symm)]; exact hr)
  have hback : ∀ r e, ((ds.set id (some k)).getD r none = some e ∨ eraseM m id r = some e) → (ds.getD r none = some e ∨ m r = some e) := by
    intro r e hr
    rcases hr with hr | hr
    · rw [hset] at hr
      split at hr
      · rename_i e1; subst e1; exact .inr (by rw [hk]; exact hr)
      · exact .inl hr
    · exact .inr (herase r e hr).2
  refine ⟨⟨by rw [List.length_set]; exact h.len, ?_, ?_, ?_, ?_, ?_, ?_⟩, by rw [hset, if_pos rfl], ?_⟩
  · intro x d hx
    rw [hset] at hx
    unfold eraseM
    split at hx
    · rename_i e1; rw [if_pos e1.symm]
    · rename_i e1; rw [if_neg (fun e => e1 e.symm)]; exact h.dis x d hx
  · rcases h.src with h1 | ⟨h1, h2⟩
    · refine .inl ?_
      rw [hset]
      split
      · rename_i e1; subst e1; rw [hnot] at h1; cases h1
      · exact h1
    · have : id = s := by
        apply Classical.byContradiction
        intro hne
        obtain ⟨x, d, l, _, hx, _⟩ := h.bwd id k hne (.inr hk)
        rw [h2 x] at hx; cases hx
      subst this
      rw [hk] at h1
      exact .inl (by rw [hset, if_pos rfl]; exact h1)
  · intro x d l hx hl hp
    rw [hset, if_neg (fun e => hp e.symm)] at hx
    obtain ⟨e, he, hle⟩ := h.fwd x d l hx hl trivial
    exact ⟨e, hstay _ _ he, hle⟩
  · intro r e hr he
    obtain ⟨x, d, l, h1, h2, h3, h4, h5⟩ := h.bwd r e hr (hback r e he)
    refine ⟨x, d, l, h1, ?_, h3, h4, h5⟩
    rw [hset]
    split
    · rename_i e1; subst e1; rw [hnot] at h2; cases h2
    · exact h2
  · intro r e he
    exact h.bnd r e (hback r e he)
  · intro x d r e hx hr
    obtain ⟨_, hr⟩ := herase r e hr
    rw [hset] at hx
    split at hx
    · simp at hx
      have := hmin' r e hr
      omega
    · exact h.ord x d r e hx hr
  · intro x d hx
    rw [hset] at hx
    split at hx
    · simp at hx; omega
    · exact h.ord x d id k hx hk

/-- One link of the settled rank is looked at. -/
theorem CInv.link (ok : HalfOk v.n v.first v.links) {m : Nat → Option Int} {ds : List (Option Int)} {P : Nat → LinkD → Prop} (h : CInv v s m ds P) {id : Nat} {k : Int} (hid : ds.getD id none = some k) (hmax : ∀ x d, ds.getD x none = some d → d ≤ k)
    {l : LinkD} (hl : l ∈ seg v.first v.links id) : CInv v s (relax1 ds k m l) ds (fun x l' => P x l' ∨ (x = id ∧ l' = l)) := by
  obtain ⟨hk0, hk1, hidn⟩ := h.bnd id k (.inl hid)
  obtain ⟨hup, hton, hwt⟩ := ok.up id hidn l hl
  have hsrc : ds.getD s none = some 0 := by
    rcases h.src with h1 | ⟨_, h2⟩
    · exact h1
    · rw [h2 id] at hid; cases hid
  unfold relax1
  cases hto : ds.getD l.to none with
  | some e =>
    simp only [Option.isSome_some, if_true]
    refine ⟨h.len, h.dis, h.src, ?_, h.bwd, h.bnd, h.ord⟩
    intro x d l' hx hl' hp
    rcases hp with hp | ⟨rfl, rfl⟩
    · exact h.fwd x d l' hx hl' hp
    · have := hmax _ e hto
      rw [hid] at hx
      simp at hx
      exact ⟨e, .inl hto, by omega⟩
  | none =>
    simp only [Option.isSome_none, Bool.false_eq_true, if_false]
    have hnew : ∃ e, pushM m l.to (k + l.wt) l.to = some e ∧ e ≤ k + l.wt ∧ (m l.to = some e ∨ e = k + l.wt) := by
      unfold pushM
      rw [if_pos rfl]
      cases m l.to with
      | none => exact ⟨_, rfl, by omega, .inr rfl⟩
      | some o =>
        by_cases ho : o ≤ k + l.wt
        · exact ⟨o, by simp [ho], ho, .inl rfl⟩
        · exact ⟨k + l.wt, by simp [ho], by omega, .inr rfl⟩
    obtain ⟨e0, he0, hle0, hor⟩ := hnew
    have hoth : ∀ x, x ≠ l.to → pushM m l.to (k + l.wt) x = m x := by
      intro x hx
      unfold pushM
      rw [if_neg hx]
    have hstay : ∀ r e, (ds.getD r none = some e ∨ m r = some e) → ∃ e', (ds.getD r none = some e' ∨ pushM m l.to (k + l.wt) r = some e') ∧ e' ≤ e := by
      intro r e hr
      by_cases h1 : r = l.to
      · subst h1
        rcases hr with hr | hr
        · rw [hto] at hr; cases hr
        · refine ⟨e0, .inr he0, ?_⟩
          rcases hor with h2 | h2
          · rw [hr] at h2; simp at h2; omega
          · have : pushM m l.to (k + l.wt) l.to = some (if e ≤ k + l.wt then e else k + l.wt) := by unfold pushM; rw [if_pos rfl, hr]
            rw [he0] at this
            simp at this
            split at this <;> omega
      · exact ⟨e, by rw [hoth r h1]; exact hr, by omega⟩
    have hback : ∀ r e, (ds.getD r none = some e ∨ pushM m l.to (k + l.wt) r = some e) → (ds.getD r none = some e ∨ m r = some e) ∨ (r = l.to ∧ e = k + l.wt) := by
      intro r e hr
      rcases hr with hr | hr
      · exact .inl (.inl hr)
      · by_cases h1 : r = l.to
        · subst h1
          rw [he0] at hr
          simp at hr
          subst hr
          rcases hor with h2 | h2
          · exact .inl (.inr h2)
          · exact .inr ⟨rfl, h2⟩
        · rw [hoth r h1] at hr
          exact .inl (.inr hr)
    refine ⟨h.len, ?_, .inl hsrc, ?_, ?_, ?_, ?_⟩
    · intro x d hx
      have h1 : x ≠ l.to := by rintro rfl; rw [hto] at hx; cases hx
      rw [hoth x h1]
      exact h.dis x d hx
    · intro x d l' hx hl' hp
      rcases hp with hp | ⟨rfl, rfl⟩
      · obtain ⟨e, h1, h2⟩ := h.fwd x d l' hx hl' hp
        obtain ⟨e', h3, h4⟩ := hstay _ _ h1
        exact ⟨e', h3, by omega⟩
      · rw [hid] at hx
        simp at hx
        exact ⟨e0, .inr he0, by omega⟩
    · intro r e hr he
      rcases hback r e he with h1 | ⟨rfl, rfl⟩
      · exact h.bwd r e hr h1
      · exact ⟨id, k, l, hidn, hid, hl, rfl, rfl⟩
    · intro r e he
      rcases hback r e he with h1 | ⟨rfl, rfl⟩
      · exact h.bnd r e h1
      · refine ⟨by omega, ?_, hton⟩
        have : (id : Int) + 1 ≤ l.to := by omega
        omega
    · intro x d r e hx hr
      rcases hback r e (.inr hr) with h1 | ⟨rfl, rfl⟩
      · rcases h1 with h1 | h1
        · have := h.dis r e h1
          have hne : r ≠ l.to := by rintro rfl; rw [hto] at h1; cases h1
          rw [hoth r hne, this] at hr; cases hr
        · exact h.ord x d r e hx h1
      · have := hmax x d hx
        omega

/-- All links of the settled rank have been looked at. -/
theorem CInv.links (ok : HalfOk v.n v.first v.links) {m : Nat → Option Int} {ds : List (Option Int)} {id : Nat} {k : Int} (h : CInv v s m ds (fun x _ => x ≠ id)) (hid : ds.getD id none = some k) (hmax : ∀ x d, ds.getD x none = some d → d ≤ k) (j : Nat) :
    CInv v s (((seg v.first v.links id).take j).foldl (relax1 ds k) m) ds (fun x l => x ≠ id ∨ l ∈ (seg v.first v.links id).take j) := by
  induction j with
  | zero => exact ⟨h.len, h.dis, h.src, fun x d l hx hl hp => h.fwd x d l hx hl (by simpa using hp), h.bwd, h.bnd, h.ord⟩
  | succ j ih =>
    by_cases hj : j < (seg v.first v.links id).length
    · rw [List.take_succ_eq_append_getElem hj, List.foldl_append]
      have := ih.link ok hid hmax (List.getElem_mem hj)
      refine ⟨this.len, this.dis, this.src, fun x d l hx hl hp => this.fwd x d l hx hl ?_, this.bwd, this.bnd, this.ord⟩
      rcases hp with hp | hp
      · exact .inl (.inl hp)
      · rcases List.mem_append.1 hp with hp | hp
        · exact .inl (.inr hp)
        · by_cases hxi : x = id
          · exact .inr ⟨hxi, by simpa using hp⟩
          · exact .inl (.inl hxi)
    · rw [List.take_of_length_le (by omega)]
      rw [List.take_of_length_le (by omega)] at ih
      exact ih
theorem CInv.next (ok : HalfOk v.n v.first v.links) {m : Nat → Option Int} {ds : List (Option Int)} {id : Nat} {k : Int} (h : CInv v s m ds (fun x _ => x ≠ id)) (hid : ds.getD id none = some k) (hmax : ∀ x d, ds.getD x none = some d → d ≤ k) :
    CInv v s ((seg v.first v.links id).foldl (relax1 ds k) m) ds (fun _ _ => True) := by
  have := h.links ok hid hmax (seg v.first v.links id).length
  rw [List.take_length] at this
  exact ⟨this.len, this.dis, this.src, fun x d l hx hl _ => this.fwd x d l hx hl (by
    by_cases hxi : x = id
    · subst hxi; exact .inr hl
    · exact .inl hxi), this.bwd, this.bnd, this.ord⟩
/-- Nothing is left. -/
theorem CInv.done {m : Nat → Option Int} {ds : List (Option Int)} (h : CInv v s m ds (fun _ _ => True)) (hm : ∀ x, m x = none) : IsD v.n v.first v.links s (fun r => ds.getD r none) := by
  refine ⟨?_, ?_, ?_, fun r e he => (h.bnd r e (.inl he)).2.2⟩
  · rcases h.src with h1 | ⟨h1, _⟩
    · exact h1
    · rw [hm] at h1; cases h1
  · intro x d l _ hx hl
    obtain ⟨e, he, hle⟩ := h.fwd x d l hx hl trivial
    rcases he with he | he
    · exact ⟨e, he, hle⟩
    · rw [hm] at he; cases he
  · intro r e hr he
    exact h.bwd r e hr (.inl he)
end
end Go.Proofs.YtchhbgckonpedaaGreatDoor
