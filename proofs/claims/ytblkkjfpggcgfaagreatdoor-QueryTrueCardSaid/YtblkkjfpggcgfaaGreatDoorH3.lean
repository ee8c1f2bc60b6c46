/- Contracts of package heap: less, put, up, down. -/
import Derived.Test.YtblkkjfpggcgfaaGreatDoorH1
import Derived.Test.YtblkkjfpggcgfaaGreatDoorH2
import Derived.StillTailTactics
namespace Go.Proofs.YtblkkjfpggcgfaaGreatDoor
open Go.ChangeShapes Go.WideShapes Go.ChangeAt Go.RowKit Go.Joins Go.Deep
theorem less_any (x y : Item) (w : World) :
    Calls Tryz.prog 102 #[.agg #[.int .u64 x.1, .int .u32 x.2], .agg #[.int .u64 y.1, .int .u32 y.2]] w fun e w' => e = .returned (.bool (lt2 x y)) ∧ Below w.heap.size w w' := by
  obtain ⟨k, i⟩ := x
  obtain ⟨k', i'⟩ := y
  by_cases h1 : k < k'
  · have e : lt2 (k, i) (k', i') = true := by simp [lt2, h1]
    rw [e]
    go_enter Tryz.func102, Tryz.ntmps102
    go_wp2
    go_returns
    exact ⟨rfl, by go_grown⟩
  by_cases h2 : k = k'
  · subst h2
    have e : lt2 (k, i) (k, i') = decide ((i : Int) < i') := by simp [lt2]
    rw [e]
    go_enter Tryz.func102, Tryz.ntmps102
    go_wp2
    go_returns
    exact ⟨by simp, by go_grown⟩
  · have e : lt2 (k, i) (k', i') = false := by simp [lt2, h1, h2]
    rw [e]
    go_enter Tryz.func102, Tryz.ntmps102
    go_wp2
    go_returns
    exact ⟨rfl, by go_grown⟩
def itemCells (x : Item) : List Value := [.int .u64 x.1, .int .u32 x.2]
theorem itemCells_len (x : Item) : (itemCells x).length = 2 := rfl
structure HRep (w : World) (hb : Nat) (iv : Value) (ab : Nat) (s : HS) : Prop where
  hd : Cells w hb 174 [iv, .slice (some ⟨ab, 0, none⟩) s.2.length s.2.length]
  its : w.ownsRow 0 181 2 iv s.1.length (s.1.flatMap itemCells)
  pl : Cells w ab 3 (s.2.map fun (n : Nat) => .int .i64 (n : Int))
  ids : ∀ x ∈ s.1, x.2 < s.2.length
  n : s.2.length ≤ 65536
  m : s.1.length ≤ 65536
  ne : hb ≠ ab
  ne1 : iv.ownBlock ≠ some hb
  ne2 : iv.ownBlock ≠ some ab
def hfoot (hb : Nat) (iv : Value) (ab : Nat) : List Nat := hb :: ab :: iv.ownBlock.toList
namespace HRep
variable {w w' : World} {hb ab : Nat} {iv : Value} {s : HS}
theorem kept {bs : List Nat} (h : HRep w hb iv ab s) (o : Only bs w w') (hn : ∀ k ∈ hfoot hb iv ab, k ∉ bs) : HRep w' hb iv ab s :=
  ⟨h.hd.kept o (hn _ (by simp [hfoot])), own_kept h.its o (fun k hk => hn k (by simp [hfoot, hk])), h.pl.kept o (hn _ (by simp [hfoot])), h.ids, h.n, h.m, h.ne, h.ne1, h.ne2⟩
theorem lt (h : HRep w hb iv ab s) : ∀ k ∈ hfoot hb iv ab, k < w.heap.size := by
  intro k hk
  simp only [hfoot, List.mem_cons, Option.mem_toList] at hk
  rcases hk with rfl | rfl | hk
  · exact h.hd.lt
  · exact h.pl.lt
  · exact (h.its.lt k hk).2
theorem below (h : HRep w hb iv ab s) (o : Below w.heap.size w w') : HRep w' hb iv ab s := h.kept (bs := []) (Only.of_below o) (fun _ _ => by simp)
theorem alloc (h : HRep w hb iv ab s) (o : Obj) : HRep (w.alloc o) hb iv ab s := h.below ((Below.refl _ _).alloc (Nat.le_refl _) o)
theorem drew (h : HRep w hb iv ab s) : HRep w.drew hb iv ab s := h.below (Below.refl _ _).drew
theorem drewN (h : HRep w hb iv ab s) (n : Nat) : HRep (w.drewN n) hb iv ab s := ⟨h.hd, h.its, h.pl, h.ids, h.n, h.m, h.ne, h.ne1, h.ne2⟩
theorem item (h : HRep w hb iv ab s) {i : Nat} {x : Item} (hx : s.1[i]? = some x) : ∃ ib cap, iv = .slice (some ⟨ib, 0, none⟩) s.1.length cap ∧ w.cell? ⟨ib, i * 2, none⟩ = some (.int .u64 x.1) ∧ w.cell? ⟨ib, i * 2 + 1, none⟩ = some (.int .u32 x.2) ∧
    w.frozen? ⟨ib, i * 2, none⟩ = false ∧ w.frozen? ⟨ib, i * 2 + 1, none⟩ = false ∧ ib ≠ hb ∧ ib ≠ ab ∧ ib < w.heap.size := by
  have hi : i < s.1.length := (List.getElem?_eq_some_iff.1 hx).1
  obtain ⟨ib, cap, rfl, _, hl⟩ := own_form h.its (by omega)
  have g0 := h.its.cellAt (i * 2) (by omega)
  have g1 := h.its.cellAt (i * 2 + 1) (by omega)
  have e0 := flat_get itemCells_len s.1 i 0 (by omega)
  have e1 := flat_get itemCells_len s.1 i 1 (by omega)
  rw [Nat.add_zero] at e0
  rw [e0, hx] at g0
  rw [e1, hx] at g1
  exact ⟨ib, cap, rfl, g0, g1, h.its.frozenAt _, h.its.frozenAt _, fun e => h.ne1 (by rw [e]; rfl), fun e => h.ne2 (by rw [e]; rfl), hl⟩
theorem itemIn {ib n cap : Nat} (h : HRep w hb (.slice (some ⟨ib, 0, none⟩) n cap) ab s) {i : Nat} {x : Item} (hx : s.1[i]? = some x) : w.cell? ⟨ib, i * 2, none⟩ = some (.int .u64 x.1) ∧ w.cell? ⟨ib, i * 2 + 1, none⟩ = some (.int .u32 x.2) ∧ s.1.length = n := by
  obtain ⟨ib', cap', e, h1, h2, -⟩ := h.item hx
  simp only [Value.slice.injEq, Option.some.injEq, Addr.mk.injEq, and_true] at e
  obtain ⟨rfl, rfl, rfl⟩ := e
  exact ⟨h1, h2, rfl⟩
theorem place (h : HRep w hb iv ab s) {id : Nat} (hid : id < s.2.length) : w.cell? ⟨ab, id, none⟩ = some (.int .i64 (s.2.getD id 0 : Nat)) ∧ w.frozen? ⟨ab, id, none⟩ = false := by
  refine ⟨h.pl.cell ?_, h.pl.frozen _⟩
  simp [hid]
theorem put {ib cap i : Nat} {x : Item} (h : HRep w hb (.slice (some ⟨ib, 0, none⟩) s.1.length cap) ab s) (hi : i < s.1.length) (hx : x.2 < s.2.length) :
    HRep (((w.setCell ⟨ib, i * 2, none⟩ (.int .u64 x.1)).setCell ⟨ib, i * 2 + 1, none⟩ (.int .u32 x.2)).setCell ⟨ab, x.2, none⟩ (.int .i64 ((i : Int) + 1))) hb (.slice (some ⟨ib, 0, none⟩) s.1.length cap) ab (putP s i x) := by
  have n1 : ib ≠ hb := fun e => h.ne1 (by rw [e]; rfl)
  have n2 : ib ≠ ab := fun e => h.ne2 (by rw [e]; rfl)
  have hy : s.1[i]? = some s.1[i] := List.getElem?_eq_getElem hi
  have o1 := (h.its.stored (i * 2) (.int .u64 x.1)).1
  have o2 := (o1.stored (i * 2 + 1) (.int .u32 x.2)).1
  have e1 : (s.1.flatMap itemCells).set (i * 2) (.int .u64 x.1) = (s.1.set i (x.1, s.1[i].2)).flatMap itemCells := flat_set itemCells_len s.1 i 0 (by omega) _ (x.1, s.1[i].2) _ hy rfl
  have hy2 : (s.1.set i (x.1, s.1[i].2))[i]? = some (x.1, s.1[i].2) := by simp [hi]
  have e2 := flat_set itemCells_len (s.1.set i (x.1, s.1[i].2)) i 1 (by omega) _ x (.int .u32 x.2) hy2 rfl
  rw [e1, e2, List.set_set] at o2
  refine ⟨?_, ?_, ?_, ?_, by rw [putP_length2]; exact h.n, by rw [putP_length]; exact h.m, h.ne, h.ne1, h.ne2⟩
  · rw [putP_length2]
    exact ((h.hd.other n1.symm _).other n1.symm _).other h.ne _
  · rw [putP_length]
    exact Go.ownsRow_setCell_other o2 (by simp [Value.ownBlock, n2]) _
  · have := ((h.pl.other (a := ⟨ib, i * 2, none⟩) n2.symm (.int .u64 x.1)).other (a := ⟨ib, i * 2 + 1, none⟩) n2.symm (.int .u32 x.2)).set x.2 (.int .i64 ((i : Int) + 1))
    simpa [putP, List.map_set] using this
  · intro y hy'
    rw [putP_length2]
    rcases List.mem_or_eq_of_mem_set hy' with h' | rfl
    · exact h.ids y h'
    · exact hx
end HRep
theorem put_any {hb ab : Nat} {iv : Value} {s : HS} (i : Nat) (x : Item) (w : World) (h : HRep w hb iv ab s) (hi : i < s.1.length) (hx : x.2 < s.2.length) :
    Calls Tryz.prog 97 #[.pointer (some ⟨hb, 0, none⟩), .int .i64 i, .agg #[.int .u64 x.1, .int .u32 x.2]] w fun e w' => e = .returned (.tuple #[]) ∧ HRep w' hb iv ab (putP s i x) ∧ Only (hfoot hb iv ab) w w' := by
  obtain ⟨ib, cap, rfl, g0, g1, f0, f1, ne0, ne1, l1⟩ := h.item (List.getElem?_eq_getElem hi)
  obtain ⟨g2, f2⟩ := h.place hx
  have h0 : w.cell? ⟨hb, 0, none⟩ = some (.slice (some ⟨ib, 0, none⟩) s.1.length cap) := h.hd.cell rfl
  have h1 : w.cell? ⟨hb, 1, none⟩ = some (.slice (some ⟨ab, 0, none⟩) s.2.length s.2.length) := h.hd.cell rfl
  have l0 := h.hd.lt
  have l2 := h.pl.lt
  have ne2 := h.ne
  have ne3 : ab ≠ hb := fun e => ne2 e.symm
  have ne4 : ab ≠ ib := fun e => ne1 e.symm
  have hn := h.n
  have hm := h.m
  have H : Hid (HRep w hb (.slice (some ⟨ib, 0, none⟩) s.1.length cap) ab s) := h
  clear h
  go_enter Tryz.func97, Tryz.ntmps97
  go_wp2
  go_region
  go_wp2
  go_region
  go_wp2
  go_returns
  refine ⟨rfl, (((H.out.put hi hx).alloc _).drew).drew, ?_⟩
  refine Only.drew (Only.drew (Only.alloc (Only.setCell (Only.setCell (Only.setCell (Only.refl _ _) (.inl ?_) _) (.inl ?_) _) (.inl ?_) _) _)) <;> simp [hfoot, Value.ownBlock]
end Go.Proofs.YtblkkjfpggcgfaaGreatDoor
/- Contracts of package heap: up, down. -/
namespace Go.Proofs.YtblkkjfpggcgfaaGreatDoor
open Go.ChangeShapes Go.WideShapes Go.ChangeAt Go.RowKit Go.Joins Go.Deep
set_option maxRecDepth 100000 in
theorem up_any {hb ab : Nat} {iv : Value} {s : HS} (i : Nat) (x : Item) (w : World) (h : HRep w hb iv ab s) (hx : s.1[i]? = some x) :
    Calls Tryz.prog 98 #[.pointer (some ⟨hb, 0, none⟩), .int .i64 i] w fun e w' => e = .returned (.tuple #[]) ∧ HRep w' hb iv ab (upP s i x) ∧ Only (hfoot hb iv ab) w w' := by
  have hi : i < s.1.length := (List.getElem?_eq_some_iff.1 hx).1
  obtain ⟨ib, cap, rfl, g0, g1, f0, f1, ne0, ne1, l1⟩ := h.item hx
  have h0 : w.cell? ⟨hb, 0, none⟩ = some (.slice (some ⟨ib, 0, none⟩) s.1.length cap) := h.hd.cell rfl
  have l0 := h.hd.lt
  have hm := h.m
  have hid : x.2 < s.2.length := h.ids x (List.mem_of_getElem? hx)
  have H : Hid (HRep w hb (.slice (some ⟨ib, 0, none⟩) s.1.length cap) ab s) := h
  clear h
  have HX := Lib.hid hx
  clear hx
  go_enter Tryz.func98, Tryz.ntmps98
  go_wp2_with fail
  go_loopw [1, 5] (fun vi vp wr => ∃ (j : Nat) (s' : HS), vi = .int .i64 j ∧ j < s'.1.length ∧ s'.1.length = s.1.length ∧ s'.2.length = s.2.length ∧ HRep wr hb (.slice (some ⟨ib, 0, none⟩) s.1.length cap) ab s' ∧ upP s' j x = upP s i x ∧
      Cells wr w.heap.size 181 (itemCells x) ∧ Only (hfoot hb (.slice (some ⟨ib, 0, none⟩) s.1.length cap) ab) w wr) (fun vi _ _ => (intOf vi).toNat)
  case atStart =>
    exact ⟨i, s, rfl, hi, rfl, rfl, H.out.alloc _, rfl, Cells.new w _ _, (Only.refl _ _).alloc _⟩
  case round =>
    obtain ⟨j, s', rfl, hj, hs1, hs2, hr, hu, hc, ho⟩ := hrel
    have hs0 : wr.cell? ⟨w.heap.size, 0, none⟩ = some (.int .u64 x.1) := hc.cell rfl
    have hs1' : wr.cell? ⟨w.heap.size, 1, none⟩ = some (.int .u32 x.2) := hc.cell rfl
    have hh0 : wr.cell? ⟨hb, 0, none⟩ = some (.slice (some ⟨ib, 0, none⟩) s.1.length cap) := hr.hd.cell rfl
    have hl := hr.m
    by_cases hj0 : 0 < j
    · obtain ⟨q, hq, hq2⟩ : ∃ q : Nat, ((j : Int) - 1) / 4 = (q : Int) ∧ q = (j - 1) / 4 := ⟨(j - 1) / 4, by omega, rfl⟩
      have hqj : q < j := by omega
      obtain ⟨y, hy⟩ : ∃ y, s'.1[q]? = some y := ⟨_, List.getElem?_eq_getElem (by omega)⟩
      obtain ⟨y0, y1, -⟩ := hr.itemIn hy
      have HQ := Lib.hid hq
      have HQ2 := Lib.hid hq2
      have HY := Lib.hid hy
      have HU := Lib.hid hu
      have HR := Lib.hid hr
      have HC := Lib.hid hc
      have HO := Lib.hid ho
      have HS1 := Lib.hid hs1
      have HS2 := Lib.hid hs2
      have hql : q < s.1.length := by omega
      have hj2 : (1 : Int) ≤ j := by omega
      clear hq hq2 hy hu hr hc ho hs1 hs2
      go_wp2_with fail
      rw [HQ.out]
      go_still_tail 8, (by kernel_rfl)
      cases hlt : lt2 x y
      · go_wp2_with fail
        refine (less_any x y _).mono ?_
        rintro e w1 ⟨rfl, hg⟩
        have b0 := ck hg (show wr.drew.cell? _ = _ from hs0)
        have b1 := ck hg (show wr.drew.cell? _ = _ from hs1')
        have e1 : upP s' j x = putP s' j x := by
          rw [upP, if_pos hj0, ← HQ2.out, show itemAt s' q = y by simp [itemAt, HY.out], hlt]; simp
        have HE := Lib.hid e1
        have HG := Lib.hid hg
        clear e1 hg
        go_wp2_with fail
        refine (put_any j x _ ((HR.out.drew).below HG.out) hj (by rw [HS2.out]; exact hid)).mono ?_
        rintro e w2 ⟨rfl, hr2, ho2⟩
        go_wp2
        go_returns
        refine ⟨rfl, ?_, ?_⟩
        · rw [← HU.out, HE.out]; exact hr2
        · exact ((HO.out.drew).trans (Only.of_below (bs := []) HG.out) (by simp)).trans ho2 (fun _ h => .inl h)
      · go_wp2_with fail
        refine (less_any x y _).mono ?_
        rintro e w1 ⟨rfl, hg⟩
        have b0 := ck hg (show wr.drew.cell? _ = _ from y0)
        have b1 := ck hg (show wr.drew.cell? _ = _ from y1)
        have b2 := ck hg (show wr.drew.cell? _ = _ from hh0)
        have e1 : upP s' j x = upP (putP s' j y) q x := by
          rw [upP, if_pos hj0, ← HQ2.out, show itemAt s' q = y by simp [itemAt, HY.out], hlt]; simp
        have hyi : y.2 < s'.2.length := HR.out.ids y (List.mem_of_getElem? HY.out)
        have HE := Lib.hid e1
        have HG := Lib.hid hg
        clear e1 hg
        go_wp2_with fail
        refine (put_any j y _ ((HR.out.drew).below HG.out) hj hyi).mono ?_
        rintro e w2 ⟨rfl, hr2, ho2⟩
        have ho2' : Only (hfoot hb (.slice (some ⟨ib, 0, none⟩) s.1.length cap) ab) w w2 := ((HO.out.drew).trans (Only.of_below (bs := []) HG.out) (by simp)).trans ho2 (fun _ h => .inl h)
        have hc2 : Cells w2 w.heap.size 181 (itemCells x) := ((HC.out.drew).below HG.out (HC.out.lt)).kept ho2 (fun h => by have := H.out.lt _ h; omega)
        have HR2 := Lib.hid hr2
        have HO2 := Lib.hid ho2'
        have HC2 := Lib.hid hc2
        clear hr2 ho2 ho2' hc2
        go_wp2_with fail
        go_roundw
        case rel => exact ⟨q, putP s' j y, rfl, by rw [putP_length]; omega, by rw [putP_length, HS1.out], by rw [putP_length2, HS2.out], HR2.out, by rw [← HE.out, HU.out], HC2.out, HO2.out⟩
        case measure => simp [intOf]; omega
    · have e1 : upP s' j x = putP s' j x := by rw [upP, if_neg hj0]
      have HE := Lib.hid e1
      have HU := Lib.hid hu
      have HR := Lib.hid hr
      have HO := Lib.hid ho
      have HS2 := Lib.hid hs2
      clear e1 hu hr hc ho hs1 hs2
      go_wp2_with fail
      refine (put_any j x _ HR.out hj (by rw [HS2.out]; exact hid)).mono ?_
      rintro e w2 ⟨rfl, hr2, ho2⟩
      go_wp2
      go_returns
      refine ⟨rfl, ?_, HO.out.trans ho2 (fun _ h => .inl h)⟩
      rw [← HU.out, HE.out]; exact hr2
def encB : Option Nat → Int
  | none => -1
  | some c => (c : Int)
set_option maxRecDepth 100000 in
set_option maxHeartbeats 1000000 in
theorem down_any {hb ab : Nat} {iv : Value} {s : HS} (i : Nat) (x : Item) (w : World) (h : HRep w hb iv ab s) (hx : s.1[i]? = some x) :
    Calls Tryz.prog 99 #[.pointer (some ⟨hb, 0, none⟩), .int .i64 i] w fun e w' => e = .returned (.tuple #[]) ∧ HRep w' hb iv ab (downP s i x) ∧ Only (hfoot hb iv ab) w w' := by
  have hi : i < s.1.length := (List.getElem?_eq_some_iff.1 hx).1
  obtain ⟨ib, cap, rfl, g0, g1, f0, f1, ne0, ne1, l1⟩ := h.item hx
  have h0 : w.cell? ⟨hb, 0, none⟩ = some (.slice (some ⟨ib, 0, none⟩) s.1.length cap) := h.hd.cell rfl
  have l0 := h.hd.lt
  have hm := h.m
  have hid : x.2 < s.2.length := h.ids x (List.mem_of_getElem? hx)
  have H : Hid (HRep w hb (.slice (some ⟨ib, 0, none⟩) s.1.length cap) ab s) := h
  clear h
  have HX := Lib.hid hx
  clear hx
  go_enter Tryz.func99, Tryz.ntmps99
  go_wp2_with fail
  go_loopw [1, 5] (fun vi vb wr => ∃ (j : Nat) (s' : HS), vi = .int .i64 j ∧ j < s.1.length ∧ s'.1.length = s.1.length ∧ s'.2.length = s.2.length ∧ HRep wr hb (.slice (some ⟨ib, 0, none⟩) s.1.length cap) ab s' ∧ downP s' j x = downP s i x ∧
      Cells wr w.heap.size 181 (itemCells x) ∧ Only (hfoot hb (.slice (some ⟨ib, 0, none⟩) s.1.length cap) ab) w wr) (fun vi _ _ => s.1.length - (intOf vi).toNat)
  case atStart =>
    exact ⟨i, s, rfl, hi, rfl, rfl, H.out.alloc _, rfl, Cells.new w _ _, (Only.refl _ _).alloc _⟩
  case round =>
    obtain ⟨j, s', rfl, hj, hs1, hs2, hr, hu, hc, ho⟩ := hrel
    have HU := Lib.hid hu
    have HR := Lib.hid hr
    have HC := Lib.hid hc
    have HO := Lib.hid ho
    have HS1 := Lib.hid hs1
    have HS2 := Lib.hid hs2
    clear hu hr hc ho hs1 hs2
    obtain ⟨wo, rfl⟩ : ∃ wo : World, wo = wr := ⟨_, rfl⟩
    go_wp2_with fail
    go_loopw [5, 15] (fun vb vk wi => ∃ (k : Nat) (b : Option Nat), vk = .int .i64 k ∧ k ≤ 4 ∧ vb = .int .i64 (encB b) ∧ bestTo s' j k = b ∧ HRep wi hb (.slice (some ⟨ib, 0, none⟩) s.1.length cap) ab s' ∧
      Cells wi w.heap.size 181 (itemCells x) ∧ Only (hfoot hb (.slice (some ⟨ib, 0, none⟩) s.1.length cap) ab) w wi) (fun _ vk _ => 4 - (intOf vk).toNat)
    case atStart => exact ⟨0, none, rfl, by omega, rfl, rfl, HR.out, HC.out, HO.out⟩
    case round =>
      obtain ⟨k, b, rfl, hk, rfl, hb1, hr, hc, ho⟩ := hrel
      have hh0 : wr.cell? ⟨hb, 0, none⟩ = some (.slice (some ⟨ib, 0, none⟩) s.1.length cap) := hr.hd.cell rfl
      have x0 : wr.cell? ⟨w.heap.size, 0, none⟩ = some (.int .u64 x.1) := hc.cell rfl
      have x1 : wr.cell? ⟨w.heap.size, 1, none⟩ = some (.int .u32 x.2) := hc.cell rfl
      have HRi := Lib.hid hr
      have HCi := Lib.hid hc
      have HOi := Lib.hid ho
      have HB1 := Lib.hid hb1
      clear hr hc ho hb1
      by_cases hk4 : k < 4
      · obtain ⟨c, hcc⟩ : ∃ c : Nat, (j : Int) * 4 + 1 + k = (c : Int) := ⟨j * 4 + 1 + k, by omega⟩
        have hcc2 : c = j * 4 + 1 + k := by omega
        have HCC := Lib.hid hcc
        have HCC2 := Lib.hid hcc2
        clear hcc hcc2
        by_cases hcl : c < s.1.length
        · cases b with
          | none =>
            have e1 : bestTo s' j (k + 1) = some c := by
              rw [bestTo, HB1.out, bestStep, ← HCC2.out, if_pos (by rw [HS1.out]; exact hcl)]
            have HE := Lib.hid e1
            clear e1
            have hd1 : decide (c < s.1.length) = true := by simpa using hcl
            have hbm : (encB none) = -1 := rfl
            rw [hbm]
            clear hbm
            go_wp2_with fail
            rw [HCC.out]
            go_quiet (fail)
            go_wp2_with fail
            go_roundw
            case rel => exact ⟨k + 1, some c, by go_num, by omega, rfl, HE.out, HRi.out.drewN _, HCi.out.drewN _, HOi.out.drewN _⟩
            case measure => simp [intOf]; omega
          | some d =>
            have hdl : d < s.1.length := by have := (bestTo_range s' j k d HB1.out).2; rw [HS1.out] at this; exact this
            obtain ⟨y, hy⟩ : ∃ y, s'.1[c]? = some y := ⟨_, List.getElem?_eq_getElem (by rw [HS1.out]; exact hcl)⟩
            obtain ⟨z, hz⟩ : ∃ z, s'.1[d]? = some z := ⟨_, List.getElem?_eq_getElem (by rw [HS1.out]; exact hdl)⟩
            obtain ⟨y0, y1, -⟩ := HRi.out.itemIn hy
            obtain ⟨z0, z1, -⟩ := HRi.out.itemIn hz
            have e1 : bestTo s' j (k + 1) = if lt2 y z then some c else some d := by
              rw [bestTo, HB1.out, bestStep, ← HCC2.out, if_pos (by rw [HS1.out]; exact hcl), show itemAt s' c = y by simp [itemAt, hy], show itemAt s' d = z by simp [itemAt, hz]]
            have HE := Lib.hid e1
            clear e1 hy hz
            have hd1 : decide (c < s.1.length) = true := by simpa using hcl
            have hbm : (encB (some d)) = (d : Int) := rfl
            rw [hbm]
            clear hbm
            have hd2 : decide ((d : Int) < 0) = false := by simp
            go_wp2_with fail
            rw [HCC.out]
            cases hlt : lt2 y z
            · go_still_tail 25, (by kernel_rfl)
              go_wp2_with fail
              refine (less_any y z _).mono ?_
              rintro e w1 ⟨rfl, hg⟩
              have HG := Lib.hid hg
              clear hg
              go_wp2_with fail
              go_roundw
              case rel => exact ⟨k + 1, some d, by go_num, by omega, rfl, by rw [HE.out, hlt]; rfl, (HRi.out.drew).below HG.out, (HCi.out.drew).below HG.out HCi.out.lt, (HOi.out.drew).trans (Only.of_below (bs := []) HG.out) (by simp)⟩
              case measure => simp [intOf]; omega
            · go_still_tail 25, (by kernel_rfl)
              go_wp2_with fail
              refine (less_any y z _).mono ?_
              rintro e w1 ⟨rfl, hg⟩
              have HG := Lib.hid hg
              clear hg
              go_wp2_with fail
              go_roundw
              case rel => exact ⟨k + 1, some c, by go_num, by omega, rfl, by rw [HE.out, hlt]; rfl, (HRi.out.drew).below HG.out, (HCi.out.drew).below HG.out HCi.out.lt, (HOi.out.drew).trans (Only.of_below (bs := []) HG.out) (by simp)⟩
              case measure => simp [intOf]; omega
        · have e1 : bestTo s' j (k + 1) = b := by
            rw [bestTo, HB1.out, bestStep.eq_def, ← HCC2.out, if_neg (by rw [HS1.out]; exact hcl)]
          have HE := Lib.hid e1
          clear e1
          have hd1 : decide (c < s.1.length) = false := by simpa using hcl
          go_wp2_with fail
          rw [HCC.out]
          go_quiet (fail)
          go_wp2_with fail
          go_roundw
          case rel => exact ⟨k + 1, b, by go_num, by omega, rfl, HE.out, HRi.out.drewN _, HCi.out.drewN _, HOi.out.drewN _⟩
          case measure => simp [intOf]; omega
      · obtain rfl : k = 4 := by omega
        cases b with
        | none =>
          have e1 : downP s' j x = putP s' j x := downP_none HB1.out
          have HE := Lib.hid e1
          clear e1
          have hbm : (encB none) = -1 := rfl
          rw [hbm]
          clear hbm
          go_wp2_with fail
          go_quiet (fail)
          go_wp2_with fail
          refine (put_any j x _ (HRi.out.drewN _) (by rw [HS1.out]; exact hj) (by rw [HS2.out]; exact hid)).mono ?_
          rintro e w2 ⟨rfl, hr2, ho2⟩
          go_wp2
          go_returns
          exact ⟨rfl, by rw [← HU.out, HE.out]; exact hr2, (HOi.out.drewN _).trans ho2 (fun _ h => .inl h)⟩
        | some d =>
          have hdr := bestTo_range s' j 4 d HB1.out
          have hdl : d < s.1.length := by have := hdr.2; rw [HS1.out] at this; exact this
          have hjd : j < d := hdr.1
          obtain ⟨z, hz⟩ : ∃ z, s'.1[d]? = some z := ⟨_, List.getElem?_eq_getElem (by rw [HS1.out]; exact hdl)⟩
          obtain ⟨z0, z1, -⟩ := HRi.out.itemIn hz
          have hzi : z.2 < s'.2.length := HRi.out.ids z (List.mem_of_getElem? hz)
          have e1 : downP s' j x = if lt2 z x then downP (putP s' j z) d x else putP s' j x := by
            rw [downP_some HB1.out, show itemAt s' d = z by simp [itemAt, hz]]
          have HE := Lib.hid e1
          clear e1 hz hdr
          have hbm : (encB (some d)) = (d : Int) := rfl
          rw [hbm]
          clear hbm
          have hd2 : decide ((d : Int) < 0) = false := by simp
          go_wp2_with fail
          cases hlt : lt2 z x
          · go_still_tail 11, (by kernel_rfl)
            go_wp2_with fail
            refine (less_any z x _).mono ?_
            rintro e w1 ⟨rfl, hg⟩
            have b0 := ck hg (show wr.drew.cell? _ = _ from x0)
            have b1 := ck hg (show wr.drew.cell? _ = _ from x1)
            have HG := Lib.hid hg
            clear hg
            go_wp2_with fail
            refine (put_any j x _ ((HRi.out.drew).below HG.out) (by rw [HS1.out]; exact hj) (by rw [HS2.out]; exact hid)).mono ?_
            rintro e w2 ⟨rfl, hr2, ho2⟩
            go_wp2
            go_returns
            exact ⟨rfl, by rw [← HU.out, HE.out, hlt]; exact hr2, ((HOi.out.drew).trans (Only.of_below (bs := []) HG.out) (by simp)).trans ho2 (fun _ h => .inl h)⟩
          · go_still_tail 11, (by kernel_rfl)
            go_wp2_with fail
            refine (less_any z x _).mono ?_
            rintro e w1 ⟨rfl, hg⟩
            have b0 := ck hg (show wr.drew.cell? _ = _ from z0)
            have b1 := ck hg (show wr.drew.cell? _ = _ from z1)
            have b2 := ck hg (show wr.drew.cell? _ = _ from hh0)
            have HG := Lib.hid hg
            clear hg
            go_wp2_with fail
            refine (put_any j z _ ((HRi.out.drew).below HG.out) (by rw [HS1.out]; exact hj) hzi).mono ?_
            rintro e w2 ⟨rfl, hr2, ho2⟩
            have hc2 : Cells w2 w.heap.size 181 (itemCells x) := ((HCi.out.drew).below HG.out (HCi.out.lt)).kept ho2 (fun h => by have := H.out.lt _ h; omega)
            have HR2 := Lib.hid hr2
            have HO2 := Lib.hid (((HOi.out.drew).trans (Only.of_below (bs := []) HG.out) (by simp)).trans ho2 (fun _ h => .inl h))
            have HC2 := Lib.hid hc2
            clear hr2 ho2 hc2
            go_wp2_with fail
            go_roundw
            case rel => exact ⟨d, putP s' j z, rfl, hdl, by rw [putP_length, HS1.out], by rw [putP_length2, HS2.out], HR2.out, by rw [← HU.out, HE.out, hlt]; rfl, HC2.out, HO2.out⟩
            case measure => simp [intOf]; omega
end Go.Proofs.YtblkkjfpggcgfaaGreatDoor
