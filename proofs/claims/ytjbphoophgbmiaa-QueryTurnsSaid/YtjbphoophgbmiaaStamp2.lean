/- The contract of stamp's All. -/
import Derived.Test.YtjbphoophgbmiaaStamp
namespace Go.Proofs.Ytjbphoophgbmiaa
open Go.ChangeShapes Go.WideShapes Go.ChangeAt Go.RowKit Go.Joins Go.Deep
/-- The cells of a second new block. -/
theorem cells_new2 (w : World) (o : Obj) (t : TypeId) (l : List Value) : ∀ j u, l[j]? = some u → ((w.alloc o).alloc (.cells l.toArray t)).drew.cell? ((⟨w.heap.size + 1, 0, none⟩ : Addr).add j) = some u := by
  intro j u hu
  have e : (⟨w.heap.size + 1, 0, none⟩ : Addr).add j = ⟨w.heap.size + 1, j, none⟩ := by unfold Addr.add; split <;> simp_all
  rw [e]
  have := (Cells.new (w.alloc o) t l).cell hu
  simpa using this

/-- The places that hold a number, of the first k. -/
def allTo (ds : List (Option Int)) (k : Nat) : List Nat := (List.range k).filter fun i => (ds.getD i none).isSome
theorem allTo_succ (ds : List (Option Int)) (k : Nat) : allTo ds (k + 1) = allTo ds k ++ if (ds.getD k none).isSome then [k] else [] := by
  unfold allTo
  rw [List.range_succ, List.filter_append]
  congr 1
  by_cases h : (ds.getD k none).isSome = true
  · rw [if_pos h, List.filter_cons_of_pos (p := fun i => (ds.getD i none).isSome) h, List.filter_nil]
  · rw [if_neg h, List.filter_cons_of_neg (p := fun i => (ds.getD i none).isSome) h, List.filter_nil]
theorem allTo_le (ds : List (Option Int)) (k : Nat) : (allTo ds k).length ≤ k := by
  have := List.length_filter_le (fun i => (ds.getD i none).isSome) (List.range k)
  simpa [allTo] using this
def intCells (l : List Nat) : List Value := l.map fun (n : Nat) => .int .i64 (n : Int)

theorem Try.infoInt2 : (Try.prog.info? 3).map (fun i => (i.zero, i.size, i.bytes)) = some (some (.int .i64 0), 1, 8) := by kernel_rfl

set_option maxHeartbeats 400000 in
theorem stampAll_any {sb cb : Nat} {ds : List (Option Int)} (w : World) (h : SRep w sb cb ds) :
    Calls Try.prog 71 #[.pointer (some ⟨sb, 0, none⟩)] w fun e w' => (∃ ao cap, e = .returned (.slice ao (allTo ds ds.length).length cap) ∧ w'.ownsRow 0 3 1 (.slice ao (allTo ds ds.length).length cap) (allTo ds ds.length).length (intCells (allTo ds ds.length)) ∧
      (∀ k, (Value.slice ao (allTo ds ds.length).length cap).ownBlock = some k → w.heap.size ≤ k)) ∧ Below w.heap.size w w' := by
  obtain ⟨c, hc, hd⟩ := h.hd
  have h0 : w.cell? ⟨sb, 0, none⟩ = some (.slice (some ⟨cb, 0, none⟩) ds.length ds.length) := hd.cell rfl
  have hn := h.n
  have l1 := h.lt1
  have H := Lib.hid h
  clear hc hd h
  go_enter Try.func71, Try.ntmps71
  go_wp2_with fail
  go_loopw [3, 13] (fun vl vi wr => ∃ (k : Nat) (ao : Option Addr) (cap : Nat), vi = .int .i64 k ∧ k ≤ ds.length ∧ vl = .slice ao (allTo ds k).length cap ∧ wr.ownsRow 0 3 1 (.slice ao (allTo ds k).length cap) (allTo ds k).length (intCells (allTo ds k)) ∧
      (∀ b, (Value.slice ao (allTo ds k).length cap).ownBlock = some b → w.heap.size ≤ b) ∧ Below w.heap.size w wr) (fun _ vi _ => ds.length - (intOf vi).toNat)
  case atStart => exact ⟨0, none, 0, rfl, Nat.zero_le _, rfl, World.ownsRow_nil _ _ _ _, by simp [Value.ownBlock], Below.refl _ _⟩
  case round =>
    obtain ⟨k, ao, cap, rfl, hk, rfl, hown, hnew, hb⟩ := hrel
    by_cases hlt : k < ds.length
    · obtain ⟨x, hx⟩ : ∃ x, ds[k]? = some x := ⟨_, List.getElem?_eq_getElem hlt⟩
      have hS := H.out.below hb
      obtain ⟨c, hc, hd⟩ := hS.hd
      have hh0 : wr.cell? ⟨sb, 1, none⟩ = some (.int .u32 1) := hd.cell rfl
      have hsl : sb < wr.heap.size := hS.lt1
      have hcl : cb < wr.heap.size := hS.lt2
      obtain ⟨c0, c1⟩ := hS.cell hx
      have hsz := hb.size
      have hgx : ds.getD k none = x := by simp [List.getD_eq_getElem?_getD, hx]
      have hal := allTo_le ds k
      have HOWN := Lib.hid hown
      have HNEW := Lib.hid hnew
      have HB := Lib.hid hb
      have HGX := Lib.hid hgx
      clear hx hS hc hd hown hnew hb hgx
      cases x with
      | none =>
        simp only [stampCells, List.getElem?_cons_zero, List.getElem?_cons_succ] at c0 c1
        have es : allTo ds (k + 1) = allTo ds k := by rw [allTo_succ, HGX.out]; simp
        have ES := Lib.hid es
        clear es
        go_wp2_with fail
        go_region
        go_wp2_with fail
        go_roundw
        case rel => exact ⟨k + 1, ao, cap, by go_num, by omega, by rw [ES.out], by rw [ES.out]; exact own_drew (HOWN.out.alloc _), by rw [ES.out]; exact HNEW.out, (HB.out.alloc hsz _).drew⟩
        case measure => simp [intOf]; omega
      | some v =>
        simp only [stampCells, List.getElem?_cons_zero, List.getElem?_cons_succ] at c0 c1
        have es : allTo ds (k + 1) = allTo ds k ++ [k] := by rw [allTo_succ, HGX.out]; simp
        have ES := Lib.hid es
        clear es
        go_wp2_with fail
        go_region
        go_wp2_with (at_builtin; refine wpList_app _ rfl _ _ 40 rfl 3 (.int .i64 0) 1 8 Try.underlying40 Try.infoInt2 rfl (by decide) (.slice ao (allTo ds k).length cap) (allTo ds k).length (intCells (allTo ds k)) rfl ?own ⟨wr.heap.size + 1, 0, none⟩ 1 1 [.int .i64 k] rfl rfl ?c1 ?c2 ?c3 ?c4 ?_)
        case own => exact own_drew ((HOWN.out.alloc _).alloc _)
        case c1 => exact cells_new2 wr _ _ _
        case c2 => intro u hu; simp at hu; subst hu; rfl
        case c3 => unfold maxLen; omega
        case c4 => omega
        intro ao2 cap2 w2 hown2 ho2 hk2
        have e2 : (allTo ds (k + 1)).length = (allTo ds k).length + 1 := by rw [ES.out]; simp
        have e3 : intCells (allTo ds (k + 1)) = intCells (allTo ds k) ++ [.int .i64 k] := by rw [ES.out]; simp [intCells]
        have E2 := Lib.hid e2
        have E3 := Lib.hid e3
        have hbw : Below w.heap.size w w2 := by
          have b1 : Below w.heap.size w ((wr.alloc (.cells #[.int .u64 v, .int .u32 1] 168)).alloc (.cells #[.int .i64 k] 3)).drew := ((HB.out.alloc hsz _).alloc (by simp; omega) _).drew
          exact b1.trans (ho2.below (by simp; omega) (fun x hx => HNEW.out x (by simpa using hx)))
        have hnew2 : ∀ b, (Value.slice ao2 ((allTo ds k).length + 1) cap2).ownBlock = some b → w.heap.size ≤ b := by
          intro b hb
          rcases hk2 b hb with h1 | h1
          · exact HNEW.out b h1
          · omega
        have H2 := Lib.hid hown2
        have N2 := Lib.hid hnew2
        have B2 := Lib.hid hbw
        clear hown2 ho2 hk2 e2 e3 hbw hnew2
        go_wp2_with fail
        go_roundw
        case rel => exact ⟨k + 1, ao2, cap2, by go_num, by omega, by rw [E2.out], by rw [E2.out, E3.out]; exact H2.out, by rw [E2.out]; exact N2.out, B2.out⟩
        case measure => simp [intOf]; omega
    · obtain rfl : k = ds.length := by omega
      have HOWN := Lib.hid hown
      have HNEW := Lib.hid hnew
      have HB := Lib.hid hb
      clear hown hnew hb
      go_wp2
      go_returns
      exact ⟨⟨ao, cap, rfl, HOWN.out, HNEW.out⟩, HB.out⟩
end Go.Proofs.Ytjbphoophgbmiaa
