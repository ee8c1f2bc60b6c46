/- The reference's copies: Words, Links, Twin. -/
import Derived.Test.YtchhbgckonpedaaGreatDoorM6
import Derived.Deep.RegionHeld3
import Derived.Deep.AppendLies
import Derived.Laws.EntriesVeiled
import Derived.Sort.AtCall
namespace Go.Proofs.YtchhbgckonpedaaGreatDoor
open Go.ChangeShapes Go.WideShapes Go.ChangeAt Go.RowKit Go.Joins Go.Deep

set_option maxRecDepth 100000 in
theorem words_any (l : List Nat) (ao : Option Addr) (cap : Nat) (w : World) (see : See w ao cap u32Cells 1 l) (hl : l.length * 4 ≤ 140737488355328) :
    Calls Tryz.prog 38 #[.slice ao l.length cap] w (WordsNew l w) := by
  have SEE := Lib.hid see
  clear see
  go_enter Tryz.func38, Tryz.ntmps38
  go_wp2_with fail
  go_loopg [3, 8] l.length (fun g vm vi wr => ∃ (k : Nat) (ao2 : Option Addr) (cap2 : Nat), vi = .int .i64 k ∧ k ≤ l.length ∧ g = l.length - k ∧ vm = .slice ao2 k cap2 ∧
    wr.ownsRow 0 62 1 (.slice ao2 k cap2) k ((l.take k).flatMap u32Cells) ∧ (∀ b, (Value.slice ao2 k cap2).ownBlock = some b → w.heap.size ≤ b) ∧ Below w.heap.size w wr)
  case atStart => exact ⟨0, none, 0, rfl, Nat.zero_le _, rfl, rfl, World.ownsRow_nil _ _ _ _, by simp [Value.ownBlock], Below.refl _ _⟩
  case round =>
    obtain ⟨k, ao2, cap2, rfl, hk, hg, rfl, hown, hnew, hbl⟩ := hrel
    have HG := Lib.hid hg
    have HOWN := Lib.hid hown
    have HNEW := Lib.hid hnew
    have HBL := Lib.hid hbl
    have hz := hbl.size
    clear hg hown hnew hbl
    by_cases hkl : k < l.length
    · obtain ⟨x, hx⟩ : ∃ x, l[k]? = some x := ⟨_, List.getElem?_eq_getElem hkl⟩
      obtain ⟨b, o, ea, cc⟩ := (SEE.out.below HBL.out).cell k x hx
      have e0 := cc 0 _ rfl
      rw [Nat.mul_one, Nat.add_zero] at e0
      have lb := block_lt e0
      have EA := Lib.hid ea
      have HX := Lib.hid hx
      clear ea cc hx
      rw [EA.out]
      go_wp2_with (at_builtin; refine wpList_app _ rfl _ _ 22 rfl 62 (.int .u32 0) 1 4 Tryz.underlying22 Tryz.infoU32 rfl (by decide) (.slice ao2 k cap2) k ((l.take k).flatMap u32Cells) rfl ?own ⟨wr.heap.size, 0, none⟩ 1 1 (u32Cells x) rfl rfl ?c1 ?c2 ?c3 ?c4 ?_)
      case own => exact own_kept (bs := []) HOWN.out ((Only.refl _ wr).alloc _) (fun q _ => by simp)
      case c1 => exact cells_new wr 62 (u32Cells x)
      case c2 => intro u hu; simp [u32Cells] at hu; subst hu; rfl
      case c3 => unfold maxLen; omega
      case c4 => omega
      intro ao5 cap5 w5 hown5 ho5 hk5
      have hbw := HBL.out.alloc hz (.cells #[.int .u32 x] 62)
      have hnew5 : ∀ x, (Value.slice ao5 (k + 1) cap5).ownBlock = some x → w.heap.size ≤ x := by
        intro x hx
        rcases hk5 x hx with h1 | h1
        · exact HNEW.out x h1
        · have := hbw.size; omega
      have hbl5 : Below w.heap.size w w5 := hbw.trans (ho5.below hbw.size (fun q hq => HNEW.out q (by simpa using hq)))
      have hf5 : (l.take k).flatMap u32Cells ++ u32Cells x = (l.take (k + 1)).flatMap u32Cells := by
        rw [List.take_add_one, HX.out, List.flatMap_append]
        simp
      rw [hf5] at hown5
      have O5 := Lib.hid hown5
      have N5 := Lib.hid hnew5
      have B5 := Lib.hid hbl5
      clear hown5 ho5 hk5 hnew5 hbl5 hf5 hbw
      go_wp2_with fail
      rw [← EA.out]
      go_roundg (l.length - (k + 1))
      case measure => rw [HG.out]; omega
      case rel => exact ⟨k + 1, ao5, cap5, by go_num, by omega, rfl, rfl, O5.out, N5.out, B5.out⟩
    · obtain rfl : k = l.length := by omega
      go_wp2
      go_returns
      have hO := HOWN.out
      rw [List.take_length] at hO
      refine ⟨ao2, cap2, rfl, (See.of_own u32Cells_len hO (by omega)).1, ⟨own_form2 hO, fun b o e => ?_⟩, HBL.out⟩
      subst e
      rcases hO.2 with ⟨h1, -⟩ | ⟨g, c, cur, h1, -⟩
      · cases h1
      · simp only [Value.slice.injEq, Option.some.injEq, Addr.mk.injEq] at h1
        obtain ⟨⟨rfl, rfl, -⟩, -, -⟩ := h1
        exact HNEW.out _ rfl

set_option maxRecDepth 100000 in
theorem links_copy (l : List LinkD) (ao : Option Addr) (cap : Nat) (w : World) (see : See w ao cap linkCells 4 l) (hl : l.length * 24 ≤ 140737488355328) :
    Calls Tryz.prog 39 #[.slice ao l.length cap] w (LinksNew l w) := by
  have SEE := Lib.hid see
  clear see
  go_enter Tryz.func39, Tryz.ntmps39
  go_wp2_with fail
  go_loopg [3, 8] l.length (fun g vm vi wr => ∃ (k : Nat) (ao2 : Option Addr) (cap2 : Nat), vi = .int .i64 k ∧ k ≤ l.length ∧ g = l.length - k ∧ vm = .slice ao2 k cap2 ∧
    wr.ownsRow 0 65 4 (.slice ao2 k cap2) k ((l.take k).flatMap linkCells) ∧ (∀ b, (Value.slice ao2 k cap2).ownBlock = some b → w.heap.size ≤ b) ∧ Below w.heap.size w wr)
  case atStart => exact ⟨0, none, 0, rfl, Nat.zero_le _, rfl, rfl, World.ownsRow_nil _ _ _ _, by simp [Value.ownBlock], Below.refl _ _⟩
  case round =>
    obtain ⟨k, ao2, cap2, rfl, hk, hg, rfl, hown, hnew, hbl⟩ := hrel
    have HG := Lib.hid hg
    have HOWN := Lib.hid hown
    have HNEW := Lib.hid hnew
    have HBL := Lib.hid hbl
    have hz := hbl.size
    clear hg hown hnew hbl
    by_cases hkl : k < l.length
    · obtain ⟨x, hx⟩ : ∃ x, l[k]? = some x := ⟨_, List.getElem?_eq_getElem hkl⟩
      obtain ⟨b, o, ea, cc⟩ := (SEE.out.below HBL.out).cell k x hx
      have e0 := cc 0 _ rfl
      have e1 := cc 1 _ rfl
      have e2 := cc 2 _ rfl
      have e3 := cc 3 _ rfl
      rw [Nat.add_zero] at e0
      have lb := block_lt e0
      have EA := Lib.hid ea
      have HX := Lib.hid hx
      clear ea cc hx
      rw [EA.out]
      go_wp2_with (at_builtin; refine wpList_app _ rfl _ _ 23 rfl 65 (.agg #[.int .u32 0, .int .u64 0, .int .u32 0, .int .u32 0]) 4 24 Tryz.underlying23 Tryz.infoLink rfl (by decide) (.slice ao2 k cap2) k ((l.take k).flatMap linkCells) rfl ?own ⟨wr.heap.size + 1, 0, none⟩ 1 1 (linkCells x) rfl rfl ?c1 ?c2 ?c3 ?c4 ?_)
      case own => exact own_kept (bs := []) HOWN.out (((Only.refl _ wr).alloc _).alloc _) (fun q _ => by simp)
      case c1 =>
        have := cells_new (wr.alloc (.cells (linkCells x).toArray 65)) 65 (linkCells x)
        rw [World.size_alloc] at this
        exact this
      case c2 => intro u hu; simp [linkCells] at hu; rcases hu with rfl | rfl | rfl | rfl <;> rfl
      case c3 => unfold maxLen; omega
      case c4 => omega
      intro ao5 cap5 w5 hown5 ho5 hk5
      have hbw := (HBL.out.alloc hz (.cells (linkCells x).toArray 65)).alloc (by simp; omega) (.cells (linkCells x).toArray 65)
      have hnew5 : ∀ x, (Value.slice ao5 (k + 1) cap5).ownBlock = some x → w.heap.size ≤ x := by
        intro x hx
        rcases hk5 x hx with h1 | h1
        · exact HNEW.out x h1
        · have := hbw.size; omega
      have hbl5 : Below w.heap.size w w5 := hbw.trans (ho5.below hbw.size (fun q hq => HNEW.out q (by simpa using hq)))
      have hf5 : (l.take k).flatMap linkCells ++ linkCells x = (l.take (k + 1)).flatMap linkCells := by
        rw [List.take_add_one, HX.out, List.flatMap_append]
        simp
      rw [hf5] at hown5
      have O5 := Lib.hid hown5
      have N5 := Lib.hid hnew5
      have B5 := Lib.hid hbl5
      clear hown5 ho5 hk5 hnew5 hbl5 hf5 hbw
      go_wp2_with fail
      rw [← EA.out]
      go_roundg (l.length - (k + 1))
      case measure => rw [HG.out]; omega
      case rel => exact ⟨k + 1, ao5, cap5, by go_num, by omega, rfl, rfl, O5.out, N5.out, B5.out⟩
    · obtain rfl : k = l.length := by omega
      go_wp2
      go_returns
      have hO := HOWN.out
      rw [List.take_length] at hO
      exact ⟨ao2, cap2, rfl, hO, HNEW.out, HBL.out⟩
end Go.Proofs.YtchhbgckonpedaaGreatDoor

/- The reference's Link, Plain and EndOf. -/
namespace Go.Proofs.YtchhbgckonpedaaGreatDoor
open Go.ChangeShapes Go.WideShapes Go.ChangeAt Go.RowKit Go.Joins Go.Deep

def linkAt (h : HierD) (i : Nat) : LinkD := if i < h.up.length then h.up.getD i default else h.dn.getD (i - h.up.length) default
theorem Tryz.sizeLinkC : (Tryz.prog.info? 65).map (·.size) = some 4 := by kernel_rfl
def LinkIs (x : LinkD) (w : World) (e : Ending) (w' : World) : Prop := e = .returned (linkVal x) ∧ Below w.heap.size w w'

set_option maxRecDepth 100000 in
theorem rlink_any (A : HA) (h : HierD) (i : Nat) (w : World) (see : HSee w A h) (hi : i < h.up.length + h.dn.length) (hd63 : h.dn.length ≤ 1048576) :
    Calls Tryz.prog 29 #[hierVal A h, .int .i64 i] w (LinkIs (linkAt h i) w) := by
  have SEE := Lib.hid see
  clear see
  by_cases hu : i < h.up.length
  · obtain ⟨x, hx⟩ : ∃ x, h.up[i]? = some x := ⟨_, List.getElem?_eq_getElem hu⟩
    have hat : linkAt h i = x := by
      unfold linkAt
      rw [if_pos hu, List.getD_eq_getElem?_getD, hx]
      rfl
    obtain ⟨b, o, ea, cc⟩ := SEE.out.up.cell i x hx
    have e0 := cc 0 _ rfl
    have e1 := cc 1 _ rfl
    have e2 := cc 2 _ rfl
    have e3 := cc 3 _ rfl
    rw [Nat.add_zero] at e0
    have lb := block_lt e0
    have d0 : decide (i < h.up.length) = true := by simpa using hu
    rw [hat]
    unfold hierVal
    rw [ea]
    clear hat hx cc ea
    go_enter Tryz.func29, Tryz.ntmps29
    go_wp2
    refine bodyPost_ret (results_e rfl _ _ (w.heap.size + 1) 65 (linkCells x) _ rfl (cells_at (by simp) _ _) Tryz.underlying65 rfl (by rw [Tryz.sizeLinkC]; rfl)) rfl ?_
    exact ⟨rfl, by go_grown⟩
  · obtain ⟨x, hx⟩ : ∃ x, h.dn[i - h.up.length]? = some x := ⟨_, List.getElem?_eq_getElem (by omega)⟩
    have hat : linkAt h i = x := by
      unfold linkAt
      rw [if_neg hu, List.getD_eq_getElem?_getD, hx]
      rfl
    obtain ⟨b, o, ea, cc⟩ := SEE.out.dn.cell _ x hx
    obtain ⟨j, rfl⟩ : ∃ j, i = h.up.length + j := ⟨i - h.up.length, by omega⟩
    rw [Nat.add_sub_cancel_left] at cc
    have e0 := cc 0 _ rfl
    have e1 := cc 1 _ rfl
    have e2 := cc 2 _ rfl
    have e3 := cc 3 _ rfl
    rw [Nat.add_zero] at e0
    have lb := block_lt e0
    have d0 : decide (h.up.length + j < h.up.length) = false := by simp
    have d1 : ((h.up.length + j : Nat) : Int) - (h.up.length : Int) = (j : Int) := by omega
    rw [hat]
    unfold hierVal
    rw [ea]
    clear hat hx cc ea
    go_enter Tryz.func29, Tryz.ntmps29
    go_wp2
    refine bodyPost_ret (results_e rfl _ _ (w.heap.size + 1) 65 (linkCells x) _ rfl (cells_at (by simp) _ _) Tryz.underlying65 rfl (by rw [Tryz.sizeLinkC]; rfl)) rfl ?_
    exact ⟨rfl, by go_grown⟩

set_option maxRecDepth 100000 in
theorem rplain_any (x : LinkD) (w : World) (hx : x.ok) : Calls Tryz.prog 28 #[linkVal x] w (BoolIs x.plain w) := by
  obtain ⟨-, -, h3, h4⟩ := hx
  by_cases h1 : x.left = 4294967295
  · by_cases h2 : x.right = 4294967295
    · have hp : x.plain = true := (plain_iff x).2 ⟨h1, h2⟩
      have d1 : ((x.left : Int) == 4294967295) = true := by simp; omega
      have d2 : ((x.right : Int) == 4294967295) = true := by simp; omega
      rw [hp]
      unfold linkVal
      clear hp h1 h2
      go_enter Tryz.func28, Tryz.ntmps28
      go_wp2
      go_returns
      exact ⟨rfl, by go_grown⟩
    · have hp : x.plain = false := by rw [Bool.eq_false_iff, ne_eq, plain_iff]; exact fun e => h2 e.2
      have d1 : ((x.left : Int) == 4294967295) = true := by simp; omega
      have d2 : ((x.right : Int) == 4294967295) = false := by simp; omega
      rw [hp]
      unfold linkVal
      clear hp h1 h2
      go_enter Tryz.func28, Tryz.ntmps28
      go_wp2
      go_returns
      exact ⟨rfl, by go_grown⟩
  · have hp : x.plain = false := by rw [Bool.eq_false_iff, ne_eq, plain_iff]; exact fun e => h1 e.1
    have d1 : ((x.left : Int) == 4294967295) = false := by simp; omega
    rw [hp]
    unfold linkVal
    clear hp h1
    go_enter Tryz.func28, Tryz.ntmps28
    go_wp2
    go_returns
    exact ⟨rfl, by go_grown⟩

/-! ### the ends by their numbers -/
def ranksL (h : HierD) : List Nat := (endsOf h).map (·.rank)
def i64Cells (n : Nat) : List Value := [.int .i64 n]
theorem i64Cells_len (n : Nat) : (i64Cells n).length = 1 := rfl
theorem ups_links {h : HierD} (u : FirstsOk h.node.length h.upF h.up.length) : ∀ n, n ≤ h.node.length → (((List.range n).flatMap (endsUp h.upF h.up)).map (·.link)) = h.up.take (h.upF.getD n 0) := by
  intro n
  induction n with
  | zero => intro _; rw [u.zero]; simp
  | succ n ih =>
    intro hn
    rw [List.range_succ, List.flatMap_append, List.map_append, ih (by omega)]
    simp only [List.flatMap_cons, List.flatMap_nil, List.append_nil, endsUp, List.map_map]
    have hm := u.mono n (by omega)
    have : (List.map ((fun x => x.link) ∘ fun l => (⟨l, n, l.to, n⟩ : EndD)) (seg h.upF h.up n)) = seg h.upF h.up n := by
      rw [show ((fun x : EndD => x.link) ∘ fun l => (⟨l, n, l.to, n⟩ : EndD)) = id from rfl, List.map_id]
    rw [this]
    unfold seg
    have h2 := List.take_append_drop (h.upF.getD n 0) (h.up.take (h.upF.getD (n + 1) 0))
    rw [List.take_take, Nat.min_eq_left hm] at h2
    exact h2
theorem dns_links {h : HierD} (u : FirstsOk h.node.length h.dnF h.dn.length) : ∀ n, n ≤ h.node.length → (((List.range n).flatMap (endsDn h.dnF h.dn)).map (·.link)) = h.dn.take (h.dnF.getD n 0) := by
  intro n
  induction n with
  | zero => intro _; rw [u.zero]; simp
  | succ n ih =>
    intro hn
    rw [List.range_succ, List.flatMap_append, List.map_append, ih (by omega)]
    simp only [List.flatMap_cons, List.flatMap_nil, List.append_nil, endsDn, List.map_map]
    have hm := u.mono n (by omega)
    have : (List.map ((fun x => x.link) ∘ fun l => (⟨l, l.to, n, n⟩ : EndD)) (seg h.dnF h.dn n)) = seg h.dnF h.dn n := by
      rw [show ((fun x : EndD => x.link) ∘ fun l => (⟨l, l.to, n, n⟩ : EndD)) = id from rfl, List.map_id]
    rw [this]
    unfold seg
    have h2 := List.take_append_drop (h.dnF.getD n 0) (h.dn.take (h.dnF.getD (n + 1) 0))
    rw [List.take_take, Nat.min_eq_left hm] at h2
    exact h2
theorem ends_links {h : HierD} (u : FirstsOk h.node.length h.upF h.up.length) (d : FirstsOk h.node.length h.dnF h.dn.length) : (endsOf h).map (·.link) = h.up ++ h.dn := by
  unfold endsOf
  rw [List.map_append, ups_links u _ (Nat.le_refl _), dns_links d _ (Nat.le_refl _), u.last, d.last, List.take_length, List.take_length]
theorem ends_link {h : HierD} (u : FirstsOk h.node.length h.upF h.up.length) (d : FirstsOk h.node.length h.dnF h.dn.length) (i : Nat) (hi : i < h.up.length + h.dn.length) : ((endsOf h).getD i default).link = linkAt h i := by
  have hl := endsOf_length u d
  have h1 : ((endsOf h).map (·.link)).getD i default = ((endsOf h).getD i default).link := getD_map_lt _ _ _ _ _ (by omega)
  rw [← h1, ends_links u d]
  unfold linkAt
  split
  · rename_i h2; exact getD_app_left _ _ _ _ h2
  · rename_i h2; exact getD_app_right _ _ _ _ (by omega)
/-- Where an end of a list of ends stands. -/
theorem ends_tail {h : HierD} (u : FirstsOk h.node.length h.upF h.up.length) (d : FirstsOk h.node.length h.dnF h.dn.length) (i : Nat) (hi : i < h.up.length + h.dn.length) : let x := (endsOf h).getD i default
    if i < h.up.length then x.tail = x.rank ∧ x.head = x.link.to else x.tail = x.link.to ∧ x.head = x.rank := by
  have hl := endsOf_length u d
  have lu := endsUp_length u _ (Nat.le_refl _)
  rw [u.last] at lu
  simp only
  split
  · rename_i h1
    unfold endsOf
    rw [getD_app_left _ _ _ _ (by omega)]
    have hm : ((List.range h.node.length).flatMap (endsUp h.upF h.up)).getD i default ∈ (List.range h.node.length).flatMap (endsUp h.upF h.up) := by
      rw [List.getD_eq_getElem?_getD, List.getElem?_eq_getElem (by omega)]
      exact List.getElem_mem _
    obtain ⟨r, -, hr⟩ := List.mem_flatMap.1 hm
    simp only [endsUp, List.mem_map] at hr
    obtain ⟨l, -, he⟩ := hr
    rw [← he]
    exact ⟨rfl, rfl⟩
  · rename_i h1
    unfold endsOf
    rw [getD_app_right _ _ _ _ (by omega)]
    have ld := endsDn_length d _ (Nat.le_refl _)
    rw [d.last] at ld
    have hm : ((List.range h.node.length).flatMap (endsDn h.dnF h.dn)).getD (i - ((List.range h.node.length).flatMap (endsUp h.upF h.up)).length) default ∈ (List.range h.node.length).flatMap (endsDn h.dnF h.dn) := by
      rw [List.getD_eq_getElem?_getD, List.getElem?_eq_getElem (by omega)]
      exact List.getElem_mem _
    obtain ⟨r, -, hr⟩ := List.mem_flatMap.1 hm
    simp only [endsDn, List.mem_map] at hr
    obtain ⟨l, -, he⟩ := hr
    rw [← he]
    exact ⟨rfl, rfl⟩
end Go.Proofs.YtchhbgckonpedaaGreatDoor

/- The reference's look at a list of firsts. -/
namespace Go.Proofs.YtchhbgckonpedaaGreatDoor
open Go.ChangeShapes Go.WideShapes Go.ChangeAt Go.RowKit Go.Joins Go.Deep

/-- An error that is laid into the result's own block. -/
theorem ErrV.put {w : World} {x : EV} {B : Nat} {l : List Value} {c : Int} {ao : Option Addr} {n cap : Nat} (h : ErrV w (.agg #[.int .i64 c, .slice ao n cap]) x) (hc : Cells w B 36 l) (a b : Value) :
    ErrV ((w.setCell ⟨B, 0, none⟩ a).setCell ⟨B, 1, none⟩ b) (.agg #[.int .i64 c, .slice ao n cap]) x := by
  cases x with
  | nil => exact h
  | code n => exact h
  | «at» k i n =>
    obtain ⟨g, e, hg⟩ := h
    have hne : g ≠ B := by
      rintro rfl
      have := (show w.heap[g]? = _ from hg).symm.trans hc
      simp at this
    exact ⟨g, e, (hg.other (a := ⟨B, 0, none⟩) hne _).other (a := ⟨B, 1, none⟩) hne _⟩
def errZero : List Value := [.int .i64 0, .slice none 0 0]

set_option maxRecDepth 100000 in
set_option maxHeartbeats 2000000 in
theorem rfirsts_any (l : List Nat) (ao : Option Addr) (cap n links : Nat) (w : World) (see : See w ao cap u32Cells 1 l) (hb : ∀ x ∈ l, x < 4294967296) (hl : l.length = n + 1) (hn : n ≤ 65536) (hk : links ≤ 140737488355328) :
    Calls Tryz.prog 52 #[.slice ao l.length cap, .int .i64 n, .int .i64 links] w (ErrNew (firstsErr l links) w) := by
  have h0 : 0 < l.length := by omega
  obtain ⟨x0, hx0⟩ : ∃ x0, l[0]? = some x0 := ⟨_, List.getElem?_eq_getElem h0⟩
  obtain ⟨b, o, rfl, lb, hcell⟩ := see_one (f := fun (n : Nat) => Value.int .u32 n) see h0
  have c0 := hcell 0 x0 hx0
  rw [Nat.add_zero] at c0
  have HC := Lib.hid hcell
  have HB := Lib.hid hb
  have hg0 : l.getD 0 0 = x0 := by rw [List.getD_eq_getElem?_getD, hx0]; rfl
  have HG0 := Lib.hid hg0
  have HL := Lib.hid hl
  have hln : n < l.length := by omega
  clear see hcell hb hx0 hg0 hl
  have HR0 := Lib.hid (Cells.new w 36 errZero)
  have HB0 := Lib.hid ((Below.refl w.heap.size w).alloc (Nat.le_refl _) (.cells errZero.toArray 36))
  by_cases hz : x0 = 0
  · have dz : decide (x0 = 0) = true := by simpa using hz
    subst hz
    have hf : firstsErr l links = (match firstsGo l n with | .nil => if l.getD n 0 ≠ links then .code 14 else .nil | e => e) := by
      unfold firstsErr
      rw [if_neg (by rw [HG0.out]; simp), show l.length - 1 = n by have := HL.out; omega]
      all_goals (cases firstsGo l n <;> rfl)
    have HF := Lib.hid hf
    clear hf
    go_enter Tryz.func52, Tryz.ntmps52
    go_wp2_with fail
    go_loopg [7] n (fun g vi wr => ∃ k : Nat, vi = .int .i64 k ∧ k ≤ n ∧ g = n - k ∧ firstsGo l k = .nil ∧ Cells wr w.heap.size 36 errZero ∧ Below w.heap.size w wr)
    case atStart => exact ⟨0, rfl, Nat.zero_le _, rfl, rfl, HR0.out, HB0.out⟩
    case round =>
      obtain ⟨k, rfl, hk, hg, hn, hcs, hbl⟩ := hrel
      have HN := Lib.hid hn
      have HBL := Lib.hid hbl
      have HCS := Lib.hid hcs
      have HG := Lib.hid hg
      clear hn hbl hg hcs
      by_cases hlt : k < n
      · obtain ⟨x, hx⟩ : ∃ x, l[k]? = some x := ⟨_, List.getElem?_eq_getElem (by omega)⟩
        obtain ⟨y, hy⟩ : ∃ y, l[k + 1]? = some y := ⟨_, List.getElem?_eq_getElem (by omega)⟩
        have cx : wr.cell? ⟨b, o + k, none⟩ = some (.int .u32 x) := ck HBL.out (HC.out k x hx)
        have cy : wr.cell? ⟨b, o + (k + 1), none⟩ = some (.int .u32 y) := ck HBL.out (HC.out (k + 1) y hy)
        have hgx : l.getD k 0 = x := by rw [List.getD_eq_getElem?_getD, hx]; rfl
        have hgy : l.getD (k + 1) 0 = y := by rw [List.getD_eq_getElem?_getD, hy]; rfl
        have HGX := Lib.hid hgx
        have HGY := Lib.hid hgy
        have hk1 : k + 1 < l.length := by omega
        clear hgx hgy hx hy
        by_cases hd : y < x
        · have hd2 : decide (y < x) = true := by simpa using hd
          have hfe : firstsErr l links = .at 3 k 14 := by
            rw [HF.out, firstsGo_stop hlt HN.out (by rw [HGX.out, HGY.out]; exact hd)]
          have HFE := Lib.hid hfe
          clear hfe hd
          go_wp2_with fail
          go_quiet (fail)
          go_wp2_with fail
          refine (e_any 14 _).mono ?_
          rintro e w1 ⟨u, rfl, hu, hb1⟩
          obtain rfl : u = _ := hu
          have HB1 := Lib.hid ((below_drewN HBL.out _).trans (hb1.mono HBL.out.size))
          have HC1 := Lib.hid ((HCS.out.drewN _).below hb1 HCS.out.lt)
          clear hb1 cx cy
          go_wp2_with fail
          refine (rat_any 3 k 14 _).mono ?_
          rintro e w2 ⟨u, rfl, hu, hb2⟩
          have HB2 := Lib.hid (HB1.out.trans (hb2.mono HB1.out.size))
          have hc2 := HC1.out.below hb2 HC1.out.lt
          have hz2 := hc2.lt
          have f0 := hc2.frozen 0
          have f1 := hc2.frozen 1
          have q0 : w2.cell? ⟨w.heap.size, 0, none⟩ = some (.int .i64 0) := hc2.cell rfl
          have q1 : w2.cell? ⟨w.heap.size, 1, none⟩ = some (.slice none 0 0) := hc2.cell rfl
          have HC2 := Lib.hid hc2
          obtain ⟨uc, ua, un, ucap, rfl⟩ := hu.form
          have HU := Lib.hid hu
          clear hb2 hc2 hu
          go_wp2
          refine bodyPost_ret (results_e rfl _ _ w.heap.size 36 [.int .i64 uc, .slice ua un ucap] _ rfl ((HC2.out.set 0 _).set 1 _) Tryz.underlying36 rfl (by rw [Tryz.sizeErr]; rfl)) rfl ?_
          rw [HFE.out]
          exact ⟨_, rfl, HU.out.put HC2.out _ _, (HB2.out.setCell (p := ⟨w.heap.size, 0, none⟩) (Nat.le_refl _) _).setCell (p := ⟨w.heap.size, 1, none⟩) (Nat.le_refl _) _⟩
        · have hd2 : decide (y < x) = false := by simpa using hd
          go_wp2_with fail
          go_quiet (fail)
          go_wp2_with fail
          go_roundg (n - (k + 1))
          case measure => rw [HG.out]; omega
          case rel =>
            refine ⟨k + 1, by go_num, by omega, rfl, ?_, HCS.out, below_drewN HBL.out _⟩
            unfold firstsGo
            rw [HN.out]
            simp only
            rw [if_neg (by rw [HGX.out, HGY.out]; exact hd)]
      · obtain rfl : k = n := by omega
        obtain ⟨x, hx⟩ : ∃ x, l[k]? = some x := ⟨_, List.getElem?_eq_getElem (by omega)⟩
        have cx : wr.cell? ⟨b, o + k, none⟩ = some (.int .u32 x) := ck HBL.out (HC.out _ x hx)
        have hgx : l.getD k 0 = x := by rw [List.getD_eq_getElem?_getD, hx]; rfl
        have hx32 : x < 4294967296 := HB.out x (List.mem_of_getElem? hx)
        have HGX := Lib.hid hgx
        have hz2 := HCS.out.lt
        have f0 := HCS.out.frozen 0
        have f1 := HCS.out.frozen 1
        have q0 : wr.cell? ⟨w.heap.size, 0, none⟩ = some (.int .i64 0) := HCS.out.cell rfl
        have q1 : wr.cell? ⟨w.heap.size, 1, none⟩ = some (.slice none 0 0) := HCS.out.cell rfl
        clear hgx hx
        by_cases hd : x = links
        · have hd2 : ((x : Int) != (links : Int)) = false := by simp; omega
          have hfe : firstsErr l links = .nil := by rw [HF.out, HN.out]; simp only; rw [if_neg (by rw [HGX.out]; simpa using hd)]
          have HFE := Lib.hid hfe
          clear hfe hd
          go_wp2
          refine bodyPost_ret (results_e rfl _ _ w.heap.size 36 [.int .i64 0, .slice none 0 0] _ rfl ((HCS.out.set 0 _).set 1 _) Tryz.underlying36 rfl (by rw [Tryz.sizeErr]; rfl)) rfl ?_
          rw [HFE.out]
          exact ⟨_, rfl, rfl, (HBL.out.setCell (p := ⟨w.heap.size, 0, none⟩) (Nat.le_refl _) _).setCell (p := ⟨w.heap.size, 1, none⟩) (Nat.le_refl _) _⟩
        · have hd2 : ((x : Int) != (links : Int)) = true := by simp; omega
          have hfe : firstsErr l links = .code 14 := by rw [HF.out, HN.out]; simp only; rw [if_pos (by rw [HGX.out]; exact hd)]
          have HFE := Lib.hid hfe
          clear hfe hd
          go_wp2_with fail
          refine (e_any 14 _).mono ?_
          rintro e w1 ⟨u, rfl, hu, hb1⟩
          obtain rfl : u = _ := hu
          have HB1 := Lib.hid (HBL.out.trans (hb1.mono HBL.out.size))
          have hc1 := HCS.out.below hb1 HCS.out.lt
          have hz3 := hc1.lt
          have f2 := hc1.frozen 0
          have f3 := hc1.frozen 1
          have q2 : w1.cell? ⟨w.heap.size, 0, none⟩ = some (.int .i64 0) := hc1.cell rfl
          have q3 : w1.cell? ⟨w.heap.size, 1, none⟩ = some (.slice none 0 0) := hc1.cell rfl
          have HC1 := Lib.hid hc1
          clear hb1 cx hc1 q0 q1 f0 f1
          go_wp2
          refine bodyPost_ret (results_e rfl _ _ w.heap.size 36 [.int .i64 14, .slice none 0 0] _ rfl ((HC1.out.set 0 _).set 1 _) Tryz.underlying36 rfl (by rw [Tryz.sizeErr]; rfl)) rfl ?_
          rw [HFE.out]
          exact ⟨_, rfl, rfl, (HB1.out.setCell (p := ⟨w.heap.size, 0, none⟩) (Nat.le_refl _) _).setCell (p := ⟨w.heap.size, 1, none⟩) (Nat.le_refl _) _⟩
  · have dz : decide (x0 = 0) = false := by simpa using hz
    have hf : firstsErr l links = .code 14 := by unfold firstsErr; rw [if_pos (by rw [HG0.out]; exact hz)]
    rw [hf]
    clear hf
    go_enter Tryz.func52, Tryz.ntmps52
    go_wp2_with fail
    refine (e_any 14 _).mono ?_
    rintro e w1 ⟨u, rfl, hu, hb1⟩
    obtain rfl : u = _ := hu
    have HB1 := Lib.hid (HB0.out.trans (hb1.mono HB0.out.size))
    have hc1 := HR0.out.below hb1 HR0.out.lt
    have hz3 := hc1.lt
    have f2 := hc1.frozen 0
    have f3 := hc1.frozen 1
    have q2 : w1.cell? ⟨w.heap.size, 0, none⟩ = some (.int .i64 0) := hc1.cell rfl
    have q3 : w1.cell? ⟨w.heap.size, 1, none⟩ = some (.slice none 0 0) := hc1.cell rfl
    have HC1 := Lib.hid hc1
    clear hb1 c0 hc1
    go_wp2
    refine bodyPost_ret (results_e rfl _ _ w.heap.size 36 [.int .i64 14, .slice none 0 0] _ rfl ((HC1.out.set 0 _).set 1 _) Tryz.underlying36 rfl (by rw [Tryz.sizeErr]; rfl)) rfl ?_
    exact ⟨_, rfl, rfl, (HB1.out.setCell (p := ⟨w.heap.size, 0, none⟩) (Nat.le_refl _) _).setCell (p := ⟨w.heap.size, 1, none⟩) (Nat.le_refl _) _⟩
end Go.Proofs.YtchhbgckonpedaaGreatDoor

/- The reference's ranks of all links. -/
namespace Go.Proofs.YtchhbgckonpedaaGreatDoor
open Go.ChangeShapes Go.WideShapes Go.ChangeAt Go.RowKit Go.Joins Go.Deep

def repR (first : List Nat) (r : Nat) : List Nat := List.replicate (first.getD (r + 1) 0 - first.getD r 0) r
theorem seg_length {n : Nat} {first : List Nat} {links : List LinkD} (u : FirstsOk n first links.length) (r : Nat) (hr : r < n) : (seg first links r).length = first.getD (r + 1) 0 - first.getD r 0 := by
  have h2 := u.le (r + 1) (by omega)
  unfold seg
  rw [List.length_drop, List.length_take]
  omega
theorem ups_ranks {h : HierD} (u : FirstsOk h.node.length h.upF h.up.length) : ∀ n, n ≤ h.node.length → ((List.range n).flatMap (endsUp h.upF h.up)).map (·.rank) = (List.range n).flatMap (repR h.upF) := by
  intro n
  induction n with
  | zero => intro _; rfl
  | succ n ih =>
    intro hn
    rw [List.range_succ, List.flatMap_append, List.map_append, ih (by omega), List.flatMap_append]
    simp only [List.flatMap_cons, List.flatMap_nil, List.append_nil, endsUp, List.map_map]
    congr 1
    rw [show ((fun x : EndD => x.rank) ∘ fun l => (⟨l, n, l.to, n⟩ : EndD)) = fun _ => n from rfl, List.map_const', seg_length u n (by omega)]
    rfl
theorem dns_ranks {h : HierD} (u : FirstsOk h.node.length h.dnF h.dn.length) : ∀ n, n ≤ h.node.length → ((List.range n).flatMap (endsDn h.dnF h.dn)).map (·.rank) = (List.range n).flatMap (repR h.dnF) := by
  intro n
  induction n with
  | zero => intro _; rfl
  | succ n ih =>
    intro hn
    rw [List.range_succ, List.flatMap_append, List.map_append, ih (by omega), List.flatMap_append]
    simp only [List.flatMap_cons, List.flatMap_nil, List.append_nil, endsDn, List.map_map]
    congr 1
    rw [show ((fun x : EndD => x.rank) ∘ fun l => (⟨l, l.to, n, n⟩ : EndD)) = fun _ => n from rfl, List.map_const', seg_length u n (by omega)]
    rfl
theorem ranksL_eq {h : HierD} (u : FirstsOk h.node.length h.upF h.up.length) (d : FirstsOk h.node.length h.dnF h.dn.length) : ranksL h = (List.range h.node.length).flatMap (repR h.upF) ++ (List.range h.node.length).flatMap (repR h.dnF) := by
  unfold ranksL endsOf
  rw [List.map_append, ups_ranks u _ (Nat.le_refl _), dns_ranks d _ (Nat.le_refl _)]
theorem reps_length {n m : Nat} {first : List Nat} (u : FirstsOk n first m) (r : Nat) (hr : r ≤ n) : ((List.range r).flatMap (repR first)).length = first.getD r 0 := by
  induction r with
  | zero => rw [u.zero]; rfl
  | succ r ih =>
    have h1 := u.mono r (by omega)
    rw [List.range_succ, List.flatMap_append, List.length_append, ih (by omega)]
    simp only [List.flatMap_cons, List.flatMap_nil, List.append_nil, repR, List.length_replicate]
    omega
theorem rep_step (P first : List Nat) (r : Nat) : P ++ (List.range (r + 1)).flatMap (repR first) = P ++ (List.range r).flatMap (repR first) ++ List.replicate (first.getD (r + 1) 0 - first.getD r 0) r := by
  rw [List.range_succ, List.flatMap_append, List.append_assoc]
  simp only [List.flatMap_cons, List.flatMap_nil, List.append_nil, repR]
def IntsNew (l : List Nat) (w : World) (e : Ending) (w' : World) : Prop := ∃ ao cap, e = .returned (.slice ao l.length cap) ∧ See w' ao cap i64Cells 1 l ∧ Below w.heap.size w w'

set_option maxRecDepth 100000 in
set_option maxHeartbeats 4000000 in
theorem rranks_any (A : HA) (h : HierD) (w : World) (see : HSee w A h) (u : FirstsOk h.node.length h.upF h.up.length) (d : FirstsOk h.node.length h.dnF h.dn.length) (hn : h.node.length ≤ 65536) (htot : h.up.length + h.dn.length ≤ 1048576) :
    Calls Tryz.prog 53 #[hierVal A h] w (IntsNew (ranksL h) w) := by
  have hu63 : h.up.length ≤ 1048576 := by omega
  have hd63 : h.dn.length ≤ 1048576 := by omega
  have SEE := Lib.hid see
  have UOK := Lib.hid u
  have DOK := Lib.hid d
  have hul : h.upF.length ≤ 65537 := by have := u.len; omega
  have hdl : h.dnF.length ≤ 65537 := by have := d.len; omega
  have HTOT := Lib.hid htot
  clear see u d htot
  unfold hierVal
  have HX0 := Lib.hid (Cells.new w 25 (hierCells A h))
  have HB0 := Lib.hid ((Below.refl w.heap.size w).alloc (Nat.le_refl _) (.cells (hierCells A h).toArray 25))
  go_enter Tryz.func53, Tryz.ntmps53
  go_wp2_with fail
  go_loopg [3, 4] h.node.length (fun g vl vr wr => ∃ (r : Nat) (ao : Option Addr) (cap : Nat) (L : List Nat), L = (List.range r).flatMap (repR h.upF) ∧ vr = .int .i64 r ∧ r ≤ h.node.length ∧ g = h.node.length - r ∧ vl = .slice ao (h.upF.getD r 0) cap ∧
      wr.ownsRow 0 3 1 (.slice ao (h.upF.getD r 0) cap) (h.upF.getD r 0) (L.flatMap i64Cells) ∧ (∀ b, (Value.slice ao (h.upF.getD r 0) cap).ownBlock = some b → w.heap.size < b) ∧
      Cells wr w.heap.size 25 (hierCells A h) ∧ Below w.heap.size w wr)
  case atStart => exact ⟨0, none, 0, [], rfl, rfl, Nat.zero_le _, rfl, by rw [UOK.out.zero], by rw [UOK.out.zero]; exact World.ownsRow_nil _ _ _ _, by simp [Value.ownBlock], HX0.out, HB0.out⟩
  case round =>
    obtain ⟨r, ao, cap, L, hL, rfl, hr, hg, rfl, hown, hnew, hcs, hbl⟩ := hrel
    have HL := Lib.hid hL
    clear hL
    have HG := Lib.hid hg
    have HOWN := Lib.hid hown
    have HNEW := Lib.hid hnew
    have HCS := Lib.hid hcs
    have HBL := Lib.hid hbl
    have lb := hcs.lt
    obtain ⟨k0, k1, k2, k3, k4⟩ := hier_five hcs
    have hfl : h.upF.length = h.node.length + 1 := UOK.out.len
    have HFL := Lib.hid hfl
    clear hg hown hnew hcs hbl hfl
    by_cases hrn : r < h.node.length
    · have d0 : decide ((r : Int) + 1 < (h.upF.length : Int)) = true := by have := HFL.out; simp; omega
      obtain ⟨lo, hlo⟩ : ∃ lo, h.upF[r]? = some lo := ⟨_, List.getElem?_eq_getElem (by have := HFL.out; omega)⟩
      obtain ⟨hi, hhi⟩ : ∃ hi, h.upF[r + 1]? = some hi := ⟨_, List.getElem?_eq_getElem (by have := HFL.out; omega)⟩
      have glo : h.upF.getD r 0 = lo := by rw [List.getD_eq_getElem?_getD, hlo]; rfl
      have ghi : h.upF.getD (r + 1) 0 = hi := by rw [List.getD_eq_getElem?_getD, hhi]; rfl
      have hlh : lo ≤ hi := by rw [← glo, ← ghi]; exact UOK.out.mono r hrn
      have hhl : hi ≤ h.up.length := by rw [← ghi]; exact UOK.out.le (r + 1) (by omega)
      have su := SEE.out.below HBL.out
      obtain ⟨b1, o1, ea1, lb1, cc1⟩ := see_one (f := fun (n : Nat) => Value.int .u32 n) su.upF (by have := HFL.out; omega)
      have HCC := Lib.hid cc1
      have HLO := Lib.hid hlo
      have HHI := Lib.hid hhi
      have GLO := Lib.hid glo
      have GHI := Lib.hid ghi
      have HEA := Lib.hid ea1
      have cl := cc1 r lo hlo
      have hil : r < h.upF.length := by have := HFL.out; omega
      have hil1 : r + 1 < h.upF.length := by have := HFL.out; omega
      rw [ea1] at k1
      clear hlo hhi glo ghi su cc1 ea1
      go_wp2_with fail
      obtain ⟨wo, hwo⟩ : ∃ wo : World, wo = wr := ⟨_, rfl⟩
      go_loopg [3, 5] (hi - lo) (fun g vl vi wr2 => ∃ (j : Nat) (ao2 : Option Addr) (cap2 : Nat) (M : List Nat), M = (List.range r).flatMap (repR h.upF) ++ List.replicate j r ∧ vi = .int .u32 (lo + j : Nat) ∧ j ≤ hi - lo ∧ g = hi - lo - j ∧ vl = .slice ao2 (lo + j) cap2 ∧
        wr2.ownsRow 0 3 1 (.slice ao2 (lo + j) cap2) (lo + j) (M.flatMap i64Cells) ∧ (∀ b, (Value.slice ao2 (lo + j) cap2).ownBlock = some b → w.heap.size < b) ∧
        Cells wr2 w.heap.size 25 (hierCells A h) ∧ Below w.heap.size w wr2)
      case atStart =>
        have h1 := HOWN.out
        have h2 := HNEW.out
        rw [GLO.out] at h1 h2
        exact ⟨0, ao, cap, L, by rw [HL.out]; simp, rfl, Nat.zero_le _, rfl, by rw [GLO.out]; rfl, h1, h2, HCS.out, HBL.out⟩
      case round =>
        obtain ⟨j, ao2, cap2, M, hM, rfl, hj, hgj, rfl, hown, hnew, hcs, hbl⟩ := hrel
        have HM := Lib.hid hM
        clear hM
        have HGJ := Lib.hid hgj
        have HOWN2 := Lib.hid hown
        have HNEW2 := Lib.hid hnew
        have HCS2 := Lib.hid hcs
        have HBL2 := Lib.hid hbl
        have lb2 := hcs.lt
        have hz2 := hbl.size
        obtain ⟨k0, k1, k2, k3, k4⟩ := hier_five hcs
        obtain ⟨b1', o1', ea1, lb1, cc1⟩ := see_one (f := fun (n : Nat) => Value.int .u32 n) (SEE.out.below HBL2.out).upF (by omega)
        have ch := cc1 (r + 1) hi HHI.out
        rw [ea1] at k1
        have hplb : lo + j ≤ 1048576 := by have := HTOT.out; omega
        clear hgj hown hnew hcs hbl cc1 ea1
        by_cases hjl : lo + j < hi
        · have d1 : decide ((lo : Int) + (j : Int) < (hi : Int)) = true := by simp; omega
          go_wp2_with (at_builtin; refine wpList_app _ rfl _ _ 28 rfl 3 (.int .i64 0) 1 8 Tryz.underlying28 Tryz.infoInt rfl (by decide) (.slice ao2 (lo + j) cap2) (lo + j) (M.flatMap i64Cells) rfl ?own ⟨wr.heap.size, 0, none⟩ 1 1 (i64Cells r) rfl rfl ?c1 ?c2 ?c3 ?c4 ?_)
          case own => exact own_kept (bs := []) HOWN2.out ((Only.refl _ wr).alloc _) (fun q _ => by simp)
          case c1 => exact cells_new wr 3 (i64Cells r)
          case c2 => intro u hu; simp [i64Cells] at hu; subst hu; rfl
          case c3 => unfold maxLen; omega
          case c4 => omega
          intro ao5 cap5 w5 hown5 ho5 hk5
          have hbw := HBL2.out.alloc hz2 (.cells #[.int .i64 r] 3)
          have hnew5 : ∀ x, (Value.slice ao5 (lo + j + 1) cap5).ownBlock = some x → w.heap.size < x := by
            intro x hx
            rcases hk5 x hx with h1 | h1
            · exact HNEW2.out x h1
            · first | omega | (simp at h1; omega)
          have hbl5 : Below w.heap.size w w5 := hbw.trans (ho5.below hbw.size (fun q hq => Nat.le_of_lt (HNEW2.out q (by simpa using hq))))
          have hcs5 := (HCS2.out.alloc (.cells #[.int .i64 r] 3)).kept ho5 (fun hq => by have := HNEW2.out _ (by simpa using hq); omega)
          rw [show M.flatMap i64Cells ++ i64Cells r = (M ++ [r]).flatMap i64Cells by rw [List.flatMap_append]; simp] at hown5
          have O5 := Lib.hid hown5
          have N5 := Lib.hid hnew5
          have B5 := Lib.hid hbl5
          have C5 := Lib.hid hcs5
          clear hown5 ho5 hk5 hnew5 hbl5 hbw hcs5
          go_wp2_with fail
          go_roundg (hi - lo - (j + 1))
          case measure => rw [HGJ.out]; omega
          case rel => exact ⟨j + 1, ao5, cap5, M ++ [r], by rw [HM.out, List.replicate_succ', List.append_assoc], by go_num, by omega, rfl, rfl, O5.out, N5.out, C5.out, B5.out⟩
        · have d1 : decide ((lo : Int) + (j : Int) < (hi : Int)) = false := by simp; omega
          obtain rfl : j = hi - lo := by omega
          go_wp2_with fail
          go_roundg (h.node.length - (r + 1))
          case measure => rw [HG.out]; omega
          case rel =>
            have e1 : lo + (hi - lo) = h.upF.getD (r + 1) 0 := by rw [GHI.out]; omega
            have e2 : M = (List.range (r + 1)).flatMap (repR h.upF) := by
              rw [HM.out]
              have := rep_step [] h.upF r
              rw [GLO.out, GHI.out] at this
              simpa using this.symm
            have h1 := HOWN2.out
            have h2 := HNEW2.out
            rw [e1] at h1
            rw [e1] at h2
            exact ⟨r + 1, ao2, cap2, M, e2, by go_num, by omega, rfl, by rw [e1], h1, h2, HCS2.out, HBL2.out⟩
    · obtain rfl : r = h.node.length := by omega
      have d0 : decide ((h.node.length : Int) + 1 < (h.upF.length : Int)) = false := by have := HFL.out; simp; omega
      go_wp2_with fail
      go_loopg [3, 6] h.node.length (fun g vl vr wr => ∃ (r : Nat) (ao : Option Addr) (cap : Nat) (L : List Nat), L = (List.range h.node.length).flatMap (repR h.upF) ++ (List.range r).flatMap (repR h.dnF) ∧ vr = .int .i64 r ∧ r ≤ h.node.length ∧ g = h.node.length - r ∧ vl = .slice ao (h.up.length + h.dnF.getD r 0) cap ∧
          wr.ownsRow 0 3 1 (.slice ao (h.up.length + h.dnF.getD r 0) cap) (h.up.length + h.dnF.getD r 0) (L.flatMap i64Cells) ∧ (∀ b, (Value.slice ao (h.up.length + h.dnF.getD r 0) cap).ownBlock = some b → w.heap.size < b) ∧
          Cells wr w.heap.size 25 (hierCells A h) ∧ Below w.heap.size w wr)
      case atStart => 
          have h1 := HOWN.out
          have h2 := HNEW.out
          rw [UOK.out.last] at h1 h2
          exact ⟨0, ao, cap, L, by rw [HL.out]; simp, rfl, Nat.zero_le _, rfl, by rw [DOK.out.zero, UOK.out.last]; rfl, by rw [DOK.out.zero]; exact h1, by rw [DOK.out.zero]; exact h2, HCS.out, HBL.out⟩
      case round =>
        obtain ⟨r, ao, cap, L, hL, rfl, hr, hg, rfl, hown, hnew, hcs, hbl⟩ := hrel
        have HL := Lib.hid hL
        clear hL
        have HG := Lib.hid hg
        have HOWN := Lib.hid hown
        have HNEW := Lib.hid hnew
        have HCS := Lib.hid hcs
        have HBL := Lib.hid hbl
        have lb := hcs.lt
        obtain ⟨k0, k1, k2, k3, k4⟩ := hier_five hcs
        have hfl : h.dnF.length = h.node.length + 1 := DOK.out.len
        have HFL := Lib.hid hfl
        clear hg hown hnew hcs hbl hfl
        by_cases hrn : r < h.node.length
        · have d0 : decide ((r : Int) + 1 < (h.dnF.length : Int)) = true := by have := HFL.out; simp; omega
          obtain ⟨lo, hlo⟩ : ∃ lo, h.dnF[r]? = some lo := ⟨_, List.getElem?_eq_getElem (by have := HFL.out; omega)⟩
          obtain ⟨hi, hhi⟩ : ∃ hi, h.dnF[r + 1]? = some hi := ⟨_, List.getElem?_eq_getElem (by have := HFL.out; omega)⟩
          have glo : h.dnF.getD r 0 = lo := by rw [List.getD_eq_getElem?_getD, hlo]; rfl
          have ghi : h.dnF.getD (r + 1) 0 = hi := by rw [List.getD_eq_getElem?_getD, hhi]; rfl
          have hlh : lo ≤ hi := by rw [← glo, ← ghi]; exact DOK.out.mono r hrn
          have hhl : hi ≤ h.dn.length := by rw [← ghi]; exact DOK.out.le (r + 1) (by omega)
          have su := SEE.out.below HBL.out
          obtain ⟨b1, o1, ea1, lb1, cc1⟩ := see_one (f := fun (n : Nat) => Value.int .u32 n) su.dnF (by have := HFL.out; omega)
          have HCC := Lib.hid cc1
          have HLO := Lib.hid hlo
          have HHI := Lib.hid hhi
          have GLO := Lib.hid glo
          have GHI := Lib.hid ghi
          have HEA := Lib.hid ea1
          have cl := cc1 r lo hlo
          have hil : r < h.dnF.length := by have := HFL.out; omega
          have hil1 : r + 1 < h.dnF.length := by have := HFL.out; omega
          rw [ea1] at k3
          clear hlo hhi glo ghi su cc1 ea1
          go_wp2_with fail
          obtain ⟨wo, hwo⟩ : ∃ wo : World, wo = wr := ⟨_, rfl⟩
          go_loopg [3, 7] (hi - lo) (fun g vl vi wr2 => ∃ (j : Nat) (ao2 : Option Addr) (cap2 : Nat) (M : List Nat), M = (List.range h.node.length).flatMap (repR h.upF) ++ (List.range r).flatMap (repR h.dnF) ++ List.replicate j r ∧ vi = .int .u32 (lo + j : Nat) ∧ j ≤ hi - lo ∧ g = hi - lo - j ∧ vl = .slice ao2 (h.up.length + lo + j) cap2 ∧
            wr2.ownsRow 0 3 1 (.slice ao2 (h.up.length + lo + j) cap2) (h.up.length + lo + j) (M.flatMap i64Cells) ∧ (∀ b, (Value.slice ao2 (h.up.length + lo + j) cap2).ownBlock = some b → w.heap.size < b) ∧
            Cells wr2 w.heap.size 25 (hierCells A h) ∧ Below w.heap.size w wr2)
          case atStart =>
            have h1 := HOWN.out
            have h2 := HNEW.out
            rw [GLO.out] at h1 h2
            exact ⟨0, ao, cap, L, by rw [HL.out]; simp, rfl, Nat.zero_le _, rfl, by rw [GLO.out]; rfl, h1, h2, HCS.out, HBL.out⟩
          case round =>
            obtain ⟨j, ao2, cap2, M, hM, rfl, hj, hgj, rfl, hown, hnew, hcs, hbl⟩ := hrel
            have HM := Lib.hid hM
            clear hM
            have HGJ := Lib.hid hgj
            have HOWN2 := Lib.hid hown
            have HNEW2 := Lib.hid hnew
            have HCS2 := Lib.hid hcs
            have HBL2 := Lib.hid hbl
            have lb2 := hcs.lt
            have hz2 := hbl.size
            obtain ⟨k0, k1, k2, k3, k4⟩ := hier_five hcs
            obtain ⟨b1', o1', ea1, lb1, cc1⟩ := see_one (f := fun (n : Nat) => Value.int .u32 n) (SEE.out.below HBL2.out).dnF (by omega)
            have ch := cc1 (r + 1) hi HHI.out
            rw [ea1] at k3
            have hplb : h.up.length + lo + j ≤ 1048576 := by have := HTOT.out; omega
            clear hgj hown hnew hcs hbl cc1 ea1
            by_cases hjl : lo + j < hi
            · have d1 : decide ((lo : Int) + (j : Int) < (hi : Int)) = true := by simp; omega
              go_wp2_with (at_builtin; refine wpList_app _ rfl _ _ 28 rfl 3 (.int .i64 0) 1 8 Tryz.underlying28 Tryz.infoInt rfl (by decide) (.slice ao2 (h.up.length + lo + j) cap2) (h.up.length + lo + j) (M.flatMap i64Cells) rfl ?own ⟨wr.heap.size, 0, none⟩ 1 1 (i64Cells r) rfl rfl ?c1 ?c2 ?c3 ?c4 ?_)
              case own => exact own_kept (bs := []) HOWN2.out ((Only.refl _ wr).alloc _) (fun q _ => by simp)
              case c1 => exact cells_new wr 3 (i64Cells r)
              case c2 => intro u hu; simp [i64Cells] at hu; subst hu; rfl
              case c3 => unfold maxLen; omega
              case c4 => omega
              intro ao5 cap5 w5 hown5 ho5 hk5
              have hbw := HBL2.out.alloc hz2 (.cells #[.int .i64 r] 3)
              have hnew5 : ∀ x, (Value.slice ao5 (h.up.length + lo + j + 1) cap5).ownBlock = some x → w.heap.size < x := by
                intro x hx
                rcases hk5 x hx with h1 | h1
                · exact HNEW2.out x h1
                · first | omega | (simp at h1; omega)
              have hbl5 : Below w.heap.size w w5 := hbw.trans (ho5.below hbw.size (fun q hq => Nat.le_of_lt (HNEW2.out q (by simpa using hq))))
              have hcs5 := (HCS2.out.alloc (.cells #[.int .i64 r] 3)).kept ho5 (fun hq => by have := HNEW2.out _ (by simpa using hq); omega)
              rw [show M.flatMap i64Cells ++ i64Cells r = (M ++ [r]).flatMap i64Cells by rw [List.flatMap_append]; simp] at hown5
              have O5 := Lib.hid hown5
              have N5 := Lib.hid hnew5
              have B5 := Lib.hid hbl5
              have C5 := Lib.hid hcs5
              clear hown5 ho5 hk5 hnew5 hbl5 hbw hcs5
              go_wp2_with fail
              go_roundg (hi - lo - (j + 1))
              case measure => rw [HGJ.out]; omega
              case rel => exact ⟨j + 1, ao5, cap5, M ++ [r], by rw [HM.out, List.replicate_succ', List.append_assoc], by go_num, by omega, rfl, rfl, O5.out, N5.out, C5.out, B5.out⟩
            · have d1 : decide ((lo : Int) + (j : Int) < (hi : Int)) = false := by simp; omega
              obtain rfl : j = hi - lo := by omega
              go_wp2_with fail
              go_roundg (h.node.length - (r + 1))
              case measure => rw [HG.out]; omega
              case rel =>
                have e1 : h.up.length + lo + (hi - lo) = h.up.length + h.dnF.getD (r + 1) 0 := by rw [GHI.out]; omega
                have e2 : M = (List.range h.node.length).flatMap (repR h.upF) ++ (List.range (r + 1)).flatMap (repR h.dnF) := by
                  rw [HM.out]
                  have := rep_step ((List.range h.node.length).flatMap (repR h.upF)) h.dnF r
                  rw [GLO.out, GHI.out] at this
                  exact this.symm
                have h1 := HOWN2.out
                have h2 := HNEW2.out
                rw [e1] at h1
                rw [e1] at h2
                exact ⟨r + 1, ao2, cap2, M, e2, by go_num, by omega, rfl, by rw [e1], h1, h2, HCS2.out, HBL2.out⟩
        · obtain rfl : r = h.node.length := by omega
          have d0 : decide ((h.node.length : Int) + 1 < (h.dnF.length : Int)) = false := by have := HFL.out; simp; omega
          go_wp2
          go_returns
          have hO := HOWN.out
          have hr := ranksL_eq UOK.out DOK.out
          rw [← HL.out] at hr
          rw [DOK.out.last, ← hr] at hO
          have hS := See.of_own i64Cells_len hO (by omega)
          have hE : (Ending.returned (.slice ao (h.up.length + h.dnF.getD h.node.length 0) cap)) = .returned (.slice ao (ranksL h).length cap) := by rw [DOK.out.last, hS.2]
          exact ⟨ao, cap, hE, hS.1, HBL.out⟩
end Go.Proofs.YtchhbgckonpedaaGreatDoor

/- The reference's EndOf. -/
namespace Go.Proofs.YtchhbgckonpedaaGreatDoor
open Go.ChangeShapes Go.WideShapes Go.ChangeAt Go.RowKit Go.Joins Go.Deep

theorem rlink_at (A : HA) (h : HierD) (i : Nat) (x : LinkD) (w : World) (see : HSee w A h) (hx : linkAt h i = x) (hi : i < h.up.length + h.dn.length) (hd63 : h.dn.length ≤ 1048576) :
    Calls Tryz.prog 29 #[hierVal A h, .int .i64 i] w (LinkIs x w) := hx ▸ rlink_any A h i w see hi hd63
theorem Tryz.fieldLink0 (a b c d : Int) (w : World) : (Instr.field 65 (.agg #[.int .u32 a, .int .u64 b, .int .u32 c, .int .u32 d]) 0).run Tryz.prog w = .ok (.int .u32 a) w := by kernel_rfl
theorem Tryz.fieldLink1 (a b c d : Int) (w : World) : (Instr.field 65 (.agg #[.int .u32 a, .int .u64 b, .int .u32 c, .int .u32 d]) 1).run Tryz.prog w = .ok (.int .u64 b) w := by kernel_rfl
def rendVal (x : EndD) : Value := .agg #[.int .i64 x.tail, .int .i64 x.head, .int .i64 x.rank]
def REndIs (x : EndD) (w : World) (e : Ending) (w' : World) : Prop := e = .returned (rendVal x) ∧ Below w.heap.size w w'
theorem Tryz.sizeREnd : (Tryz.prog.info? 59).map (·.size) = some 3 := by kernel_rfl
theorem ranks_get {h : HierD} (i : Nat) (hi : i < (endsOf h).length) : (ranksL h)[i]? = some ((endsOf h).getD i default).rank := by
  unfold ranksL
  rw [List.getElem?_map, List.getD_eq_getElem?_getD, List.getElem?_eq_getElem hi]
  rfl

set_option maxRecDepth 100000 in
set_option maxHeartbeats 1000000 in
theorem rendof_any (A : HA) (h : HierD) (i : Nat) (ra : Option Addr) (rc : Nat) (w : World) (see : HSee w A h) (sr : See w ra rc i64Cells 1 (ranksL h)) (u : FirstsOk h.node.length h.upF h.up.length) (d : FirstsOk h.node.length h.dnF h.dn.length) (htot : h.up.length + h.dn.length ≤ 1048576) (hi : i < h.up.length + h.dn.length) :
    Calls Tryz.prog 55 #[hierVal A h, .slice ra (ranksL h).length rc, .int .i64 i] w (REndIs ((endsOf h).getD i default) w) := by
  have hlen := endsOf_length u d
  have hrl : (ranksL h).length = (endsOf h).length := by unfold ranksL; simp
  have hil : i < (ranksL h).length := by omega
  have hget := ranks_get (h := h) i (by omega)
  have hlk := (ends_link u d i hi).symm
  have htl := ends_tail u d i hi
  simp only at htl
  have hto : (linkAt h i).to < 4294967296 := by
    unfold linkAt
    split
    · rename_i h1
      rw [List.getD_eq_getElem?_getD, List.getElem?_eq_getElem h1]
      exact (see.bup _ (List.getElem_mem h1)).1
    · rename_i h1
      rw [List.getD_eq_getElem?_getD, List.getElem?_eq_getElem (by omega)]
      exact (see.bdn _ (List.getElem_mem _)).1
  rw [hlk] at hto
  generalize (endsOf h).getD i default = X at *
  obtain ⟨b2, o2, rfl, lb2, cc2⟩ := see_one (f := fun (n : Nat) => Value.int .i64 n) sr (by omega)
  have c2 := cc2 i X.rank hget
  have hd63 : h.dn.length ≤ 1048576 := by omega
  have SEE := Lib.hid see
  have HLK := Lib.hid hlk
  have HTL := Lib.hid htl
  have hX0 := (Cells.new w 25 (hierCells A h)).alloc (.cells #[.int .i64 0, .int .i64 0, .int .i64 0] 59)
  have hR0 : Cells ((w.alloc (.cells (hierCells A h).toArray 25)).alloc (.cells #[.int .i64 0, .int .i64 0, .int .i64 0] 59)) (w.heap.size + 1) 59 [.int .i64 0, .int .i64 0, .int .i64 0] := cells_at (by simp) _ _
  have HB0 := Lib.hid (((Below.refl w.heap.size w).alloc (Nat.le_refl _) (.cells (hierCells A h).toArray 25)).alloc (by simp) (.cells #[.int .i64 0, .int .i64 0, .int .i64 0] 59))
  have HX0 := Lib.hid hX0
  have HR0 := Lib.hid hR0
  clear see sr u d hlen hrl hget hlk htl cc2 hX0 hR0 htot
  unfold hierVal
  have hfd := Tryz.fieldLink0
  go_enter Tryz.func55, Tryz.ntmps55
  go_wp2_with fail
  refine (rlink_at A h i X.link _ (SEE.out.below HB0.out) HLK.out (by omega) hd63).mono ?_
  rintro e w1 ⟨rfl, hb⟩
  have hb1 : Below w.heap.size w w1 := HB0.out.trans (hb.mono HB0.out.size)
  have hx1 := HX0.out.below hb HX0.out.lt
  have hr1 := HR0.out.below hb HR0.out.lt
  obtain ⟨k0, k1, k2, k3, k4⟩ := hier_five hx1
  have f0 := hr1.frozen 0
  have f1 := hr1.frozen 1
  have f2 := hr1.frozen 2
  have q0 : w1.cell? ⟨w.heap.size + 1, 0, none⟩ = some (.int .i64 0) := hr1.cell rfl
  have q1 : w1.cell? ⟨w.heap.size + 1, 1, none⟩ = some (.int .i64 0) := hr1.cell rfl
  have q2 : w1.cell? ⟨w.heap.size + 1, 2, none⟩ = some (.int .i64 0) := hr1.cell rfl
  have c1 : w1.cell? ⟨b2, o2 + i, none⟩ = some (.int .i64 X.rank) := ck hb1 c2
  have lr := hr1.lt
  have lb1 : b2 < w1.heap.size := block_lt c1
  have HB1 := Lib.hid hb1
  have HR1 := Lib.hid hr1
  clear hb hb1 hx1 hr1 c2 HX0 HR0 HB0
  unfold linkVal
  by_cases hu : i < h.up.length
  · have d0 : decide (i < h.up.length) = true := by simpa using hu
    have ht := HTL.out
    rw [if_pos hu] at ht
    have HT := Lib.hid ht
    clear ht hu
    go_wp2_with fail
    go_still_tail 10, (by kernel_rfl)
    change wpList _ _ _ _ _ w1.drew
    go_wp2
    refine bodyPost_ret (results_e rfl _ _ (w.heap.size + 1) 59 [.int .i64 X.rank, .int .i64 X.link.to, .int .i64 X.rank] _ rfl (((HR1.out.set 0 _).set 1 _).set 2 _).drew Tryz.underlying59 rfl (by rw [Tryz.sizeREnd]; rfl)) rfl ?_
    refine ⟨by unfold rendVal; rw [HT.out.1, HT.out.2], ?_⟩
    exact (((HB1.out.setCell (p := ⟨w.heap.size + 1, 0, none⟩) (by simp) _).setCell (p := ⟨w.heap.size + 1, 1, none⟩) (by simp) _).setCell (p := ⟨w.heap.size + 1, 2, none⟩) (by simp) _).drew
  · have d0 : decide (i < h.up.length) = false := by simpa using hu
    have ht := HTL.out
    rw [if_neg hu] at ht
    have HT := Lib.hid ht
    clear ht hu
    go_wp2_with fail
    go_still_tail 10, (by kernel_rfl)
    change wpList _ _ _ _ _ w1.drew
    go_wp2
    refine bodyPost_ret (results_e rfl _ _ (w.heap.size + 1) 59 [.int .i64 X.link.to, .int .i64 X.rank, .int .i64 X.rank] _ rfl (((HR1.out.set 0 _).set 1 _).set 2 _).drew Tryz.underlying59 rfl (by rw [Tryz.sizeREnd]; rfl)) rfl ?_
    refine ⟨by unfold rendVal; rw [HT.out.1, HT.out.2], ?_⟩
    exact (((HB1.out.setCell (p := ⟨w.heap.size + 1, 0, none⟩) (by simp) _).setCell (p := ⟨w.heap.size + 1, 1, none⟩) (by simp) _).setCell (p := ⟨w.heap.size + 1, 2, none⟩) (by simp) _).drew
end Go.Proofs.YtchhbgckonpedaaGreatDoor

/- The reference's copy of a hierarchy: Twin. -/
namespace Go.Proofs.YtchhbgckonpedaaGreatDoor
open Go.ChangeShapes Go.WideShapes Go.ChangeAt Go.RowKit Go.Joins Go.Deep

theorem Tryz.sizeHier5 : (Tryz.prog.info? 25).map (·.size) = some 5 := by kernel_rfl
/-- Five slices that five calls have laid, one behind the other. -/
theorem five_end (D : HierD) (B : Nat) (bn : ∀ x ∈ D.node, x < 4294967296) (bu : ∀ x ∈ D.upF, x < 4294967296) (bd : ∀ x ∈ D.dnF, x < 4294967296) (bup : ∀ l ∈ D.up, l.ok) (bdn : ∀ l ∈ D.dn, l.ok) {wz wm wn wp wq wr : World} {am an ap aq ar : Option Addr} {cm cn cp cq cr : Nat} (lk : B < wz.heap.size)
    (sm : See wm am cm u32Cells 1 D.node) (gm : SForm am cm ∧ ∀ b o, am = some ⟨b, o, none⟩ → wz.drew.heap.size ≤ b) (lm : B < wm.heap.size)
    (sn : See wn an cn u32Cells 1 D.upF) (gn : SForm an cn ∧ ∀ b o, an = some ⟨b, o, none⟩ → wm.heap.size ≤ b) (ln : B < wn.heap.size)
    (sp : wp.ownsRow 0 65 4 (.slice ap D.up.length cp) D.up.length (D.up.flatMap linkCells)) (gp : ∀ k, (Value.slice ap D.up.length cp).ownBlock = some k → wn.heap.size ≤ k) (lp : B < wp.heap.size)
    (sq : See wq aq cq u32Cells 1 D.dnF) (gq : SForm aq cq ∧ ∀ b o, aq = some ⟨b, o, none⟩ → wp.heap.size ≤ b) (lq : B < wq.heap.size)
    (sr : wr.ownsRow 0 65 4 (.slice ar D.dn.length cr) D.dn.length (D.dn.flatMap linkCells)) (gr : ∀ k, (Value.slice ar D.dn.length cr).ownBlock = some k → wq.heap.size ≤ k)
    (hn : Below wm.heap.size wm wn) (hp : Below wn.heap.size wn wp) (hq : Below wp.heap.size wp wq) (hr : Below wq.heap.size wq wr) (wf : World) (ho : Only [B] wr wf) :
    HSee wf ⟨am, an, ap, aq, ar, cm, cn, cp, cq, cr⟩ D ∧ HForm ⟨am, an, ap, aq, ar, cm, cn, cp, cq, cr⟩ := by
  have p := (See.of_own linkCells_len sp (by omega)).1
  have r := (See.of_own linkCells_len sr (by omega)).1
  have lk' : B < wz.drew.heap.size := lk
  refine ⟨⟨?_, ?_, ?_, ?_, ?_, bn, bu, bd, bup, bdn⟩, gm.1, gn.1, own_form2 sp, gq.1, own_form2 sr⟩
  · refine ((((sm.below hn).below hp).below hq).below hr).kept ho (fun b off e => ?_)
    have := gm.2 b off e
    simp only [List.mem_singleton]
    omega
  · refine (((sn.below hp).below hq).below hr).kept ho (fun b off e => ?_)
    have := gn.2 b off e
    simp only [List.mem_singleton]
    omega
  · refine ((p.below hq).below hr).kept ho (fun b off e => ?_)
    subst e
    have := gp b rfl
    simp only [List.mem_singleton]
    omega
  · refine (sq.below hr).kept ho (fun b off e => ?_)
    have := gq.2 b off e
    simp only [List.mem_singleton]
    omega
  · refine r.kept ho (fun b off e => ?_)
    subst e
    have := gr b rfl
    simp only [List.mem_singleton]
    omega

/-- The hierarchy's slices are not beyond what memory holds. -/
structure Reach5 (h : HierD) : Prop where
  n : h.node.length * 4 ≤ 140737488355328
  u : h.upF.length * 4 ≤ 140737488355328
  up : h.up.length * 24 ≤ 140737488355328
  d : h.dnF.length * 4 ≤ 140737488355328
  dn : h.dn.length * 24 ≤ 140737488355328

set_option maxRecDepth 100000 in
set_option maxHeartbeats 4000000 in
/-- **The reference's Twin.** -/
theorem twin_any (A : HA) (h : HierD) (w : World) (see : HSee w A h) (hr : Reach5 h) : Calls Tryz.prog 12 #[hierVal A h] w (HierNew h w) := by
  have SEE := Lib.hid see
  have HRN := Lib.hid hr.n
  have HRU := Lib.hid hr.u
  have HRP := Lib.hid hr.up
  have HRD := Lib.hid hr.d
  have HRR := Lib.hid hr.dn
  clear hr
  clear see
  unfold hierVal
  obtain ⟨wz, hwz⟩ : ∃ wz, (w.alloc (.cells (hierCells A h).toArray 25)).alloc (.cells #[.slice none 0 0, .slice none 0 0, .slice none 0 0, .slice none 0 0, .slice none 0 0] 25) = wz := ⟨_, rfl⟩
  have hX0 := (Cells.new w 25 (hierCells A h)).alloc (.cells #[.slice none 0 0, .slice none 0 0, .slice none 0 0, .slice none 0 0, .slice none 0 0] 25)
  have hR0 : Cells ((w.alloc (.cells (hierCells A h).toArray 25)).alloc (.cells #[.slice none 0 0, .slice none 0 0, .slice none 0 0, .slice none 0 0, .slice none 0 0] 25)) (w.heap.size + 1) 25 [.slice none 0 0, .slice none 0 0, .slice none 0 0, .slice none 0 0, .slice none 0 0] := cells_at (by simp) _ _
  have hB0 := ((Below.refl w.heap.size w).alloc (Nat.le_refl _) (.cells (hierCells A h).toArray 25)).alloc (by simp) (.cells #[.slice none 0 0, .slice none 0 0, .slice none 0 0, .slice none 0 0, .slice none 0 0] 25)
  rw [hwz] at hX0 hR0 hB0
  obtain ⟨k0, k1, k2, k3, k4⟩ := hier_five hX0
  have HR := Lib.hid hR0
  have HZ := Lib.hid hB0
  have lk : w.heap.size + 1 < wz.heap.size := hR0.lt
  have fzk0 := HR.out.frozen 0
  have czk0 : wz.cell? ⟨w.heap.size + 1, 0, none⟩ = some (.slice none 0 0) := HR.out.cell (i := 0) rfl
  have fzk1 := HR.out.frozen 1
  have czk1 : wz.cell? ⟨w.heap.size + 1, 1, none⟩ = some (.slice none 0 0) := HR.out.cell (i := 1) rfl
  have fzk2 := HR.out.frozen 2
  have czk2 : wz.cell? ⟨w.heap.size + 1, 2, none⟩ = some (.slice none 0 0) := HR.out.cell (i := 2) rfl
  have fzk3 := HR.out.frozen 3
  have czk3 : wz.cell? ⟨w.heap.size + 1, 3, none⟩ = some (.slice none 0 0) := HR.out.cell (i := 3) rfl
  have fzk4 := HR.out.frozen 4
  have czk4 : wz.cell? ⟨w.heap.size + 1, 4, none⟩ = some (.slice none 0 0) := HR.out.cell (i := 4) rfl
  clear hX0 hR0 hB0
  go_enter Tryz.func12, Tryz.ntmps12
  go_wp2_with fail
  rw [show (w.alloc (.cells #[.slice A.a0 h.node.length A.c0, .slice A.a1 h.upF.length A.c1, .slice A.a2 h.up.length A.c2, .slice A.a3 h.dnF.length A.c3, .slice A.a4 h.dn.length A.c4] 25)).alloc (.cells #[.slice none 0 0, .slice none 0 0, .slice none 0 0, .slice none 0 0, .slice none 0 0] 25) = wz from hwz]
  clear hwz
  go_region_held3 (fun W => W.cell? ⟨w.heap.size, 0, none⟩ = some (.slice A.a0 h.node.length A.c0) ∧ W.cell? ⟨w.heap.size, 1, none⟩ = some (.slice A.a1 h.upF.length A.c1) ∧ W.cell? ⟨w.heap.size, 2, none⟩ = some (.slice A.a2 h.up.length A.c2) ∧ W.cell? ⟨w.heap.size, 3, none⟩ = some (.slice A.a3 h.dnF.length A.c3) ∧ W.cell? ⟨w.heap.size, 4, none⟩ = some (.slice A.a4 h.dn.length A.c4) ∧ W.frozen? ⟨w.heap.size + 1, 0, none⟩ = false ∧ W.frozen? ⟨w.heap.size + 1, 1, none⟩ = false ∧ W.frozen? ⟨w.heap.size + 1, 2, none⟩ = false ∧ W.frozen? ⟨w.heap.size + 1, 3, none⟩ = false ∧ W.frozen? ⟨w.heap.size + 1, 4, none⟩ = false) (go_keep)
    (first
      | (go_at_call 38; (with_reducible refine (words_any h.node A.a0 A.c0 _ (SEE.out.node.below (HZ.out.drew)) HRN.out).mono ?_); rintro e wm ⟨am, cm, rfl, sm, gm, bm⟩; (have Bm := Lib.hid ((HZ.out.drew).trans (bm.mono (HZ.out.drew).size))); (have m0 := ck bm k0); (have m1 := ck bm k1); (have m2 := ck bm k2); (have m3 := ck bm k3); (have m4 := ck bm k4); (have lm := Nat.lt_of_lt_of_le lk bm.size); (have fzm0 := (bm.frozen (p := ⟨w.heap.size + 1, 0, none⟩) lk).trans fzk0); (have czm0 := ck bm czk0); (have fzm1 := (bm.frozen (p := ⟨w.heap.size + 1, 1, none⟩) lk).trans fzk1); (have czm1 := ck bm czk1); (have fzm2 := (bm.frozen (p := ⟨w.heap.size + 1, 2, none⟩) lk).trans fzk2); (have czm2 := ck bm czk2); (have fzm3 := (bm.frozen (p := ⟨w.heap.size + 1, 3, none⟩) lk).trans fzk3); (have czm3 := ck bm czk3); (have fzm4 := (bm.frozen (p := ⟨w.heap.size + 1, 4, none⟩) lk).trans fzk4); (have czm4 := ck bm czk4))
      | (go_at_call 38; (with_reducible refine (words_any h.upF A.a1 A.c1 _ (SEE.out.upF.below (Bm.out)) HRU.out).mono ?_); rintro e wn ⟨an, cn, rfl, sn, gn, bn⟩; (have Bn := Lib.hid ((Bm.out).trans (bn.mono (Bm.out).size))); (have n0 := ck bn m0); (have n1 := ck bn m1); (have n2 := ck bn m2); (have n3 := ck bn m3); (have n4 := ck bn m4); (have ln := Nat.lt_of_lt_of_le lm bn.size); (have fzn0 := (bn.frozen (p := ⟨w.heap.size + 1, 0, none⟩) lm).trans fzm0); (have czn0 := ck bn czm0); (have fzn1 := (bn.frozen (p := ⟨w.heap.size + 1, 1, none⟩) lm).trans fzm1); (have czn1 := ck bn czm1); (have fzn2 := (bn.frozen (p := ⟨w.heap.size + 1, 2, none⟩) lm).trans fzm2); (have czn2 := ck bn czm2); (have fzn3 := (bn.frozen (p := ⟨w.heap.size + 1, 3, none⟩) lm).trans fzm3); (have czn3 := ck bn czm3); (have fzn4 := (bn.frozen (p := ⟨w.heap.size + 1, 4, none⟩) lm).trans fzm4); (have czn4 := ck bn czm4))
      | (go_at_call 39; (with_reducible refine (links_copy h.up A.a2 A.c2 _ (SEE.out.up.below (Bn.out)) HRP.out).mono ?_); rintro e wp ⟨ap, cp, rfl, sp, gp, bp⟩; (have Bp := Lib.hid ((Bn.out).trans (bp.mono (Bn.out).size))); (have p0 := ck bp n0); (have p1 := ck bp n1); (have p2 := ck bp n2); (have p3 := ck bp n3); (have p4 := ck bp n4); (have lp := Nat.lt_of_lt_of_le ln bp.size); (have fzp0 := (bp.frozen (p := ⟨w.heap.size + 1, 0, none⟩) ln).trans fzn0); (have czp0 := ck bp czn0); (have fzp1 := (bp.frozen (p := ⟨w.heap.size + 1, 1, none⟩) ln).trans fzn1); (have czp1 := ck bp czn1); (have fzp2 := (bp.frozen (p := ⟨w.heap.size + 1, 2, none⟩) ln).trans fzn2); (have czp2 := ck bp czn2); (have fzp3 := (bp.frozen (p := ⟨w.heap.size + 1, 3, none⟩) ln).trans fzn3); (have czp3 := ck bp czn3); (have fzp4 := (bp.frozen (p := ⟨w.heap.size + 1, 4, none⟩) ln).trans fzn4); (have czp4 := ck bp czn4))
      | (go_at_call 38; (with_reducible refine (words_any h.dnF A.a3 A.c3 _ (SEE.out.dnF.below (Bp.out)) HRD.out).mono ?_); rintro e wq ⟨aq, cq, rfl, sq, gq, bq⟩; (have Bq := Lib.hid ((Bp.out).trans (bq.mono (Bp.out).size))); (have q0 := ck bq p0); (have q1 := ck bq p1); (have q2 := ck bq p2); (have q3 := ck bq p3); (have q4 := ck bq p4); (have lq := Nat.lt_of_lt_of_le lp bq.size); (have fzq0 := (bq.frozen (p := ⟨w.heap.size + 1, 0, none⟩) lp).trans fzp0); (have czq0 := ck bq czp0); (have fzq1 := (bq.frozen (p := ⟨w.heap.size + 1, 1, none⟩) lp).trans fzp1); (have czq1 := ck bq czp1); (have fzq2 := (bq.frozen (p := ⟨w.heap.size + 1, 2, none⟩) lp).trans fzp2); (have czq2 := ck bq czp2); (have fzq3 := (bq.frozen (p := ⟨w.heap.size + 1, 3, none⟩) lp).trans fzp3); (have czq3 := ck bq czp3); (have fzq4 := (bq.frozen (p := ⟨w.heap.size + 1, 4, none⟩) lp).trans fzp4); (have czq4 := ck bq czp4))
      | (go_at_call 39; (with_reducible refine (links_copy h.dn A.a4 A.c4 _ (SEE.out.dn.below (Bq.out)) HRR.out).mono ?_); rintro e wr ⟨ar, cr, rfl, sr, gr, br⟩; (have Br := Lib.hid ((Bq.out).trans (br.mono (Bq.out).size))); (have r0 := ck br q0); (have r1 := ck br q1); (have r2 := ck br q2); (have r3 := ck br q3); (have r4 := ck br q4); (have lr := Nat.lt_of_lt_of_le lq br.size); (have fzr0 := (br.frozen (p := ⟨w.heap.size + 1, 0, none⟩) lq).trans fzq0); (have czr0 := ck br czq0); (have fzr1 := (br.frozen (p := ⟨w.heap.size + 1, 1, none⟩) lq).trans fzq1); (have czr1 := ck br czq1); (have fzr2 := (br.frozen (p := ⟨w.heap.size + 1, 2, none⟩) lq).trans fzq2); (have czr2 := ck br czq2); (have fzr3 := (br.frozen (p := ⟨w.heap.size + 1, 3, none⟩) lq).trans fzq3); (have czr3 := ck br czq3); (have fzr4 := (br.frozen (p := ⟨w.heap.size + 1, 4, none⟩) lq).trans fzq4); (have czr4 := ck br czq4)))
  dsimp only [Exit.then]
  go_wp2_with fail
  have hres := (((((HR.out.drew).below bm lk).below bn lm).below bp ln).below bq lp).below br lq
  refine bodyPost_ret (results_e rfl _ _ (w.heap.size + 1) 25 [.slice am h.node.length cm, .slice an h.upF.length cn, .slice ap h.up.length cp, .slice aq h.dnF.length cq, .slice ar h.dn.length cr] _ rfl (((((hres.set 0 _).set 1 _).set 2 _).set 3 _).set 4 _) Tryz.underlying25 rfl (by rw [Tryz.sizeHier5]; rfl)) rfl ?_
  obtain ⟨hs, hf⟩ := five_end (h) (w.heap.size + 1) SEE.out.bn SEE.out.bu SEE.out.bd SEE.out.bup SEE.out.bdn lk sm gm lm sn gn ln sp gp lp sq gq lq sr gr bn bp bq br _ ((((((Only.refl [w.heap.size + 1] wr).setCell (p := ⟨w.heap.size + 1, 0, none⟩) (.inl (by simp)) _).setCell (p := ⟨w.heap.size + 1, 1, none⟩) (.inl (by simp)) _).setCell (p := ⟨w.heap.size + 1, 2, none⟩) (.inl (by simp)) _).setCell (p := ⟨w.heap.size + 1, 3, none⟩) (.inl (by simp)) _).setCell (p := ⟨w.heap.size + 1, 4, none⟩) (.inl (by simp)) _)
  exact ⟨⟨am, an, ap, aq, ar, cm, cn, cp, cq, cr⟩, by rfl, hs, hf, (((((Br.out).setCell (p := ⟨w.heap.size + 1, 0, none⟩) (by simp) _).setCell (p := ⟨w.heap.size + 1, 1, none⟩) (by simp) _).setCell (p := ⟨w.heap.size + 1, 2, none⟩) (by simp) _).setCell (p := ⟨w.heap.size + 1, 3, none⟩) (by simp) _).setCell (p := ⟨w.heap.size + 1, 4, none⟩) (by simp) _⟩
end Go.Proofs.YtchhbgckonpedaaGreatDoor

/- The reference's hierarchy turned about: number, turned, Turn. -/
namespace Go.Proofs.YtchhbgckonpedaaGreatDoor
open Go.ChangeShapes Go.WideShapes Go.ChangeAt Go.RowKit Go.Joins Go.Deep

theorem turnLink_ok5 {ups downs : Nat} {l : LinkD} (h : l.ok) (hud : ups + downs ≤ 1048576) : (turnLink ups downs l).ok := by
  obtain ⟨h1, h2, h3, h4⟩ := h
  refine ⟨h1, h2, ?_, ?_⟩
  · simp only [turnLink, childOf]; split <;> (try split) <;> omega
  · simp only [turnLink, childOf]; split <;> (try split) <;> omega
def U32Is (n : Nat) (w : World) (e : Ending) (w' : World) : Prop := e = .returned (.int .u32 (n : Int)) ∧ Below w.heap.size w w'
set_option maxRecDepth 100000 in
theorem rnum_any (A : HA) (h : HierD) (i : Nat) (w : World) (hi : i < 4294967296) (htot : h.up.length + h.dn.length ≤ 1048576) : Calls Tryz.prog 140 #[hierVal A h, .int .u32 i] w (U32Is (childOf h.up.length h.dn.length i) w) := by
  have hu63 : h.up.length ≤ 1048576 := by omega
  have hd63 : h.dn.length ≤ 1048576 := by omega
  by_cases h1 : i = 4294967295
  · have d1 : ((i : Int) == 4294967295) = true := by simp; omega
    have hc : childOf h.up.length h.dn.length i = i := by unfold childOf; rw [if_pos h1]
    rw [hc]
    unfold hierVal
    clear hc h1
    go_enter Tryz.func140, Tryz.ntmps140
    go_wp2
    go_returns
    exact ⟨by first | rfl | (congr 1; congr 1; simp at d1; omega), by go_grown⟩
  · have d1 : ((i : Int) == 4294967295) = false := by simp; omega
    by_cases h2 : i < h.up.length
    · have d2 : decide (i < h.up.length) = true := by simpa using h2
      have hc : childOf h.up.length h.dn.length i = i + h.dn.length := by unfold childOf; rw [if_neg h1, if_pos h2]
      rw [hc]
      unfold hierVal
      clear hc h1
      go_enter Tryz.func140, Tryz.ntmps140
      go_wp2
      go_returns
      refine ⟨ret_int ?_, by go_grown⟩
      first | omega | (show IntKind.u32.wrap _ = _; rw [IntWalk.u32_in _ (by omega) (by omega)]; omega)
    · have d2 : decide (i < h.up.length) = false := by simpa using h2
      have hc : childOf h.up.length h.dn.length i = i - h.up.length := by unfold childOf; rw [if_neg h1, if_neg h2]
      rw [hc]
      unfold hierVal
      clear hc h1
      go_enter Tryz.func140, Tryz.ntmps140
      go_wp2
      go_returns
      refine ⟨ret_int ?_, by go_grown⟩
      first | omega | (show IntKind.u32.wrap _ = _; rw [IntWalk.u32_in _ (by omega) (by omega)]; omega)

theorem rnum_lit (A : HA) (h : HierD) (i : Nat) (w : World) (hi : i < 4294967296) (htot : h.up.length + h.dn.length ≤ 1048576) : Calls Tryz.prog 140 #[.agg #[.slice A.a0 h.node.length A.c0, .slice A.a1 h.upF.length A.c1, .slice A.a2 h.up.length A.c2, .slice A.a3 h.dnF.length A.c3, .slice A.a4 h.dn.length A.c4], .int .u32 i] w (U32Is (childOf h.up.length h.dn.length i) w) := rnum_any A h i w hi htot
set_option maxRecDepth 100000 in
set_option maxHeartbeats 4000000 in
theorem rturned_any (A : HA) (h : HierD) (l : List LinkD) (ao : Option Addr) (cap : Nat) (w : World) (see : See w ao cap linkCells 4 l) (hok : ∀ x ∈ l, x.ok) (htot : h.up.length + h.dn.length ≤ 1048576) (hl : l.length ≤ 1048576) :
    Calls Tryz.prog 120 #[hierVal A h, .slice ao l.length cap] w (LinksNew (l.map (turnLink h.up.length h.dn.length)) w) := by
  obtain ⟨i0, hi0, hz0, hz1, hz2⟩ := info_parts Tryz.infoLink
  have HI0 := Lib.hid hi0
  have HZ0 := Lib.hid hz0
  have HZ1 := Lib.hid hz1
  have HZ2 := Lib.hid hz2
  have SEE := Lib.hid see
  have HOK := Lib.hid hok
  clear see hok hi0 hz0 hz1 hz2
  have HX0 := Lib.hid (Cells.new w 25 (hierCells A h))
  have HB0 := Lib.hid ((Below.refl w.heap.size w).alloc (Nat.le_refl _) (.cells (hierCells A h).toArray 25))
  unfold hierVal
  go_enter Tryz.func120, Tryz.ntmps120
  go_wp2_with fail
  go_loopg [5, 10] l.length (fun g vm vi wr => ∃ (k : Nat) (ao2 : Option Addr) (cap2 : Nat), vi = .int .i64 k ∧ k ≤ l.length ∧ g = l.length - k ∧ vm = .slice ao2 k cap2 ∧
    wr.ownsRow 0 65 4 (.slice ao2 k cap2) k (((l.take k).map (turnLink h.up.length h.dn.length)).flatMap linkCells) ∧ (∀ b, (Value.slice ao2 k cap2).ownBlock = some b → w.heap.size < b) ∧ Cells wr w.heap.size 25 (hierCells A h) ∧ Below w.heap.size w wr)
  case atStart => exact ⟨0, none, 0, rfl, Nat.zero_le _, rfl, rfl, World.ownsRow_nil _ _ _ _, by simp [Value.ownBlock], HX0.out, HB0.out⟩
  case round =>
    obtain ⟨k, ao2, cap2, rfl, hk, hg, rfl, hown, hnew, hcs, hbl⟩ := hrel
    have HG := Lib.hid hg
    have HOWN := Lib.hid hown
    have HNEW := Lib.hid hnew
    have HBL := Lib.hid hbl
    have HCS := Lib.hid hcs
    have hz := hbl.size
    have lb0 := hcs.lt
    clear hg hown hnew hbl hcs
    by_cases hkl : k < l.length
    · obtain ⟨x, hx⟩ : ∃ x, l[k]? = some x := ⟨_, List.getElem?_eq_getElem hkl⟩
      obtain ⟨b, o, ea, cc⟩ := (SEE.out.below HBL.out).cell k x hx
      have e0 := cc 0 _ rfl
      have e1 := cc 1 _ rfl
      have e2 := cc 2 _ rfl
      have e3 := cc 3 _ rfl
      rw [Nat.add_zero] at e0
      have lb := block_lt e0
      have hxo := HOK.out x (List.mem_of_getElem? hx)
      have x2 := hxo.2.2.1
      have x3 := hxo.2.2.2
      have EA := Lib.hid ea
      have HX := Lib.hid hx
      clear ea cc hx hxo
      rw [EA.out]
      go_wp2_with fail
      obtain ⟨wq, hwq⟩ : ∃ wq, wr.alloc (.cells #[.int .u32 x.to, .int .u64 x.wt, .int .u32 x.left, .int .u32 x.right] 65) = wq := ⟨_, rfl⟩
      have hcx : Cells wq wr.heap.size 65 (linkCells x) := by rw [← hwq]; exact Cells.new wr _ _
      have hbx : Below wr.heap.size wr wq := by rw [← hwq]; exact (Below.refl _ _).alloc (Nat.le_refl _) _
      have hcq : Cells wq w.heap.size 25 (hierCells A h) := by rw [← hwq]; exact HCS.out.alloc _
      have hownx := own_kept (bs := []) HOWN.out (Only.of_below hbx) (fun q _ => by simp)
      rw [hwq]
      obtain ⟨k0, k1, k2, k3, k4⟩ := hier_five hcq
      have v0 : wq.cell? ⟨wr.heap.size, 0, none⟩ = some (.int .u32 x.to) := hcx.cell rfl
      have v1 : wq.cell? ⟨wr.heap.size, 1, none⟩ = some (.int .u64 x.wt) := hcx.cell rfl
      have v2 : wq.cell? ⟨wr.heap.size, 2, none⟩ = some (.int .u32 x.left) := hcx.cell rfl
      have v3 : wq.cell? ⟨wr.heap.size, 3, none⟩ = some (.int .u32 x.right) := hcx.cell rfl
      have lq := hcx.lt
      have HCX := Lib.hid hcx
      have HBX := Lib.hid hbx
      have HOX := Lib.hid hownx
      have HCQ := Lib.hid hcq
      have hzq : w.heap.size < wq.heap.size := hcq.lt
      clear hcx hbx hownx hwq hcq e0 e1 e2 e3
      go_region_held3 (fun W => W.cell? ⟨wr.heap.size, 0, none⟩ = some (.int .u32 x.to) ∧ W.cell? ⟨wr.heap.size, 1, none⟩ = some (.int .u64 x.wt) ∧ W.cell? ⟨wr.heap.size, 2, none⟩ = some (.int .u32 x.left) ∧ W.cell? ⟨wr.heap.size, 3, none⟩ = some (.int .u32 x.right) ∧
          W.cell? ⟨w.heap.size, 0, none⟩ = some (.slice A.a0 h.node.length A.c0) ∧ W.cell? ⟨w.heap.size, 1, none⟩ = some (.slice A.a1 h.upF.length A.c1) ∧ W.cell? ⟨w.heap.size, 2, none⟩ = some (.slice A.a2 h.up.length A.c2) ∧ W.cell? ⟨w.heap.size, 3, none⟩ = some (.slice A.a3 h.dnF.length A.c3) ∧ W.cell? ⟨w.heap.size, 4, none⟩ = some (.slice A.a4 h.dn.length A.c4))
        (go_keep)
        (first
          | (go_at_call 140; (with_reducible refine (rnum_lit A h x.right _ x3 htot).mono ?_); rintro e wa ⟨rfl, ba⟩; (have Ba := Lib.hid ba); (have av0 := ck ba v0); (have av1 := ck ba v1); (have av2 := ck ba v2); (have av3 := ck ba v3); (have ak0 := ck ba k0); (have ak1 := ck ba k1); (have ak2 := ck ba k2); (have ak3 := ck ba k3); (have ak4 := ck ba k4))
          | (go_at_call 140; (with_reducible refine (rnum_lit A h x.left _ x2 htot).mono ?_); rintro e wb ⟨rfl, bb⟩; (have Bb := Lib.hid bb); (have bv0 := ck bb av0); (have bv1 := ck bb av1); (have bv2 := ck bb av2); (have bv3 := ck bb av3); (have bk0 := ck bb ak0); (have bk1 := ck bb ak1); (have bk2 := ck bb ak2); (have bk3 := ck bb ak3); (have bk4 := ck bb ak4))
          | (refine step_append_lies _ (by rfl) _ _ _ (by rfl) 0 65 i0 _ 4 24 Tryz.underlying23 HI0.out HZ0.out HZ1.out HZ2.out rfl (by decide) (.slice ao2 k cap2) k (((l.take k).map (turnLink h.up.length h.dn.length)).flatMap linkCells) (by rfl) (own_kept (bs := []) (own_drew HOX.out) ((Only.of_below (bs := []) (Ba.out.trans (Bb.out.mono Ba.out.size))).alloc _) (fun q _ => by simp))
                ⟨wb.heap.size, 0, none⟩ 1 1 (linkCells (turnLink h.up.length h.dn.length x)) (by rfl) (by rfl) (World.news_of_block (cs := (linkCells (turnLink h.up.length h.dn.length x)).toArray) (t := 65) (fr := (0, 0)) (heap_alloc_new wb _)) (fun u hu => by simp only [linkCells, List.mem_cons, List.not_mem_nil, or_false] at hu; rcases hu with rfl | rfl | rfl | rfl <;> rfl) (by omega) (by unfold maxLen; omega) (by omega) (Nat.zero_le _) (wb.heap.size + 1) (by simp) ?_; intro gg cap5 w5 hown5 hgrow hat hlt; (have ho5 : Only (Value.slice ao2 k cap2).ownBlock.toList (wb.alloc (.cells (linkCells (turnLink h.up.length h.dn.length x)).toArray 65)) w5 := ⟨hgrow.os, hgrow.tape, hgrow.output, hgrow.size, fun q hq hn => hgrow.block q hq (fun e => hn (by simp [← e]))⟩); (have cv0 := ho5.cell (World.cell?_alloc_lt _ _ ⟨wr.heap.size, 0, none⟩ (World.block_lt_of_cell? wb _ bv0) ▸ bv0) (fun hq => by have := (HOWN.out.lt _ (by simpa using hq)).2; omega)); (have cv1 := ho5.cell (World.cell?_alloc_lt _ _ ⟨wr.heap.size, 1, none⟩ (World.block_lt_of_cell? wb _ bv1) ▸ bv1) (fun hq => by have := (HOWN.out.lt _ (by simpa using hq)).2; omega)); (have cv2 := ho5.cell (World.cell?_alloc_lt _ _ ⟨wr.heap.size, 2, none⟩ (World.block_lt_of_cell? wb _ bv2) ▸ bv2) (fun hq => by have := (HOWN.out.lt _ (by simpa using hq)).2; omega)); (have cv3 := ho5.cell (World.cell?_alloc_lt _ _ ⟨wr.heap.size, 3, none⟩ (World.block_lt_of_cell? wb _ bv3) ▸ bv3) (fun hq => by have := (HOWN.out.lt _ (by simpa using hq)).2; omega)); (have ck0 := ho5.cell (World.cell?_alloc_lt _ _ ⟨w.heap.size, 0, none⟩ (World.block_lt_of_cell? wb _ bk0) ▸ bk0) (fun hq => by have := HNEW.out _ (by simpa using hq); omega)); (have ck1 := ho5.cell (World.cell?_alloc_lt _ _ ⟨w.heap.size, 1, none⟩ (World.block_lt_of_cell? wb _ bk1) ▸ bk1) (fun hq => by have := HNEW.out _ (by simpa using hq); omega)); (have ck2 := ho5.cell (World.cell?_alloc_lt _ _ ⟨w.heap.size, 2, none⟩ (World.block_lt_of_cell? wb _ bk2) ▸ bk2) (fun hq => by have := HNEW.out _ (by simpa using hq); omega)); (have ck3 := ho5.cell (World.cell?_alloc_lt _ _ ⟨w.heap.size, 3, none⟩ (World.block_lt_of_cell? wb _ bk3) ▸ bk3) (fun hq => by have := HNEW.out _ (by simpa using hq); omega)); (have ck4 := ho5.cell (World.cell?_alloc_lt _ _ ⟨w.heap.size, 4, none⟩ (World.block_lt_of_cell? wb _ bk4) ▸ bk4) (fun hq => by have := HNEW.out _ (by simpa using hq); omega))))
      have hab : Below wq.heap.size wq wb := (Below.refl _ _).drew.trans (Ba.out.trans (Bb.out.mono Ba.out.size))
      have hzb := hab.size
      have hcs5 : Cells w5 w.heap.size 25 (hierCells A h) := ((HCQ.out.below hab hzq).alloc (.cells (linkCells (turnLink h.up.length h.dn.length x)).toArray 65)).kept ho5 (fun hq => by have := HNEW.out _ (by simpa using hq); omega)
      have hbw : Below w.heap.size w (wb.alloc (.cells (linkCells (turnLink h.up.length h.dn.length x)).toArray 65)) := ((HBL.out.trans (HBX.out.mono hz)).trans (hab.mono (by omega))).alloc (by omega) _
      have hbl5 : Below w.heap.size w w5 := hbw.trans (ho5.below hbw.size (fun q hq => Nat.le_of_lt (HNEW.out q (by simpa using hq))))
      have hnew5 : ∀ b, (Value.slice (some ⟨gg, 0, none⟩) (k + 1) cap5).ownBlock = some b → w.heap.size < b := by
        intro b hb
        simp only [Value.ownBlock, Option.some.injEq] at hb
        subst hb
        rcases hat with h1 | h1
        · exact HNEW.out _ h1
        · omega
      rw [show ((l.take k).map (turnLink h.up.length h.dn.length)).flatMap linkCells ++ linkCells (turnLink h.up.length h.dn.length x) = ((l.take (k + 1)).map (turnLink h.up.length h.dn.length)).flatMap linkCells by
        rw [List.take_add_one, HX.out, List.map_append, List.flatMap_append]
        simp] at hown5
      have O5 := Lib.hid hown5
      have N5 := Lib.hid hnew5
      have B5 := Lib.hid hbl5
      have C5 := Lib.hid hcs5
      clear hown5 hnew5 hbl5 hcs5 hbw hab hgrow hat ho5
      go_wp2_with fail
      rw [← EA.out]
      go_roundg (l.length - (k + 1))
      case measure => rw [HG.out]; omega
      case rel => exact ⟨k + 1, some ⟨gg, 0, none⟩, cap5, by go_num, by omega, rfl, rfl, O5.out, N5.out, C5.out, B5.out⟩
    · obtain rfl : k = l.length := by omega
      go_wp2
      go_returns
      refine ⟨ao2, cap2, by rw [List.length_map]; rfl, ?_, ?_, HBL.out⟩
      · rw [List.length_map]
        have := HOWN.out
        rw [List.take_length] at this
        exact this
      · rw [List.length_map]
        exact fun b hb => Nat.le_of_lt (HNEW.out b hb)

theorem rturned_lit (A : HA) (h : HierD) (l : List LinkD) (ao : Option Addr) (cap : Nat) (w : World) (see : See w ao cap linkCells 4 l) (hok : ∀ x ∈ l, x.ok) (htot : h.up.length + h.dn.length ≤ 1048576) (hl : l.length ≤ 1048576) :
    Calls Tryz.prog 120 #[.agg #[.slice A.a0 h.node.length A.c0, .slice A.a1 h.upF.length A.c1, .slice A.a2 h.up.length A.c2, .slice A.a3 h.dnF.length A.c3, .slice A.a4 h.dn.length A.c4], .slice ao l.length cap] w (LinksNew (l.map (turnLink h.up.length h.dn.length)) w) := rturned_any A h l ao cap w see hok htot hl
set_option maxRecDepth 100000 in
set_option maxHeartbeats 4000000 in
/-- **The reference's Turn.** -/
theorem rturn_any (A : HA) (h : HierD) (w : World) (see : HSee w A h) (hr : Reach5 h) (htot : h.up.length + h.dn.length ≤ 1048576) : Calls Tryz.prog 99 #[hierVal A h] w (HierNew (turnD h) w) := by
  have SEE := Lib.hid see
  have HRN := Lib.hid hr.n
  have HRU := Lib.hid hr.u
  have HRD := Lib.hid hr.d
  have hdl : h.dn.length ≤ 1048576 := by omega
  have hul : h.up.length ≤ 1048576 := by omega
  clear hr
  clear see
  unfold hierVal
  obtain ⟨wz, hwz⟩ : ∃ wz, (w.alloc (.cells (hierCells A h).toArray 25)).alloc (.cells #[.slice none 0 0, .slice none 0 0, .slice none 0 0, .slice none 0 0, .slice none 0 0] 25) = wz := ⟨_, rfl⟩
  have hX0 := (Cells.new w 25 (hierCells A h)).alloc (.cells #[.slice none 0 0, .slice none 0 0, .slice none 0 0, .slice none 0 0, .slice none 0 0] 25)
  have hR0 : Cells ((w.alloc (.cells (hierCells A h).toArray 25)).alloc (.cells #[.slice none 0 0, .slice none 0 0, .slice none 0 0, .slice none 0 0, .slice none 0 0] 25)) (w.heap.size + 1) 25 [.slice none 0 0, .slice none 0 0, .slice none 0 0, .slice none 0 0, .slice none 0 0] := cells_at (by simp) _ _
  have hB0 := ((Below.refl w.heap.size w).alloc (Nat.le_refl _) (.cells (hierCells A h).toArray 25)).alloc (by simp) (.cells #[.slice none 0 0, .slice none 0 0, .slice none 0 0, .slice none 0 0, .slice none 0 0] 25)
  rw [hwz] at hX0 hR0 hB0
  obtain ⟨k0, k1, k2, k3, k4⟩ := hier_five hX0
  have HR := Lib.hid hR0
  have HZ := Lib.hid hB0
  have lk : w.heap.size + 1 < wz.heap.size := hR0.lt
  have fzk0 := HR.out.frozen 0
  have czk0 : wz.cell? ⟨w.heap.size + 1, 0, none⟩ = some (.slice none 0 0) := HR.out.cell (i := 0) rfl
  have fzk1 := HR.out.frozen 1
  have czk1 : wz.cell? ⟨w.heap.size + 1, 1, none⟩ = some (.slice none 0 0) := HR.out.cell (i := 1) rfl
  have fzk2 := HR.out.frozen 2
  have czk2 : wz.cell? ⟨w.heap.size + 1, 2, none⟩ = some (.slice none 0 0) := HR.out.cell (i := 2) rfl
  have fzk3 := HR.out.frozen 3
  have czk3 : wz.cell? ⟨w.heap.size + 1, 3, none⟩ = some (.slice none 0 0) := HR.out.cell (i := 3) rfl
  have fzk4 := HR.out.frozen 4
  have czk4 : wz.cell? ⟨w.heap.size + 1, 4, none⟩ = some (.slice none 0 0) := HR.out.cell (i := 4) rfl
  clear hX0 hR0 hB0
  go_enter Tryz.func99, Tryz.ntmps99
  go_wp2_with fail
  rw [show (w.alloc (.cells #[.slice A.a0 h.node.length A.c0, .slice A.a1 h.upF.length A.c1, .slice A.a2 h.up.length A.c2, .slice A.a3 h.dnF.length A.c3, .slice A.a4 h.dn.length A.c4] 25)).alloc (.cells #[.slice none 0 0, .slice none 0 0, .slice none 0 0, .slice none 0 0, .slice none 0 0] 25) = wz from hwz]
  clear hwz
  go_region_held3 (fun W => W.cell? ⟨w.heap.size, 0, none⟩ = some (.slice A.a0 h.node.length A.c0) ∧ W.cell? ⟨w.heap.size, 1, none⟩ = some (.slice A.a1 h.upF.length A.c1) ∧ W.cell? ⟨w.heap.size, 2, none⟩ = some (.slice A.a2 h.up.length A.c2) ∧ W.cell? ⟨w.heap.size, 3, none⟩ = some (.slice A.a3 h.dnF.length A.c3) ∧ W.cell? ⟨w.heap.size, 4, none⟩ = some (.slice A.a4 h.dn.length A.c4) ∧ W.frozen? ⟨w.heap.size + 1, 0, none⟩ = false ∧ W.frozen? ⟨w.heap.size + 1, 1, none⟩ = false ∧ W.frozen? ⟨w.heap.size + 1, 2, none⟩ = false ∧ W.frozen? ⟨w.heap.size + 1, 3, none⟩ = false ∧ W.frozen? ⟨w.heap.size + 1, 4, none⟩ = false) (go_keep)
    (first
      | (go_at_call 38; (with_reducible refine (words_any h.node A.a0 A.c0 _ (SEE.out.node.below (HZ.out.drew)) HRN.out).mono ?_); rintro e wm ⟨am, cm, rfl, sm, gm, bm⟩; (have Bm := Lib.hid ((HZ.out.drew).trans (bm.mono (HZ.out.drew).size))); (have m0 := ck bm k0); (have m1 := ck bm k1); (have m2 := ck bm k2); (have m3 := ck bm k3); (have m4 := ck bm k4); (have lm := Nat.lt_of_lt_of_le lk bm.size); (have fzm0 := (bm.frozen (p := ⟨w.heap.size + 1, 0, none⟩) lk).trans fzk0); (have czm0 := ck bm czk0); (have fzm1 := (bm.frozen (p := ⟨w.heap.size + 1, 1, none⟩) lk).trans fzk1); (have czm1 := ck bm czk1); (have fzm2 := (bm.frozen (p := ⟨w.heap.size + 1, 2, none⟩) lk).trans fzk2); (have czm2 := ck bm czk2); (have fzm3 := (bm.frozen (p := ⟨w.heap.size + 1, 3, none⟩) lk).trans fzk3); (have czm3 := ck bm czk3); (have fzm4 := (bm.frozen (p := ⟨w.heap.size + 1, 4, none⟩) lk).trans fzk4); (have czm4 := ck bm czk4))
      | (go_at_call 38; (with_reducible refine (words_any h.dnF A.a3 A.c3 _ (SEE.out.dnF.below (Bm.out)) HRD.out).mono ?_); rintro e wn ⟨an, cn, rfl, sn, gn, bn⟩; (have Bn := Lib.hid ((Bm.out).trans (bn.mono (Bm.out).size))); (have n0 := ck bn m0); (have n1 := ck bn m1); (have n2 := ck bn m2); (have n3 := ck bn m3); (have n4 := ck bn m4); (have ln := Nat.lt_of_lt_of_le lm bn.size); (have fzn0 := (bn.frozen (p := ⟨w.heap.size + 1, 0, none⟩) lm).trans fzm0); (have czn0 := ck bn czm0); (have fzn1 := (bn.frozen (p := ⟨w.heap.size + 1, 1, none⟩) lm).trans fzm1); (have czn1 := ck bn czm1); (have fzn2 := (bn.frozen (p := ⟨w.heap.size + 1, 2, none⟩) lm).trans fzm2); (have czn2 := ck bn czm2); (have fzn3 := (bn.frozen (p := ⟨w.heap.size + 1, 3, none⟩) lm).trans fzm3); (have czn3 := ck bn czm3); (have fzn4 := (bn.frozen (p := ⟨w.heap.size + 1, 4, none⟩) lm).trans fzm4); (have czn4 := ck bn czm4))
      | (go_at_call 120; (with_reducible refine (rturned_lit A h h.dn A.a4 A.c4 _ (SEE.out.dn.below (Bn.out)) SEE.out.bdn htot hdl).mono ?_); rintro e wp ⟨ap, cp, rfl, sp, gp, bp⟩; (have Bp := Lib.hid ((Bn.out).trans (bp.mono (Bn.out).size))); (have p0 := ck bp n0); (have p1 := ck bp n1); (have p2 := ck bp n2); (have p3 := ck bp n3); (have p4 := ck bp n4); (have lp := Nat.lt_of_lt_of_le ln bp.size); (have fzp0 := (bp.frozen (p := ⟨w.heap.size + 1, 0, none⟩) ln).trans fzn0); (have czp0 := ck bp czn0); (have fzp1 := (bp.frozen (p := ⟨w.heap.size + 1, 1, none⟩) ln).trans fzn1); (have czp1 := ck bp czn1); (have fzp2 := (bp.frozen (p := ⟨w.heap.size + 1, 2, none⟩) ln).trans fzn2); (have czp2 := ck bp czn2); (have fzp3 := (bp.frozen (p := ⟨w.heap.size + 1, 3, none⟩) ln).trans fzn3); (have czp3 := ck bp czn3); (have fzp4 := (bp.frozen (p := ⟨w.heap.size + 1, 4, none⟩) ln).trans fzn4); (have czp4 := ck bp czn4))
      | (go_at_call 38; (with_reducible refine (words_any h.upF A.a1 A.c1 _ (SEE.out.upF.below (Bp.out)) HRU.out).mono ?_); rintro e wq ⟨aq, cq, rfl, sq, gq, bq⟩; (have Bq := Lib.hid ((Bp.out).trans (bq.mono (Bp.out).size))); (have q0 := ck bq p0); (have q1 := ck bq p1); (have q2 := ck bq p2); (have q3 := ck bq p3); (have q4 := ck bq p4); (have lq := Nat.lt_of_lt_of_le lp bq.size); (have fzq0 := (bq.frozen (p := ⟨w.heap.size + 1, 0, none⟩) lp).trans fzp0); (have czq0 := ck bq czp0); (have fzq1 := (bq.frozen (p := ⟨w.heap.size + 1, 1, none⟩) lp).trans fzp1); (have czq1 := ck bq czp1); (have fzq2 := (bq.frozen (p := ⟨w.heap.size + 1, 2, none⟩) lp).trans fzp2); (have czq2 := ck bq czp2); (have fzq3 := (bq.frozen (p := ⟨w.heap.size + 1, 3, none⟩) lp).trans fzp3); (have czq3 := ck bq czp3); (have fzq4 := (bq.frozen (p := ⟨w.heap.size + 1, 4, none⟩) lp).trans fzp4); (have czq4 := ck bq czp4))
      | (go_at_call 120; (with_reducible refine (rturned_lit A h h.up A.a2 A.c2 _ (SEE.out.up.below (Bq.out)) SEE.out.bup htot hul).mono ?_); rintro e wr ⟨ar, cr, rfl, sr, gr, br⟩; (have Br := Lib.hid ((Bq.out).trans (br.mono (Bq.out).size))); (have r0 := ck br q0); (have r1 := ck br q1); (have r2 := ck br q2); (have r3 := ck br q3); (have r4 := ck br q4); (have lr := Nat.lt_of_lt_of_le lq br.size); (have fzr0 := (br.frozen (p := ⟨w.heap.size + 1, 0, none⟩) lq).trans fzq0); (have czr0 := ck br czq0); (have fzr1 := (br.frozen (p := ⟨w.heap.size + 1, 1, none⟩) lq).trans fzq1); (have czr1 := ck br czq1); (have fzr2 := (br.frozen (p := ⟨w.heap.size + 1, 2, none⟩) lq).trans fzq2); (have czr2 := ck br czq2); (have fzr3 := (br.frozen (p := ⟨w.heap.size + 1, 3, none⟩) lq).trans fzq3); (have czr3 := ck br czq3); (have fzr4 := (br.frozen (p := ⟨w.heap.size + 1, 4, none⟩) lq).trans fzq4); (have czr4 := ck br czq4)))
  dsimp only [Exit.then]
  go_wp2_with fail
  have hres := (((((HR.out.drew).below bm lk).below bn lm).below bp ln).below bq lp).below br lq
  refine bodyPost_ret (results_e rfl _ _ (w.heap.size + 1) 25 [.slice am h.node.length cm, .slice an h.dnF.length cn, .slice ap h.dn.length cp, .slice aq h.upF.length cq, .slice ar h.up.length cr] _ rfl (((((hres.set 0 _).set 1 _).set 2 _).set 3 _).set 4 _) Tryz.underlying25 rfl (by rw [Tryz.sizeHier5]; rfl)) rfl ?_
  obtain ⟨hs, hf⟩ := five_end ((turnD h)) (w.heap.size + 1) SEE.out.bn SEE.out.bd SEE.out.bu (fun l hl => by simp only [turnD, List.mem_map] at hl; obtain ⟨x, hx, rfl⟩ := hl; exact turnLink_ok5 (SEE.out.bdn x hx) htot) (fun l hl => by simp only [turnD, List.mem_map] at hl; obtain ⟨x, hx, rfl⟩ := hl; exact turnLink_ok5 (SEE.out.bup x hx) htot) lk sm gm lm sn gn ln sp gp lp sq gq lq sr gr bn bp bq br _ ((((((Only.refl [w.heap.size + 1] wr).setCell (p := ⟨w.heap.size + 1, 0, none⟩) (.inl (by simp)) _).setCell (p := ⟨w.heap.size + 1, 1, none⟩) (.inl (by simp)) _).setCell (p := ⟨w.heap.size + 1, 2, none⟩) (.inl (by simp)) _).setCell (p := ⟨w.heap.size + 1, 3, none⟩) (.inl (by simp)) _).setCell (p := ⟨w.heap.size + 1, 4, none⟩) (.inl (by simp)) _)
  exact ⟨⟨am, an, ap, aq, ar, cm, cn, cp, cq, cr⟩, by simp [hierVal, turnD], hs, hf, (((((Br.out).setCell (p := ⟨w.heap.size + 1, 0, none⟩) (by simp) _).setCell (p := ⟨w.heap.size + 1, 1, none⟩) (by simp) _).setCell (p := ⟨w.heap.size + 1, 2, none⟩) (by simp) _).setCell (p := ⟨w.heap.size + 1, 3, none⟩) (by simp) _).setCell (p := ⟨w.heap.size + 1, 4, none⟩) (by simp) _⟩
end Go.Proofs.YtchhbgckonpedaaGreatDoor

/- What the form's own reach says of a hierarchy that comes in. -/
namespace Go.Proofs.YtchhbgckonpedaaGreatDoor
open Go.ChangeShapes Go.WideShapes Go.ChangeAt Go.RowKit Go.Joins Go.Deep
section
variable {H : Type} {enc : TypeId × Value → H} {P : Program} {w : World}
theorem slice_weight {t e : TypeId} {ao : Option Addr} {k cap base n : Nat} {spare : Nat → Bool} {held : Bool} {y : DataW H × List MemPlace} {B : Nat} (ht : P.underlying t = some (.slice e)) (h : DataW.trod enc P w base spare held n t [.slice ao k cap] = some y)
    (hw : (y.1.weights P t).all (· ≤ B) = true) : k * P.bytesOf e ≤ B := by
  rcases DataW.trod_slice ht h with ⟨h1, -⟩ | ⟨a, len, cap2, elems, rest, m, -, h1, rfl, -, -, -, hl, -⟩
  · simp only [List.cons.injEq, and_true, Value.slice.injEq] at h1
    obtain ⟨-, rfl, -⟩ := h1
    simp
  · simp only [List.cons.injEq, and_true, Value.slice.injEq] at h1
    obtain ⟨-, rfl, -⟩ := h1
    simp only [DataW.weights, ht, List.all_cons, Bool.and_eq_true, decide_eq_true_eq, List.length_map] at hw
    refine Nat.le_trans ?_ hw.1
    exact Nat.mul_le_mul_right _ (by omega)
theorem hier_reach_of {u a b x l : TypeId} {A : HA} {D : HierD} {base : Nat} {spare : Nat → Bool} {held : Bool} {d : DataW H} {p : List MemPlace} (ht : HierType P u a b) (hta : P.underlying a = some (.slice x)) (htb : P.underlying b = some (.slice l)) (bx : P.bytesOf x = 4) (bl : P.bytesOf l = 24)
    (h : DataW.Trod enc P w base spare held u (hierVal A D) d p) (hw : (d.weights P u).all (· ≤ reachBytes) = true) : Reach5 D := by
  obtain ⟨hcs, hct, f0, f1, f2, f3, f4, hu, hone, t0, t1, t2, t3, t4⟩ := ht
  obtain ⟨fuel, hf⟩ := h
  obtain ⟨xs, n, _, hx, _, hlen, hg⟩ := DataW.trod_struct hu hf
  obtain ⟨o0, k0⟩ := hone_of hone 0 f0 rfl
  obtain ⟨o1, k1⟩ := hone_of hone 1 f1 rfl
  obtain ⟨o2, k2⟩ := hone_of hone 2 f2 rfl
  obtain ⟨o3, k3⟩ := hone_of hone 3 f3 rfl
  obtain ⟨o4, k4⟩ := hone_of hone 4 f4 rfl
  match xs, hlen with
  | [y0, y1, y2, y3, y4], _ =>
    have h0 : DataW.trod enc P w base spare held n f0.type [.slice A.a0 D.node.length A.c0] = some y0 := by simpa [hierVal, Value.cells, o0, k0] using hg 0 f0 rfl
    have h1 : DataW.trod enc P w base spare held n f1.type [.slice A.a1 D.upF.length A.c1] = some y1 := by simpa [hierVal, Value.cells, o1, k1] using hg 1 f1 rfl
    have h2 : DataW.trod enc P w base spare held n f2.type [.slice A.a2 D.up.length A.c2] = some y2 := by simpa [hierVal, Value.cells, o2, k2] using hg 2 f2 rfl
    have h3 : DataW.trod enc P w base spare held n f3.type [.slice A.a3 D.dnF.length A.c3] = some y3 := by simpa [hierVal, Value.cells, o3, k3] using hg 3 f3 rfl
    have h4 : DataW.trod enc P w base spare held n f4.type [.slice A.a4 D.dn.length A.c4] = some y4 := by simpa [hierVal, Value.cells, o4, k4] using hg 4 f4 rfl
    rw [t0] at h0; rw [t1] at h1; rw [t2] at h2; rw [t3] at h3; rw [t4] at h4
    simp only [Prod.mk.injEq] at hx
    obtain ⟨rfl, -⟩ := hx
    simp only [DataW.weights, hu, List.map_cons, List.map_nil, DataW.weightsEach, List.all_append, List.append_nil, Bool.and_eq_true, t0, t1, t2, t3, t4] at hw
    obtain ⟨w0, w1, w2, w3, w4⟩ := hw
    have r0 := slice_weight hta h0 w0
    have r1 := slice_weight hta h1 w1
    have r2 := slice_weight htb h2 w2
    have r3 := slice_weight hta h3 w3
    have r4 := slice_weight htb h4 w4
    rw [bx] at r0 r1 r3
    rw [bl] at r2 r4
    have hB : reachBytes ≤ 140737488355328 := by decide
    exact ⟨by omega, by omega, by omega, by omega, by omega⟩
theorem hier_reach {A : HA} {D : HierD} {base : Nat} {spare : Nat → Bool} {held : Bool} {d : DataW H} {p : List MemPlace}
    (h : DataW.Trod enc Tryz.prog w base spare held 25 (hierVal A D) d p) (hw : (d.weights Tryz.prog 25).all (· ≤ reachBytes) = true) : Reach5 D :=
  hier_reach_of Tryz.hierType Tryz.underlying22 Tryz.underlying23 (by kernel_rfl) (by kernel_rfl) h hw
end
end Go.Proofs.YtchhbgckonpedaaGreatDoor
