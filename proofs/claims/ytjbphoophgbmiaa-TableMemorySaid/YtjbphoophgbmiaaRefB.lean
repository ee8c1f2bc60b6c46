/- The reference's copies: Words, Links, Twin. -/
import Derived.Test.YtjbphoophgbmiaaLawQ1
import Derived.Test.YtjbphoophgbmiaaErrV
namespace Go.Proofs.Ytjbphoophgbmiaa
open Go.ChangeShapes Go.WideShapes Go.ChangeAt Go.RowKit Go.Joins Go.Deep

set_option maxRecDepth 100000 in
theorem words_any (l : List Nat) (ao : Option Addr) (cap : Nat) (w : World) (see : See w ao cap u32Cells 1 l) (hl : l.length * 4 ≤ 140737488355328) :
    Calls Try.prog 29 #[.slice ao l.length cap] w (WordsNew l w) := by
  have SEE := Lib.hid see
  clear see
  go_enter Try.func29, Try.ntmps29
  go_wp2_with fail
  go_loopg [3, 8] l.length (fun g vm vi wr => ∃ (k : Nat) (ao2 : Option Addr) (cap2 : Nat), vi = .int .i64 k ∧ k ≤ l.length ∧ g = l.length - k ∧ vm = .slice ao2 k cap2 ∧
    wr.ownsRow 0 38 1 (.slice ao2 k cap2) k ((l.take k).flatMap u32Cells) ∧ (∀ b, (Value.slice ao2 k cap2).ownBlock = some b → w.heap.size ≤ b) ∧ Below w.heap.size w wr)
  case atStart => exact ⟨0, none, 0, rfl, Nat.zero_le _, rfl, rfl, World.ownsRow_nil _ _ _ _, by simp [Value.ownBlock], Below.refl _ _⟩
  case round =>
    obtain ⟨k, ao2, cap2, rfl, hk, hg, rfl, hown, hnew, hbl⟩ := hrel
    have HG := Lib.hid hg
    have HOWN := Lib.hid hown
    have HNEW := Lib.hid hnew
    have HBL := Lib.hid hbl
    have hz := hbl.size
    clear hg hown hnew hbl
    by_cases hkl : k < l.length
    · obtain ⟨x, hx⟩ : ∃ x, l[k]? = some x := ⟨_, List.getElem?_eq_getElem hkl⟩
      obtain ⟨b, o, ea, cc⟩ := (SEE.out.below HBL.out).cell k x hx
      have e0 := cc 0 _ rfl
      rw [Nat.mul_one, Nat.add_zero] at e0
      have lb := block_lt e0
      have EA := Lib.hid ea
      have HX := Lib.hid hx
      clear ea cc hx
      rw [EA.out]
      go_wp2_with (at_builtin; refine wpList_app _ rfl _ _ 22 rfl 38 (.int .u32 0) 1 4 Try.underlying22 Try.infoU32 rfl (by decide) (.slice ao2 k cap2) k ((l.take k).flatMap u32Cells) rfl ?own ⟨wr.heap.size, 0, none⟩ 1 1 (u32Cells x) rfl rfl ?c1 ?c2 ?c3 ?c4 ?_)
      case own => exact own_kept (bs := []) HOWN.out ((Only.refl _ wr).alloc _) (fun q _ => by simp)
      case c1 => exact cells_new wr 38 (u32Cells x)
      case c2 => intro u hu; simp [u32Cells] at hu; subst hu; rfl
      case c3 => unfold maxLen; omega
      case c4 => omega
      intro ao5 cap5 w5 hown5 ho5 hk5
      have hbw := HBL.out.alloc hz (.cells #[.int .u32 x] 38)
      have hnew5 : ∀ x, (Value.slice ao5 (k + 1) cap5).ownBlock = some x → w.heap.size ≤ x := by
        intro x hx
        rcases hk5 x hx with h1 | h1
        · exact HNEW.out x h1
        · have := hbw.size; omega
      have hbl5 : Below w.heap.size w w5 := hbw.trans (ho5.below hbw.size (fun q hq => HNEW.out q (by simpa using hq)))
      have hf5 : (l.take k).flatMap u32Cells ++ u32Cells x = (l.take (k + 1)).flatMap u32Cells := by
        rw [List.take_add_one, HX.out, List.flatMap_append]
        simp
      rw [hf5] at hown5
      have O5 := Lib.hid hown5
      have N5 := Lib.hid hnew5
      have B5 := Lib.hid hbl5
      clear hown5 ho5 hk5 hnew5 hbl5 hf5 hbw
      go_wp2_with fail
      rw [← EA.out]
      go_roundg (l.length - (k + 1))
      case measure => rw [HG.out]; omega
      case rel => exact ⟨k + 1, ao5, cap5, by go_num, by omega, rfl, rfl, O5.out, N5.out, B5.out⟩
    · obtain rfl : k = l.length := by omega
      go_wp2
      go_returns
      have hO := HOWN.out
      rw [List.take_length] at hO
      refine ⟨ao2, cap2, rfl, (See.of_own u32Cells_len hO (by omega)).1, ⟨own_form2 hO, fun b o e => ?_⟩, HBL.out⟩
      subst e
      rcases hO.2 with ⟨h1, -⟩ | ⟨g, c, cur, h1, -⟩
      · cases h1
      · simp only [Value.slice.injEq, Option.some.injEq, Addr.mk.injEq] at h1
        obtain ⟨⟨rfl, rfl, -⟩, -, -⟩ := h1
        exact HNEW.out _ rfl

set_option maxRecDepth 100000 in
theorem links_copy (l : List LinkD) (ao : Option Addr) (cap : Nat) (w : World) (see : See w ao cap linkCells 4 l) (hl : l.length * 24 ≤ 140737488355328) :
    Calls Try.prog 30 #[.slice ao l.length cap] w (LinksNew l w) := by
  have SEE := Lib.hid see
  clear see
  go_enter Try.func30, Try.ntmps30
  go_wp2_with fail
  go_loopg [3, 8] l.length (fun g vm vi wr => ∃ (k : Nat) (ao2 : Option Addr) (cap2 : Nat), vi = .int .i64 k ∧ k ≤ l.length ∧ g = l.length - k ∧ vm = .slice ao2 k cap2 ∧
    wr.ownsRow 0 60 4 (.slice ao2 k cap2) k ((l.take k).flatMap linkCells) ∧ (∀ b, (Value.slice ao2 k cap2).ownBlock = some b → w.heap.size ≤ b) ∧ Below w.heap.size w wr)
  case atStart => exact ⟨0, none, 0, rfl, Nat.zero_le _, rfl, rfl, World.ownsRow_nil _ _ _ _, by simp [Value.ownBlock], Below.refl _ _⟩
  case round =>
    obtain ⟨k, ao2, cap2, rfl, hk, hg, rfl, hown, hnew, hbl⟩ := hrel
    have HG := Lib.hid hg
    have HOWN := Lib.hid hown
    have HNEW := Lib.hid hnew
    have HBL := Lib.hid hbl
    have hz := hbl.size
    clear hg hown hnew hbl
    by_cases hkl : k < l.length
    · obtain ⟨x, hx⟩ : ∃ x, l[k]? = some x := ⟨_, List.getElem?_eq_getElem hkl⟩
      obtain ⟨b, o, ea, cc⟩ := (SEE.out.below HBL.out).cell k x hx
      have e0 := cc 0 _ rfl
      have e1 := cc 1 _ rfl
      have e2 := cc 2 _ rfl
      have e3 := cc 3 _ rfl
      rw [Nat.add_zero] at e0
      have lb := block_lt e0
      have EA := Lib.hid ea
      have HX := Lib.hid hx
      clear ea cc hx
      rw [EA.out]
      go_wp2_with (at_builtin; refine wpList_app _ rfl _ _ 23 rfl 60 (.agg #[.int .u32 0, .int .u64 0, .int .u32 0, .int .u32 0]) 4 24 Try.underlying23 Try.infoLink rfl (by decide) (.slice ao2 k cap2) k ((l.take k).flatMap linkCells) rfl ?own ⟨wr.heap.size + 1, 0, none⟩ 1 1 (linkCells x) rfl rfl ?c1 ?c2 ?c3 ?c4 ?_)
      case own => exact own_kept (bs := []) HOWN.out (((Only.refl _ wr).alloc _).alloc _) (fun q _ => by simp)
      case c1 =>
        have := cells_new (wr.alloc (.cells (linkCells x).toArray 60)) 60 (linkCells x)
        rw [World.size_alloc] at this
        exact this
      case c2 => intro u hu; simp [linkCells] at hu; rcases hu with rfl | rfl | rfl | rfl <;> rfl
      case c3 => unfold maxLen; omega
      case c4 => omega
      intro ao5 cap5 w5 hown5 ho5 hk5
      have hbw := (HBL.out.alloc hz (.cells (linkCells x).toArray 60)).alloc (by simp; omega) (.cells (linkCells x).toArray 60)
      have hnew5 : ∀ x, (Value.slice ao5 (k + 1) cap5).ownBlock = some x → w.heap.size ≤ x := by
        intro x hx
        rcases hk5 x hx with h1 | h1
        · exact HNEW.out x h1
        · have := hbw.size; omega
      have hbl5 : Below w.heap.size w w5 := hbw.trans (ho5.below hbw.size (fun q hq => HNEW.out q (by simpa using hq)))
      have hf5 : (l.take k).flatMap linkCells ++ linkCells x = (l.take (k + 1)).flatMap linkCells := by
        rw [List.take_add_one, HX.out, List.flatMap_append]
        simp
      rw [hf5] at hown5
      have O5 := Lib.hid hown5
      have N5 := Lib.hid hnew5
      have B5 := Lib.hid hbl5
      clear hown5 ho5 hk5 hnew5 hbl5 hf5 hbw
      go_wp2_with fail
      rw [← EA.out]
      go_roundg (l.length - (k + 1))
      case measure => rw [HG.out]; omega
      case rel => exact ⟨k + 1, ao5, cap5, by go_num, by omega, rfl, rfl, O5.out, N5.out, B5.out⟩
    · obtain rfl : k = l.length := by omega
      go_wp2
      go_returns
      have hO := HOWN.out
      rw [List.take_length] at hO
      exact ⟨ao2, cap2, rfl, hO, HNEW.out, HBL.out⟩
end Go.Proofs.Ytjbphoophgbmiaa

/- The reference's Link, Plain and EndOf. -/
namespace Go.Proofs.Ytjbphoophgbmiaa
open Go.ChangeShapes Go.WideShapes Go.ChangeAt Go.RowKit Go.Joins Go.Deep

def linkAt (h : HierD) (i : Nat) : LinkD := if i < h.up.length then h.up.getD i default else h.dn.getD (i - h.up.length) default
theorem Try.sizeLinkC : (Try.prog.info? 60).map (·.size) = some 4 := by kernel_rfl
def LinkIs (x : LinkD) (w : World) (e : Ending) (w' : World) : Prop := e = .returned (linkVal x) ∧ Below w.heap.size w w'

set_option maxRecDepth 100000 in
theorem rlink_any (A : HA) (h : HierD) (i : Nat) (w : World) (see : HSee w A h) (hi : i < h.up.length + h.dn.length) (hd63 : h.dn.length ≤ 1048576) :
    Calls Try.prog 64 #[hierVal A h, .int .i64 i] w (LinkIs (linkAt h i) w) := by
  have SEE := Lib.hid see
  clear see
  by_cases hu : i < h.up.length
  · obtain ⟨x, hx⟩ : ∃ x, h.up[i]? = some x := ⟨_, List.getElem?_eq_getElem hu⟩
    have hat : linkAt h i = x := by
      unfold linkAt
      rw [if_pos hu, List.getD_eq_getElem?_getD, hx]
      rfl
    obtain ⟨b, o, ea, cc⟩ := SEE.out.up.cell i x hx
    have e0 := cc 0 _ rfl
    have e1 := cc 1 _ rfl
    have e2 := cc 2 _ rfl
    have e3 := cc 3 _ rfl
    rw [Nat.add_zero] at e0
    have lb := block_lt e0
    have d0 : decide (i < h.up.length) = true := by simpa using hu
    rw [hat]
    unfold hierVal
    rw [ea]
    clear hat hx cc ea
    go_enter Try.func64, Try.ntmps64
    go_wp2
    refine bodyPost_ret (results_e rfl _ _ (w.heap.size + 1) 60 (linkCells x) _ rfl (cells_at (by simp) _ _) Try.underlying60 rfl (by rw [Try.sizeLinkC]; rfl)) rfl ?_
    exact ⟨rfl, by go_grown⟩
  · obtain ⟨x, hx⟩ : ∃ x, h.dn[i - h.up.length]? = some x := ⟨_, List.getElem?_eq_getElem (by omega)⟩
    have hat : linkAt h i = x := by
      unfold linkAt
      rw [if_neg hu, List.getD_eq_getElem?_getD, hx]
      rfl
    obtain ⟨b, o, ea, cc⟩ := SEE.out.dn.cell _ x hx
    obtain ⟨j, rfl⟩ : ∃ j, i = h.up.length + j := ⟨i - h.up.length, by omega⟩
    rw [Nat.add_sub_cancel_left] at cc
    have e0 := cc 0 _ rfl
    have e1 := cc 1 _ rfl
    have e2 := cc 2 _ rfl
    have e3 := cc 3 _ rfl
    rw [Nat.add_zero] at e0
    have lb := block_lt e0
    have d0 : decide (h.up.length + j < h.up.length) = false := by simp
    have d1 : ((h.up.length + j : Nat) : Int) - (h.up.length : Int) = (j : Int) := by omega
    rw [hat]
    unfold hierVal
    rw [ea]
    clear hat hx cc ea
    go_enter Try.func64, Try.ntmps64
    go_wp2
    refine bodyPost_ret (results_e rfl _ _ (w.heap.size + 1) 60 (linkCells x) _ rfl (cells_at (by simp) _ _) Try.underlying60 rfl (by rw [Try.sizeLinkC]; rfl)) rfl ?_
    exact ⟨rfl, by go_grown⟩

set_option maxRecDepth 100000 in
theorem rplain_any (x : LinkD) (w : World) (hx : x.ok) : Calls Try.prog 65 #[linkVal x] w (BoolIs x.plain w) := by
  obtain ⟨-, -, h3, h4⟩ := hx
  by_cases h1 : x.left = 4294967295
  · by_cases h2 : x.right = 4294967295
    · have hp : x.plain = true := (plain_iff x).2 ⟨h1, h2⟩
      have d1 : ((x.left : Int) == 4294967295) = true := by simp; omega
      have d2 : ((x.right : Int) == 4294967295) = true := by simp; omega
      rw [hp]
      unfold linkVal
      clear hp h1 h2
      go_enter Try.func65, Try.ntmps65
      go_wp2
      go_returns
      exact ⟨rfl, by go_grown⟩
    · have hp : x.plain = false := by rw [Bool.eq_false_iff, ne_eq, plain_iff]; exact fun e => h2 e.2
      have d1 : ((x.left : Int) == 4294967295) = true := by simp; omega
      have d2 : ((x.right : Int) == 4294967295) = false := by simp; omega
      rw [hp]
      unfold linkVal
      clear hp h1 h2
      go_enter Try.func65, Try.ntmps65
      go_wp2
      go_returns
      exact ⟨rfl, by go_grown⟩
  · have hp : x.plain = false := by rw [Bool.eq_false_iff, ne_eq, plain_iff]; exact fun e => h1 e.1
    have d1 : ((x.left : Int) == 4294967295) = false := by simp; omega
    rw [hp]
    unfold linkVal
    clear hp h1
    go_enter Try.func65, Try.ntmps65
    go_wp2
    go_returns
    exact ⟨rfl, by go_grown⟩

/-! ### the ends by their numbers -/
def ranksL (h : HierD) : List Nat := (endsOf h).map (·.rank)
def i64Cells (n : Nat) : List Value := [.int .i64 n]
theorem i64Cells_len (n : Nat) : (i64Cells n).length = 1 := rfl
theorem ups_links {h : HierD} (u : FirstsOk h.node.length h.upF h.up.length) : ∀ n, n ≤ h.node.length → (((List.range n).flatMap (endsUp h.upF h.up)).map (·.link)) = h.up.take (h.upF.getD n 0) := by
  intro n
  induction n with
  | zero => intro _; rw [u.zero]; simp
  | succ n ih =>
    intro hn
    rw [List.range_succ, List.flatMap_append, List.map_append, ih (by omega)]
    simp only [List.flatMap_cons, List.flatMap_nil, List.append_nil, endsUp, List.map_map]
    have hm := u.mono n (by omega)
    have : (List.map ((fun x => x.link) ∘ fun l => (⟨l, n, l.to, n⟩ : EndD)) (seg h.upF h.up n)) = seg h.upF h.up n := by
      rw [show ((fun x : EndD => x.link) ∘ fun l => (⟨l, n, l.to, n⟩ : EndD)) = id from rfl, List.map_id]
    rw [this]
    unfold seg
    have h2 := List.take_append_drop (h.upF.getD n 0) (h.up.take (h.upF.getD (n + 1) 0))
    rw [List.take_take, Nat.min_eq_left hm] at h2
    exact h2
theorem dns_links {h : HierD} (u : FirstsOk h.node.length h.dnF h.dn.length) : ∀ n, n ≤ h.node.length → (((List.range n).flatMap (endsDn h.dnF h.dn)).map (·.link)) = h.dn.take (h.dnF.getD n 0) := by
  intro n
  induction n with
  | zero => intro _; rw [u.zero]; simp
  | succ n ih =>
    intro hn
    rw [List.range_succ, List.flatMap_append, List.map_append, ih (by omega)]
    simp only [List.flatMap_cons, List.flatMap_nil, List.append_nil, endsDn, List.map_map]
    have hm := u.mono n (by omega)
    have : (List.map ((fun x => x.link) ∘ fun l => (⟨l, l.to, n, n⟩ : EndD)) (seg h.dnF h.dn n)) = seg h.dnF h.dn n := by
      rw [show ((fun x : EndD => x.link) ∘ fun l => (⟨l, l.to, n, n⟩ : EndD)) = id from rfl, List.map_id]
    rw [this]
    unfold seg
    have h2 := List.take_append_drop (h.dnF.getD n 0) (h.dn.take (h.dnF.getD (n + 1) 0))
    rw [List.take_take, Nat.min_eq_left hm] at h2
    exact h2
theorem ends_links {h : HierD} (u : FirstsOk h.node.length h.upF h.up.length) (d : FirstsOk h.node.length h.dnF h.dn.length) : (endsOf h).map (·.link) = h.up ++ h.dn := by
  unfold endsOf
  rw [List.map_append, ups_links u _ (Nat.le_refl _), dns_links d _ (Nat.le_refl _), u.last, d.last, List.take_length, List.take_length]
theorem ends_link {h : HierD} (u : FirstsOk h.node.length h.upF h.up.length) (d : FirstsOk h.node.length h.dnF h.dn.length) (i : Nat) (hi : i < h.up.length + h.dn.length) : ((endsOf h).getD i default).link = linkAt h i := by
  have hl := endsOf_length u d
  have h1 : ((endsOf h).map (·.link)).getD i default = ((endsOf h).getD i default).link := getD_map_lt _ _ _ _ _ (by omega)
  rw [← h1, ends_links u d]
  unfold linkAt
  split
  · rename_i h2; exact getD_app_left _ _ _ _ h2
  · rename_i h2; exact getD_app_right _ _ _ _ (by omega)
/-- Where an end of a list of ends stands. -/
theorem ends_tail {h : HierD} (u : FirstsOk h.node.length h.upF h.up.length) (d : FirstsOk h.node.length h.dnF h.dn.length) (i : Nat) (hi : i < h.up.length + h.dn.length) : let x := (endsOf h).getD i default
    if i < h.up.length then x.tail = x.rank ∧ x.head = x.link.to else x.tail = x.link.to ∧ x.head = x.rank := by
  have hl := endsOf_length u d
  have lu := endsUp_length u _ (Nat.le_refl _)
  rw [u.last] at lu
  simp only
  split
  · rename_i h1
    unfold endsOf
    rw [getD_app_left _ _ _ _ (by omega)]
    have hm : ((List.range h.node.length).flatMap (endsUp h.upF h.up)).getD i default ∈ (List.range h.node.length).flatMap (endsUp h.upF h.up) := by
      rw [List.getD_eq_getElem?_getD, List.getElem?_eq_getElem (by omega)]
      exact List.getElem_mem _
    obtain ⟨r, -, hr⟩ := List.mem_flatMap.1 hm
    simp only [endsUp, List.mem_map] at hr
    obtain ⟨l, -, he⟩ := hr
    rw [← he]
    exact ⟨rfl, rfl⟩
  · rename_i h1
    unfold endsOf
    rw [getD_app_right _ _ _ _ (by omega)]
    have ld := endsDn_length d _ (Nat.le_refl _)
    rw [d.last] at ld
    have hm : ((List.range h.node.length).flatMap (endsDn h.dnF h.dn)).getD (i - ((List.range h.node.length).flatMap (endsUp h.upF h.up)).length) default ∈ (List.range h.node.length).flatMap (endsDn h.dnF h.dn) := by
      rw [List.getD_eq_getElem?_getD, List.getElem?_eq_getElem (by omega)]
      exact List.getElem_mem _
    obtain ⟨r, -, hr⟩ := List.mem_flatMap.1 hm
    simp only [endsDn, List.mem_map] at hr
    obtain ⟨l, -, he⟩ := hr
    rw [← he]
    exact ⟨rfl, rfl⟩
end Go.Proofs.Ytjbphoophgbmiaa
