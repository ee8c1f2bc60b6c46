/- The contracts of unpack's link and lay. -/
import Derived.Test.YtchhbgckonpedaaGreatDoorG17
import Derived.Test.YtchhbgckonpedaaGreatDoorG19
namespace Go.Proofs.YtchhbgckonpedaaGreatDoor
open Go.ChangeShapes Go.WideShapes Go.ChangeAt Go.RowKit Go.Joins Go.Deep
set_option maxRecDepth 100000 in
theorem ulink_any (A : HA) (h : HierD) (i : Nat) (w : World) (see : HSee w A h) (hi : i < h.up.length + h.dn.length) (hd63 : h.dn.length ≤ 1048576) :
    Calls Tryz.prog 61 #[hierVal A h, .int .i64 i] w (LinkIs (linkAt h i) w) := by
  have SEE := Lib.hid see
  clear see
  by_cases hu : i < h.up.length
  · obtain ⟨x, hx⟩ : ∃ x, h.up[i]? = some x := ⟨_, List.getElem?_eq_getElem hu⟩
    have hat : linkAt h i = x := by
      unfold linkAt
      rw [if_pos hu, List.getD_eq_getElem?_getD, hx]
      rfl
    obtain ⟨b, o, ea, cc⟩ := SEE.out.up.cell i x hx
    have e0 := cc 0 _ rfl
    have e1 := cc 1 _ rfl
    have e2 := cc 2 _ rfl
    have e3 := cc 3 _ rfl
    rw [Nat.add_zero] at e0
    have lb := block_lt e0
    have d0 : decide (i < h.up.length) = true := by simpa using hu
    rw [hat]
    unfold hierVal
    rw [ea]
    clear hat hx cc ea
    go_enter Tryz.func61, Tryz.ntmps61
    go_wp2
    refine bodyPost_ret (results_e rfl _ _ (w.heap.size + 1) 65 (linkCells x) _ rfl (cells_at (by simp) _ _) Tryz.underlying65 rfl (by rw [Tryz.sizeLinkC]; rfl)) rfl ?_
    exact ⟨rfl, by go_grown⟩
  · obtain ⟨x, hx⟩ : ∃ x, h.dn[i - h.up.length]? = some x := ⟨_, List.getElem?_eq_getElem (by omega)⟩
    have hat : linkAt h i = x := by
      unfold linkAt
      rw [if_neg hu, List.getD_eq_getElem?_getD, hx]
      rfl
    obtain ⟨b, o, ea, cc⟩ := SEE.out.dn.cell _ x hx
    obtain ⟨j, rfl⟩ : ∃ j, i = h.up.length + j := ⟨i - h.up.length, by omega⟩
    rw [Nat.add_sub_cancel_left] at cc
    have e0 := cc 0 _ rfl
    have e1 := cc 1 _ rfl
    have e2 := cc 2 _ rfl
    have e3 := cc 3 _ rfl
    rw [Nat.add_zero] at e0
    have lb := block_lt e0
    have d0 : decide (h.up.length + j < h.up.length) = false := by simp
    have d1 : ((h.up.length + j : Nat) : Int) - (h.up.length : Int) = (j : Int) := by omega
    rw [hat]
    unfold hierVal
    rw [ea]
    clear hat hx cc ea
    go_enter Tryz.func61, Tryz.ntmps61
    go_wp2
    refine bodyPost_ret (results_e rfl _ _ (w.heap.size + 1) 65 (linkCells x) _ rfl (cells_at (by simp) _ _) Tryz.underlying65 rfl (by rw [Tryz.sizeLinkC]; rfl)) rfl ?_
    exact ⟨rfl, by go_grown⟩
structure Nats (B : Nat) (w' : World) (v : Value) (l : List Nat) : Prop where
  own : w'.ownsRow 0 3 1 v l.length (l.flatMap i64Cells)
  new : ∀ k, v.ownBlock = some k → B ≤ k
theorem Nats.nil (B : Nat) (w : World) : Nats B w (.slice none 0 0) [] := ⟨World.ownsRow_nil _ _ _ _, by simp [Value.ownBlock]⟩
theorem Nats.kept {B : Nat} {w w' : World} {v : Value} {l : List Nat} {bs : List Nat} (n : Nats B w v l) (o : Only bs w w') (hn : ∀ k, v.ownBlock = some k → k ∉ bs) : Nats B w' v l := ⟨own_kept n.own o hn, n.new⟩
theorem Nats.below {B : Nat} {w w' : World} {v : Value} {l : List Nat} (n : Nats B w v l) (o : Below w.heap.size w w') : Nats B w' v l := n.kept (bs := []) (Only.of_below o) (fun _ _ => by simp)
theorem Nats.form {B : Nat} {w : World} {v : Value} {l : List Nat} (n : Nats B w v l) : ∃ ao cap, v = .slice ao l.length cap := own_form' n.own
theorem Nats.mono {B C : Nat} {w : World} {v : Value} {l : List Nat} (n : Nats B w v l) (h : C ≤ B) : Nats C w v l := ⟨n.own, fun k hk => Nat.le_trans h (n.new k hk)⟩
theorem Nats.see {B : Nat} {w : World} {ao : Option Addr} {n cap : Nat} {l : List Nat} (h : Nats B w (.slice ao n cap) l) : See w ao cap i64Cells 1 l ∧ n = l.length := by
  obtain ⟨ao2, cap2, e⟩ := h.form
  simp only [Value.slice.injEq] at e
  obtain ⟨rfl, rfl, rfl⟩ := e
  exact ⟨(See.of_own i64Cells_len h.own (by omega)).1, rfl⟩
theorem Nats.block {B : Nat} {w : World} {v : Value} {l : List Nat} (n : Nats B w v l) (hl : 0 < l.length) : ∃ g cap, v = .slice (some ⟨g, 0, none⟩) l.length cap ∧ B ≤ g ∧ g < w.heap.size ∧ ∀ (i x : Nat), l[i]? = some x → w.cell? ⟨g, i, none⟩ = some (.int .i64 (x : Int)) := by
  obtain ⟨g, cap, rfl, -, hg⟩ := own_form n.own hl
  refine ⟨g, cap, rfl, n.new g rfl, hg, fun i x hx => ?_⟩
  obtain ⟨b, o, e, hc⟩ := n.see.1.cell i x hx
  simp only [Option.some.injEq, Addr.mk.injEq, and_true] at e
  obtain ⟨rfl, rfl⟩ := e
  have := hc 0 _ rfl
  rwa [Nat.mul_one, Nat.add_zero, Nat.zero_add] at this
theorem Nats.cap {B : Nat} {w : World} {ao : Option Addr} {n cap : Nat} {l : List Nat} (h : Nats B w (.slice ao n cap) l) : l.length ≤ cap ∧ cap ≤ maxLen := ⟨h.see.1.hcap, h.see.1.hmax⟩
theorem Nats.app {B : Nat} {w w5 : World} {v : Value} {l : List Nat} (n : Nats B w v l) {ao : Option Addr} {cap : Nat} {m : Nat} (news : List Nat) (hm : news.length = m)
    (ho : w5.ownsRow 0 3 1 (.slice ao (l.length + m) cap) (l.length + m) (l.flatMap i64Cells ++ news.flatMap i64Cells)) (hk : ∀ k, (Value.slice ao (l.length + m) cap).ownBlock = some k → v.ownBlock = some k ∨ w.heap.size ≤ k) (hB : B ≤ w.heap.size) :
    Nats B w5 (.slice ao (l.length + m) cap) (l ++ news) := by
  subst hm
  refine ⟨by rw [List.flatMap_append, List.length_append]; exact ho, fun k h => ?_⟩
  rcases hk k h with h1 | h1
  · exact n.new k h1
  · omega
theorem Nats.take {B : Nat} {w : World} {g cap : Nat} {l : List Nat} {n m : Nat} (h : Nats B w (.slice (some ⟨g, 0, none⟩) n cap) l) (hm : m ≤ l.length) : Nats B w (.slice (some ⟨g, 0, none⟩) m cap) (l.take m) := by
  obtain ⟨-, rfl⟩ := h.see
  have ho := own_take h.own hm
  rw [← flat_take i64Cells_len] at ho
  have e : (l.take m).length = m := by simp; omega
  exact ⟨by rw [e]; exact ho, h.new⟩
theorem rkOf_lt {h : HierD} (hc : checkErr h = .nil) {i : Nat} (hi : i < cntOf h) : rkOf h i < h.node.length := by
  obtain ⟨f, -, -, -, hg⟩ := checkErr_parts hc
  have hn := cnt_ends hc
  have mi : endAt h i ∈ endsOf h := by
    unfold endAt
    rw [List.getD_eq_getElem?_getD, List.getElem?_eq_getElem (by omega), Option.getD_some]
    exact List.getElem_mem _
  have := end_facts hg _ mi
  unfold rkOf
  omega
theorem StackOk.start {h : HierD} (hc : checkErr h = .nil) : ∀ l : List Nat, (∀ x ∈ l, x < cntOf h) → ∀ B, l.length + h.node.length ≤ B → StackOk h B l
  | [], _, _, _ => trivial
  | x :: l, hl, B, hB => by
    have h1 := rkOf_lt hc (hl x (by simp))
    simp only [List.length_cons] at hB
    exact ⟨hl x (by simp), by omega, StackOk.start hc l (fun y hy => hl y (by simp [hy])) B (by omega)⟩
theorem own_mem {v : Value} {k : Nat} (h : k ∈ v.ownBlock.toList) : v.ownBlock = some k := by
  cases hv : v.ownBlock with
  | none => rw [hv] at h; simp at h
  | some a => rw [hv] at h; simp at h; rw [h]
structure LayI (h : HierD) (list : List Nat) (w0 wr : World) (S out : List Nat) (vo vs : Value) : Prop where
  o : Nats w0.heap.size wr vo out
  st : Nats w0.heap.size wr vs S.reverse
  apart : ∀ k, vo.ownBlock = some k → vs.ownBlock = some k → False
  ok : StackOk h (list.length + h.node.length) S
  eq : out ++ stackOut h S = stackOut h list
  small : out.length ≤ 131072
  b : Below w0.heap.size w0 wr
def ListNew (r : List Nat × EV) (w : World) (e : Ending) (w' : World) : Prop := ∃ ao cap v, e = .returned (.tuple #[.slice ao r.1.length cap, v]) ∧ ErrIs w' v r.2 ∧ Nats w.heap.size w' (.slice ao r.1.length cap) r.1 ∧ Below w.heap.size w w'
set_option maxRecDepth 100000 in
set_option maxHeartbeats 4000000 in
theorem ulay_any (A : HA) (h : HierD) (la : Option Addr) (lc : Nat) (list : List Nat) (w : World) (see : HSee w A h) (hc : checkErr h = .nil) (htot : cntOf h ≤ 1048576) (sl : See w la lc i64Cells 1 list) (hl : ∀ x ∈ list, x < cntOf h) (hlen : list.length ≤ 1048576) :
    Calls Tryz.prog 37 #[hierVal A h, .slice la list.length lc] w (ListNew (layRes h list) w) := by
  have HC := Lib.hid hc
  have HL := Lib.hid hl
  have HT := Lib.hid htot
  have hd63 : h.dn.length ≤ 1048576 := by unfold cntOf at htot; omega
  have hn := (checkErr_parts hc).1.n
  obtain ⟨w0, hw0⟩ : ∃ w0 : World, w.alloc (.cells (hierCells A h).toArray 25) = w0 := ⟨_, rfl⟩
  have hB0 : Below w.heap.size w w0 := by rw [← hw0]; exact (Below.refl _ _).alloc (Nat.le_refl _) _
  have hx0 : Cells w0 w.heap.size 25 (hierCells A h) := by rw [← hw0]; exact Cells.new w _ _
  have SEE := Lib.hid (see.below hB0)
  have SL := Lib.hid (sl.below hB0)
  have HX := Lib.hid hx0
  have HB := Lib.hid hB0
  have HW0 := Lib.hid hw0
  clear see sl hl hc hB0 hx0 htot hw0
  have hlen2 : (list.length : Int) - 1 ≤ 1048576 := by omega
  unfold hierVal
  go_enter Tryz.func37, Tryz.ntmps37
  go_wp2_with fail
  rw [show w.alloc (.cells #[.slice A.a0 h.node.length A.c0, .slice A.a1 h.upF.length A.c1, .slice A.a2 h.up.length A.c2, .slice A.a3 h.dnF.length A.c3, .slice A.a4 h.dn.length A.c4] 25) = w0 from HW0.out]
  go_loopg [7, 8] (list.length) (fun g vst vi wr => ∃ (j : Nat) (ao : Option Addr) (cap : Nat), vi = .int .i64 ((j : Int) - 1) ∧ j ≤ list.length ∧ g = j ∧ vst = .slice ao (list.length - j) cap ∧
    Nats w0.heap.size wr (.slice ao (list.length - j) cap) (list.drop j).reverse ∧ Below w0.heap.size w0 wr)
  case atStart => exact ⟨list.length, none, 0, rfl, Nat.le_refl _, rfl, by rw [Nat.sub_self], by rw [Nat.sub_self, List.drop_length]; exact Nats.nil _ _, Below.refl _ _⟩
  case round =>
    obtain ⟨j, ao, cap, rfl, hj, hg, rfl, hnat, hbl⟩ := hrel
    have HG := Lib.hid hg
    have HN := Lib.hid hnat
    have HBL := Lib.hid hbl
    have hz := hbl.size
    clear hg hnat hbl
    cases j with
    | succ m =>
      have e1 : (((m + 1 : Nat) : Int) - 1) = (m : Int) := by omega
      rw [e1]
      obtain ⟨x, hx⟩ : ∃ x, list[m]? = some x := ⟨_, List.getElem?_eq_getElem (by omega)⟩
      obtain ⟨b, o, ea, cc⟩ := (SL.out.below HBL.out).cell m x hx
      have e0 := cc 0 _ rfl
      rw [Nat.mul_one, Nat.add_zero] at e0
      have lb := block_lt e0
      have EA := Lib.hid ea
      have HXX := Lib.hid hx
      clear ea cc hx e1
      rw [EA.out]
      have hlr : (list.drop (m + 1)).reverse.length = list.length - (m + 1) := by simp
      go_wp2_with (at_builtin; refine wpList_app _ rfl _ _ 28 rfl 3 (.int .i64 0) 1 8 Tryz.underlying28 Tryz.infoInt rfl (by decide) (.slice ao (list.length - (m + 1)) cap) (list.length - (m + 1)) ((list.drop (m + 1)).reverse.flatMap i64Cells) rfl ?own ⟨wr.heap.size, 0, none⟩ 1 1 (i64Cells x) rfl rfl ?c1 ?c2 ?c3 ?c4 ?_)
      case own => have := HN.out.own; rw [hlr] at this; exact own_kept (bs := []) this ((Only.refl _ wr).alloc _) (fun q _ => by simp)
      case c1 => exact cells_new wr 3 (i64Cells x)
      case c2 => intro u hu; simp [i64Cells] at hu; subst hu; rfl
      case c3 => unfold maxLen; omega
      case c4 => omega
      intro ao5 cap5 w5 hown5 ho5 hk5
      have hbw := HBL.out.alloc hz (.cells #[.int .i64 x] 3)
      have hbl5 : Below w0.heap.size w0 w5 := hbw.trans (ho5.below hbw.size (fun q hq => HN.out.new q (by simpa using hq)))
      have hn5 : Nats w0.heap.size w5 (.slice ao5 (list.length - (m + 1) + 1) cap5) (list.drop m).reverse := by
        have h1 := HN.out.below ((Below.refl wr.heap.size wr).alloc (Nat.le_refl _) (.cells #[.int .i64 x] 3))
        have h2 := h1.app [x] (m := 1) rfl (ao := ao5) (cap := cap5) (w5 := w5) (by rw [hlr]; simpa using hown5) (by rw [hlr]; simpa using hk5) (by simp; omega)
        rw [hlr] at h2
        rw [List.drop_eq_getElem_cons (i := m) (by omega)]
        have h3 : list[m] = x := by have := HXX.out; rw [List.getElem?_eq_getElem (by omega)] at this; simpa using this
        rw [h3, List.reverse_cons]
        exact h2
      have e2 : list.length - (m + 1) + 1 = list.length - m := by omega
      rw [e2] at hn5 ⊢
      have N5 := Lib.hid hn5
      have B5 := Lib.hid hbl5
      clear hown5 ho5 hk5 hn5 hbl5 hbw hlr e2
      go_wp2_with fail
      rw [← EA.out]
      go_roundg m
      case measure => rw [HG.out]; omega
      case rel => exact ⟨m, ao5, cap5, by go_num, by omega, rfl, rfl, N5.out, B5.out⟩
    | zero =>
      have hnn : Nats w0.heap.size wr (.slice ao list.length cap) list.reverse := by have := HN.out; rwa [List.drop_zero, Nat.sub_zero] at this
      obtain ⟨wq, rfl⟩ : ∃ wq : World, wq = wr := ⟨_, rfl⟩
      rw [Nat.sub_zero, show (((0 : Nat) : Int) - 1) = -1 from rfl]
      have I0 : Hid (LayI h list w0 wq list [] (.slice none 0 0) (.slice ao list.length cap)) := Lib.hid ⟨Nats.nil _ _, hnn, by simp [Value.ownBlock], StackOk.start HC.out list HL.out _ (Nat.le_refl _), rfl, Nat.zero_le _, HBL.out⟩
      clear hnn HN HBL hz hj HG
      go_wp2_with fail
      go_loopg [6, 7] (stackSize h list) (fun g vo vs wr => ∃ (S out : List Nat) (ao1 : Option Addr) (c1 : Nat) (ao2 : Option Addr) (c2 : Nat), vo = .slice ao1 out.length c1 ∧ vs = .slice ao2 S.length c2 ∧ g = stackSize h S ∧ LayI h list w0 wr S out (.slice ao1 out.length c1) (.slice ao2 S.length c2))
      case atStart => exact ⟨list, [], none, 0, ao, cap, rfl, rfl, rfl, I0.out⟩
      case round =>
        obtain ⟨S, out, ao1, c1, ao2, c2, rfl, rfl, hg, hI⟩ := hrel
        obtain ⟨wp, rfl⟩ : ∃ wp : World, wp = wr := ⟨_, rfl⟩
        have HG := Lib.hid hg
        have I := Lib.hid hI
        have hz := hI.b.size
        have ho17 := hI.small
        have hS17 : S.length ≤ 1114112 := by have := hI.ok.len; omega
        clear hg hI I0
        cases S with
        | nil =>
          go_wp2_with fail
          go_returns
          have heq := I.out.eq
          have hs : (stackOut h list) = out := by rw [← heq]; simp [stackOut]
          have hr : layRes h list = (out, .nil) := by unfold layRes; rw [hs, if_pos ho17]
          rw [hr]
          exact ⟨ao1, c1, .nilIface, rfl, rfl, I.out.o.mono HB.out.size, HB.out.trans (I.out.b.mono HB.out.size)⟩
        | cons i S =>
          obtain ⟨hi, hBi, hok⟩ := I.out.ok
          obtain ⟨g, cap2, e, hgB, hgs, hcell⟩ := I.out.st.block (by simp)
          simp only [List.length_reverse, Value.slice.injEq] at e
          obtain ⟨rfl, -, rfl⟩ := e
          have e0 : wp.cell? ⟨g, S.length, none⟩ = some (.int .i64 i) := hcell S.length i (by simp)
          have hi2 : i < h.up.length + h.dn.length := hi
          have hx1 := HX.out.below I.out.b HX.out.lt
          obtain ⟨k0, k1, k2, k3, k4⟩ := hier_five hx1
          have OK := Lib.hid hok
          have HI := Lib.hid hi
          simp only [List.length_cons] at hS17 ⊢
          have ht : Nats w0.heap.size wp (.slice (some ⟨g, 0, none⟩) S.length c2) S.reverse := by
            have := I.out.st.take (m := S.length) (by simp)
            rwa [List.reverse_cons, List.take_left' (by simp)] at this
          have HTK := Lib.hid ht
          have hc2 : S.length + 1 ≤ c2 := by have := I.out.st.cap.1; simpa using this
          clear hcell hok hi hx1 hBi ht
          go_wp2_with fail
          refine (ulink_any A h i _ ?_ hi2 hd63).mono ?_
          · exact SEE.out.below I.out.b
          rintro e w1 ⟨rfl, hb1⟩
          have hok : (linkAt h i).ok := linkAt_ok SEE.out i hi2
          have hleft := left_plain HC.out HT.out HI.out
          obtain ⟨x, hx⟩ : ∃ x, linkAt h i = x := ⟨_, rfl⟩
          rw [hx] at hok hleft
          obtain ⟨hx1, hx2, hx3, hx4⟩ := hok
          rw [hx]
          unfold linkVal
          have HXI := Lib.hid hx
          have HLF := Lib.hid hleft
          have HB1 := Lib.hid (I.out.b.trans (hb1.mono I.out.b.size))
          have HT1 := Lib.hid (HTK.out.below hb1)
          have HO1 := Lib.hid (I.out.o.below hb1)
          have hz1 := HB1.out.size
          have hgs1 : g < w1.heap.size := Nat.lt_of_lt_of_le hgs hb1.size
          clear hb1 hx hleft k0 k1 k2 k3 k4 e0 HTK
          have hco : ∀ k, (Value.slice ao1 out.length c1).ownBlock = some k → k ≠ g := fun k hk e => I.out.apart k hk (by rw [e]; rfl)
          have HCO := Lib.hid hco
          clear hco
          by_cases hp : x.plain = true
          · have hl : x.left = 4294967295 := HLF.out.2 hp
            have dl : ((x.left : Int) != 4294967295) = false := by rw [hl]; rfl
            have hcnt := stack_plain (h := h) (l := S) (by rw [HXI.out]; exact hp)
            have HP := Lib.hid hcnt
            have HPP := Lib.hid hp
            clear hcnt hp hl
            by_cases h17 : out.length = 131072
            · have dq : ((out.length : Int) == 131072) = true := by rw [h17]; rfl
              have hr : layRes h list = ([], .code 2) := by
                unfold layRes
                rw [if_neg]
                rw [← I.out.eq, HP.out.1, List.length_append, List.length_cons]
                omega
              have HR := Lib.hid hr
              clear h17 hr
              go_wp2
              go_returns
              rw [HR.out]
              exact ⟨none, 0, _, rfl, rfl, Nats.nil _ _, HB.out.trans ((HB1.out.mono HB.out.size).alloc (by have := HB.out.size; omega) _)⟩
            · have dq : ((out.length : Int) == 131072) = false := by simp; omega
              go_wp2_with (at_builtin; refine wpList_app _ rfl _ _ 28 rfl 3 (.int .i64 0) 1 8 Tryz.underlying28 Tryz.infoInt rfl (by decide) (.slice ao1 out.length c1) out.length (out.flatMap i64Cells) rfl ?own ⟨w1.heap.size + 1, 0, none⟩ 1 1 (i64Cells i) rfl rfl ?c1 ?c2 ?c3 ?c4 ?_)
              case own => exact own_kept (bs := []) HO1.out.own (((Only.refl _ w1).alloc _).alloc _) (fun q _ => by simp)
              case c1 =>
                have := cells_new (w1.alloc (.cells #[.int .u32 x.to, .int .u64 x.wt, .int .u32 x.left, .int .u32 x.right] 65)) 3 (i64Cells i)
                rwa [World.size_alloc] at this
              case c2 => intro u hu; simp [i64Cells] at hu; subst hu; rfl
              case c3 => unfold maxLen; omega
              case c4 => omega
              intro ao5 cap5 w5 hown5 ho5 hk5
              have hbw := (HB1.out.alloc hz1 (.cells #[.int .u32 x.to, .int .u64 x.wt, .int .u32 x.left, .int .u32 x.right] 65)).alloc (by simp; omega) (.cells #[.int .i64 i] 3)
              have hba := (((Below.refl w1.heap.size w1).alloc (Nat.le_refl _) (.cells #[.int .u32 x.to, .int .u64 x.wt, .int .u32 x.left, .int .u32 x.right] 65)).alloc (by simp) (.cells #[.int .i64 i] 3))
              have hn5 := (HO1.out.below hba).app [i] (m := 1) rfl (ao := ao5) (cap := cap5) (w5 := w5) (by simpa using hown5) (by simpa using hk5) (by simp; omega)
              have hs5 := (HT1.out.below hba).kept ho5 (fun k hk hm => by
                simp only [Value.ownBlock, Option.some.injEq] at hk
                exact HCO.out k (own_mem hm) hk.symm)
              have hap : ∀ k, (Value.slice ao5 (out.length + 1) cap5).ownBlock = some k → (Value.slice (some ⟨g, 0, none⟩) S.length c2).ownBlock = some k → False := by
                intro k h1 h2
                simp only [Value.ownBlock, Option.some.injEq] at h2
                rcases hk5 k h1 with h3 | h3
                · exact HCO.out k h3 h2.symm
                · omega
              have hbl5 : Below w0.heap.size w0 w5 := hbw.trans (ho5.below hbw.size (fun q hq => HO1.out.new q (by simpa using hq)))
              have hI5 : LayI h list w0 w5 S (out ++ [i]) (.slice ao5 (out ++ [i]).length cap5) (.slice (some ⟨g, 0, none⟩) S.length c2) :=
                ⟨by simpa using hn5, hs5, by simpa using hap, OK.out, by have := I.out.eq; rw [HP.out.1] at this; rw [← this]; simp, by simp; omega, hbl5⟩
              have I5 := Lib.hid hI5
              clear hown5 ho5 hk5 hbw hba hn5 hs5 hap hbl5 hI5
              go_wp2_with fail
              go_roundg (stackSize h S)
              case measure => rw [HG.out, HP.out.2]; omega
              case rel => exact ⟨S, out ++ [i], ao5, cap5, _, c2, by simp, rfl, rfl, I5.out⟩
          · have hp' : x.plain = false := by simpa using hp
            have hl : x.left ≠ 4294967295 := fun e => hp (HLF.out.1 e)
            have dl : ((x.left : Int) != 4294967295) = true := by simp; omega
            have HP := Lib.hid (stack_two HC.out (l := S) HI.out (by rw [HXI.out]; exact hp'))
            have HSO := Lib.hid (StackOk.push HC.out I.out.ok (by rw [HXI.out]; exact hp'))
            rw [HXI.out] at HP HSO
            clear hp hp' hl
            go_wp2_with (at_builtin; refine wpList_app _ rfl _ _ 28 rfl 3 (.int .i64 0) 1 8 Tryz.underlying28 Tryz.infoInt rfl (by decide) (.slice (some ⟨g, 0, none⟩) S.length c2) S.length (S.reverse.flatMap i64Cells) rfl ?own ⟨w1.heap.size + 1, 0, none⟩ 2 2 (i64Cells x.right ++ i64Cells x.left) rfl rfl ?c1 ?c2 ?c3 ?c4 ?_)
            case own =>
              have := HT1.out.own
              rw [List.length_reverse] at this
              exact own_kept (bs := []) this (((Only.refl _ w1).alloc _).alloc _) (fun q _ => by simp)
            case c1 =>
              have := cells_new (w1.alloc (.cells #[.int .u32 x.to, .int .u64 x.wt, .int .u32 x.left, .int .u32 x.right] 65)) 3 (i64Cells x.right ++ i64Cells x.left)
              rwa [World.size_alloc] at this
            case c2 => intro u hu; simp [i64Cells] at hu; rcases hu with rfl | rfl <;> rfl
            case c3 => unfold maxLen; omega
            case c4 => omega
            intro ao5 cap5 w5 hown5 ho5 hk5
            have hbw := (HB1.out.alloc hz1 (.cells #[.int .u32 x.to, .int .u64 x.wt, .int .u32 x.left, .int .u32 x.right] 65)).alloc (by simp; omega) (.cells #[.int .i64 x.right, .int .i64 x.left] 3)
            have hba := (((Below.refl w1.heap.size w1).alloc (Nat.le_refl _) (.cells #[.int .u32 x.to, .int .u64 x.wt, .int .u32 x.left, .int .u32 x.right] 65)).alloc (by simp) (.cells #[.int .i64 x.right, .int .i64 x.left] 3))
            have hn5 := (HT1.out.below hba).app [x.right, x.left] (m := 2) rfl (ao := ao5) (cap := cap5) (w5 := w5) (by simpa [i64Cells] using hown5) (by simpa using hk5) (by simp; omega)
            have hs5 := (HO1.out.below hba).kept ho5 (fun k hk hm => by
              simp only [Value.ownBlock, Option.toList_some, List.mem_singleton] at hm
              exact HCO.out k hk hm)
            have hap : ∀ k, (Value.slice ao1 out.length c1).ownBlock = some k → (Value.slice ao5 (S.length + 2) cap5).ownBlock = some k → False := by
              intro k h1 h2
              rcases hk5 k h2 with h3 | h3
              · simp only [Value.ownBlock, Option.some.injEq] at h3
                exact HCO.out k h1 h3.symm
              · have := HO1.out.own.lt k h1
                omega
            have hbl5 : Below w0.heap.size w0 w5 := hbw.trans (ho5.below hbw.size (fun q hq => HT1.out.new q (by simpa using hq)))
            have hI5 : LayI h list w0 w5 (x.left :: x.right :: S) out (.slice ao1 out.length c1) (.slice ao5 (x.left :: x.right :: S).length cap5) :=
              ⟨hs5, by simpa using hn5, by simpa using hap, HSO.out, by rw [HP.out.1]; exact I.out.eq, ho17, hbl5⟩
            have I5 := Lib.hid hI5
            clear hown5 ho5 hk5 hbw hba hn5 hs5 hap hbl5 hI5
            go_wp2_with fail
            go_roundg (stackSize h (x.left :: x.right :: S))
            case measure => rw [HG.out]; exact HP.out.2
            case rel => exact ⟨x.left :: x.right :: S, out, ao1, c1, ao5, cap5, rfl, by simp, rfl, I5.out⟩
def NatsNew (l : List Nat) (w : World) (e : Ending) (w' : World) : Prop := ∃ ao cap, e = .returned (.slice ao l.length cap) ∧ Nats w.heap.size w' (.slice ao l.length cap) l ∧ Below w.heap.size w w'
def headsTo (h : HierD) : Nat → List Nat
  | 0 => []
  | 1 => (List.range h.node.length).flatMap (repR h.upF)
  | _ => ranksL h
structure HeadR (h : HierD) (w : World) (k : Nat) (P F : List Nat) (m : Nat) (aF : Option Addr) (cF : Nat) : Prop where
  f : FirstsOk h.node.length F m
  see : See w aF cF u32Cells 1 F
  p : headsTo h k = P
  p' : headsTo h (k + 1) = P ++ (List.range h.node.length).flatMap (repR F)
  len : P.length + m ≤ 1048576
theorem headR {A : HA} {h : HierD} {w : World} (see : HSee w A h) (u : FirstsOk h.node.length h.upF h.up.length) (d : FirstsOk h.node.length h.dnF h.dn.length) (htot : h.up.length + h.dn.length ≤ 1048576) :
    HeadR h w 0 [] h.upF h.up.length A.a1 A.c1 ∧ HeadR h w 1 ((List.range h.node.length).flatMap (repR h.upF)) h.dnF h.dn.length A.a3 A.c3 :=
  ⟨⟨u, see.upF, rfl, rfl, by simp; omega⟩, ⟨d, see.dnF, rfl, ranksL_eq u d, by rw [reps_length u _ (Nat.le_refl _), u.last]; exact htot⟩⟩
set_option maxRecDepth 100000 in
set_option maxHeartbeats 4000000 in
theorem heads_any (A : HA) (h : HierD) (w : World) (see : HSee w A h) (u : FirstsOk h.node.length h.upF h.up.length) (d : FirstsOk h.node.length h.dnF h.dn.length) (hn : h.node.length ≤ 65536) (htot : h.up.length + h.dn.length ≤ 1048576) :
    Calls Tryz.prog 43 #[hierVal A h] w (NatsNew (ranksL h) w) := by
  obtain ⟨w0, hw0⟩ : ∃ w0 : World, (w.alloc (.cells (hierCells A h).toArray 25)).alloc (.cells #[.slice A.a1 h.upF.length A.c1, .slice A.a3 h.dnF.length A.c3] 22) = w0 := ⟨_, rfl⟩
  have hB0 : Below w.heap.size w w0 := by rw [← hw0]; exact ((Below.refl _ _).alloc (Nat.le_refl _) _).alloc (by simp) _
  have hx0 : Cells w0 w.heap.size 25 (hierCells A h) := by rw [← hw0]; exact (Cells.new w _ _).alloc _
  have hy0 : Cells w0 (w.heap.size + 1) 22 [.slice A.a1 h.upF.length A.c1, .slice A.a3 h.dnF.length A.c3] := by rw [← hw0]; exact cells_at (by simp) _ _
  obtain ⟨r0, r1⟩ := headR (see.below hB0) u d htot
  have R0 := Lib.hid r0
  have R1 := Lib.hid r1
  have HX := Lib.hid hx0
  have HY := Lib.hid hy0
  have HB := Lib.hid hB0
  have HW0 := Lib.hid hw0
  have hul : h.upF.length ≤ 65537 := by have := u.len; omega
  have hdl : h.dnF.length ≤ 65537 := by have := d.len; omega
  clear see u d htot hB0 hx0 hy0 hw0 r0 r1
  unfold hierVal
  go_enter Tryz.func43, Tryz.ntmps43
  go_wp2_with fail
  rw [show ((w.alloc (.cells #[.slice A.a0 h.node.length A.c0, .slice A.a1 h.upF.length A.c1, .slice A.a2 h.up.length A.c2, .slice A.a3 h.dnF.length A.c3, .slice A.a4 h.dn.length A.c4] 25)).alloc (.cells #[.slice A.a1 h.upF.length A.c1, .slice A.a3 h.dnF.length A.c3] 22)) = w0 from HW0.out]
  go_loopg [3, 13] 2 (fun g vl vi wr => ∃ (k : Nat) (ao : Option Addr) (cap : Nat), vi = .int .i64 k ∧ k ≤ 2 ∧ g = 2 - k ∧ vl = .slice ao (headsTo h k).length cap ∧ Nats w0.heap.size wr (.slice ao (headsTo h k).length cap) (headsTo h k) ∧ Below w0.heap.size w0 wr)
  case atStart => exact ⟨0, none, 0, rfl, by omega, rfl, rfl, Nats.nil _ _, Below.refl _ _⟩
  case round =>
    obtain ⟨k, ao, cap, rfl, hk, hg, rfl, hnat, hbl⟩ := hrel
    have HG := Lib.hid hg
    have HN := Lib.hid hnat
    have HBL := Lib.hid hbl
    clear hg hnat hbl
    by_cases hk2 : k < 2
    · obtain ⟨P, F, m, aF, cF, hR, hFl, hcell⟩ : ∃ (P F : List Nat) (m : Nat) (aF : Option Addr) (cF : Nat), HeadR h w0 k P F m aF cF ∧ F.length ≤ 65537 ∧ w0.cell? ⟨w.heap.size + 1, k, none⟩ = some (.slice aF F.length cF) := by
        rcases (by omega : k = 0 ∨ k = 1) with rfl | rfl
        · exact ⟨_, _, _, _, _, R0.out, hul, HY.out.cell rfl⟩
        · exact ⟨_, _, _, _, _, R1.out, hdl, HY.out.cell rfl⟩
      have hFlen := hR.f.len
      obtain ⟨b1, o1, rfl, lb1, cc1⟩ := see_one (f := fun (n : Nat) => Value.int .u32 n) hR.see (by omega)
      have R := Lib.hid hR
      have CC := Lib.hid cc1
      have FL := Lib.hid hFlen
      have hcell1 := ck HBL.out hcell
      obtain ⟨k0, -, -, -, -⟩ := hier_five (HX.out.below HBL.out HX.out.lt)
      have N1 : Hid (Nats w0.heap.size wr (.slice ao P.length cap) P) := Lib.hid (by have := HN.out; rw [R.out.p] at this; exact this)
      have d2 : decide ((k : Int) < 2) = true := by simp; omega
      have hPl : P.length ≤ 1048576 := by have := R.out.len; omega
      rw [R.out.p]
      clear HN hR hcell cc1 hFlen
      go_wp2_with fail
      obtain ⟨wo, rfl⟩ : ∃ wo : World, wo = wr := ⟨_, rfl⟩
      go_loopg [3, 20] h.node.length (fun g vl vi wr => ∃ (r : Nat) (ao : Option Addr) (cap : Nat), vi = .int .i64 r ∧ r ≤ h.node.length ∧ g = h.node.length - r ∧ vl = .slice ao (P.length + F.getD r 0) cap ∧
        Nats w0.heap.size wr (.slice ao (P.length + F.getD r 0) cap) (P ++ (List.range r).flatMap (repR F)) ∧ Below w0.heap.size w0 wr)
      case atStart => exact ⟨0, ao, cap, rfl, Nat.zero_le _, rfl, by rw [R.out.f.zero]; rfl, by rw [R.out.f.zero]; simpa using N1.out, HBL.out⟩
      case round =>
        obtain ⟨r, ao1, cap1, rfl, hr, hgr, rfl, hnat, hbl⟩ := hrel
        have HGR := Lib.hid hgr
        have HNR := Lib.hid hnat
        have HBR := Lib.hid hbl
        clear hgr hnat hbl
        by_cases hrn : r < h.node.length
        · have hFlen := FL.out
          obtain ⟨lo, hlo⟩ : ∃ lo, F[r]? = some lo := ⟨_, List.getElem?_eq_getElem (by omega)⟩
          obtain ⟨hi, hhi⟩ : ∃ hi, F[r + 1]? = some hi := ⟨_, List.getElem?_eq_getElem (by omega)⟩
          have glo : F.getD r 0 = lo := by rw [List.getD_eq_getElem?_getD, hlo]; rfl
          have ghi : F.getD (r + 1) 0 = hi := by rw [List.getD_eq_getElem?_getD, hhi]; rfl
          have hlh : lo ≤ hi := by rw [← glo, ← ghi]; exact R.out.f.mono r hrn
          have hhl : hi ≤ m := by rw [← ghi]; exact R.out.f.le (r + 1) (by omega)
          have hPm : P.length + hi ≤ 1048576 := by have := R.out.len; omega
          have cl := ck HBR.out (CC.out r lo hlo)
          have ch := ck HBR.out (CC.out (r + 1) hi hhi)
          have hil : r < F.length := by omega
          have hil1 : r + 1 < F.length := by omega
          have GLO := Lib.hid glo
          have GHI := Lib.hid ghi
          have d3 : decide ((r : Int) < (h.node.length : Int)) = true := by simp; omega
          rw [glo]
          clear hlo hhi glo ghi hFlen
          have hsub : IntKind.u32.wrap ((hi : Int) - (lo : Int)) = ((hi - lo : Nat) : Int) := by rw [IntWalk.u32_in _ (by omega)]; omega
          go_wp2_with fail
          go_quiet (fail)
          go_wp2_with fail
          obtain ⟨wz, hwz⟩ : ∃ wz : World, wr.drewN nq = wz := ⟨_, rfl⟩
          rw [hwz]
          have BZ : Hid (Below w0.heap.size w0 wz) := by rw [← hwz]; exact below_drewN HBR.out _
          have NZ : Hid (Nats w0.heap.size wz (.slice ao1 (P.length + lo) cap1) (P ++ (List.range r).flatMap (repR F))) := by
            have := HNR.out
            rw [GLO.out] at this
            rw [← hwz]
            exact ⟨own_drewN this.own _, this.new⟩
          clear hwz HBR HNR cl ch
          go_loopg [3, 33] (hi - lo) (fun g vl vi wr2 => ∃ (j : Nat) (ao2 : Option Addr) (cap2 : Nat), vi = .int .u32 (j : Nat) ∧ j ≤ hi - lo ∧ g = hi - lo - j ∧ vl = .slice ao2 (P.length + lo + j) cap2 ∧
            Nats w0.heap.size wr2 (.slice ao2 (P.length + lo + j) cap2) (P ++ (List.range r).flatMap (repR F) ++ List.replicate j r) ∧ Below w0.heap.size w0 wr2)
          case atStart => exact ⟨0, ao1, cap1, rfl, Nat.zero_le _, rfl, rfl, by simpa using NZ.out, BZ.out⟩
          case round =>
            obtain ⟨j, ao2, cap2, rfl, hj, hgj, rfl, hnat, hbl⟩ := hrel
            have HGJ := Lib.hid hgj
            have HNJ := Lib.hid hnat
            have HBJ := Lib.hid hbl
            have hzj := hbl.size
            have hLn : (P ++ (List.range r).flatMap (repR F) ++ List.replicate j r).length = P.length + lo + j := hnat.see.2.symm
            have HLN := Lib.hid hLn
            clear hgj hnat hbl hLn
            by_cases hjl : j < hi - lo
            · have d4 : decide ((j : Int) < ((hi - lo : Nat) : Int)) = true := by simp; omega
              have hpl : P.length + lo + j ≤ 1048576 := by omega
              go_wp2_with (at_builtin; refine wpList_app _ rfl _ _ 28 rfl 3 (.int .i64 0) 1 8 Tryz.underlying28 Tryz.infoInt rfl (by decide) (.slice ao2 (P.length + lo + j) cap2) (P.length + lo + j) ((P ++ (List.range r).flatMap (repR F) ++ List.replicate j r).flatMap i64Cells) rfl ?own ⟨wr.heap.size, 0, none⟩ 1 1 (i64Cells r) rfl rfl ?c1 ?c2 ?c3 ?c4 ?_)
              case own => have := HNJ.out.own; rw [HLN.out] at this; exact own_kept (bs := []) this ((Only.refl _ wr).alloc _) (fun q _ => by simp)
              case c1 => exact cells_new wr 3 (i64Cells r)
              case c2 => intro u hu; simp [i64Cells] at hu; subst hu; rfl
              case c3 => unfold maxLen; omega
              case c4 => omega
              intro ao5 cap5 w5 hown5 ho5 hk5
              have hbw := HBJ.out.alloc hzj (.cells #[.int .i64 r] 3)
              have hbl5 : Below w0.heap.size w0 w5 := hbw.trans (ho5.below hbw.size (fun q hq => HNJ.out.new q (own_mem hq)))
              have hn5 : Nats w0.heap.size w5 (.slice ao5 (P.length + lo + j + 1) cap5) (P ++ (List.range r).flatMap (repR F) ++ List.replicate (j + 1) r) := by
                have h1 := HNJ.out.below ((Below.refl wr.heap.size wr).alloc (Nat.le_refl _) (.cells #[.int .i64 r] 3))
                have h2 := h1.app [r] (m := 1) rfl (ao := ao5) (cap := cap5) (w5 := w5) (by rw [HLN.out]; simpa using hown5) (by rw [HLN.out]; simpa using hk5) (by simp; omega)
                rw [HLN.out] at h2
                rw [List.replicate_succ', ← List.append_assoc]
                exact h2
              have N5 := Lib.hid hn5
              have B5 := Lib.hid hbl5
              clear hown5 ho5 hk5 hn5 hbl5 hbw
              go_wp2_with fail
              go_roundg (hi - lo - (j + 1))
              case measure => rw [HGJ.out]; omega
              case rel => exact ⟨j + 1, ao5, cap5, by go_num, by omega, rfl, rfl, N5.out, B5.out⟩
            · have d4 : decide ((j : Int) < ((hi - lo : Nat) : Int)) = false := by simp; omega
              obtain rfl : j = hi - lo := by omega
              go_wp2_with fail
              go_roundg (h.node.length - (r + 1))
              case measure => rw [HGR.out]; omega
              case rel =>
                have e1 : P.length + lo + (hi - lo) = P.length + F.getD (r + 1) 0 := by rw [GHI.out]; omega
                have e2 := rep_step P F r
                rw [GLO.out, GHI.out] at e2
                have h1 := HNJ.out
                rw [e1, ← e2] at h1
                exact ⟨r + 1, ao2, cap2, by go_num, by omega, rfl, by rw [e1], h1, HBJ.out⟩
        · obtain rfl : r = h.node.length := by omega
          have d3 : decide ((h.node.length : Int) < (h.node.length : Int)) = false := by simp
          go_wp2_with fail
          go_roundg (2 - (k + 1))
          case measure => rw [HG.out]; omega
          case rel =>
            have e1 : P.length + F.getD h.node.length 0 = (headsTo h (k + 1)).length := by rw [R.out.p', List.length_append, reps_length R.out.f _ (Nat.le_refl _)]
            have h1 := HNR.out
            rw [← R.out.p', e1] at h1
            exact ⟨k + 1, ao1, cap1, by go_num, by omega, rfl, by rw [e1], h1, HBR.out⟩
    · obtain rfl : k = 2 := by omega
      go_wp2
      go_returns
      exact ⟨ao, cap, rfl, HN.out.mono HB.out.size, HB.out.trans (HBL.out.mono HB.out.size)⟩
end Go.Proofs.YtchhbgckonpedaaGreatDoor
