/- The contract of unpack's nodes. -/
import Derived.Test.YtchhbgckonpedaaGreatDoorG20
import Derived.Test.YtchhbgckonpedaaGreatDoorG1
import Derived.Maps.OwnOps
namespace Go.Proofs.YtchhbgckonpedaaGreatDoor
open Go.ChangeShapes Go.WideShapes Go.ChangeAt Go.RowKit Go.Joins Go.Deep
def nodeAt (h : HierD) (r : Nat) : Nat := h.node.getD r 0
def nodesL (h : HierD) : List Nat → List Nat
  | [] => []
  | x :: l => nodeAt h (endAt h x).tail :: (x :: l).map fun y => nodeAt h (endAt h y).head
theorem nodesL_step {h : HierD} {links : List Nat} {k x : Nat} (hx : links[k]? = some x) :
    nodesL h (links.take (k + 1)) = (if nodesL h (links.take k) = [] then [nodeAt h (endAt h x).tail] else nodesL h (links.take k)) ++ [nodeAt h (endAt h x).head] := by
  rw [List.take_add_one, hx, Option.toList_some]
  cases links.take k with
  | nil => rfl
  | cons a l => simp [nodesL]
theorem nodesL_len {h : HierD} (l : List Nat) : (nodesL h l).length ≤ l.length + 1 := by
  cases l <;> simp [nodesL]
theorem end_cases {h : HierD} (hc : checkErr h = .nil) {x : Nat} (hx : x < cntOf h) :
    ((decide (h.up.length ≤ x) = false ∧ (endAt h x).rank = (endAt h x).tail ∧ (linkAt h x).to = (endAt h x).head) ∨
     (decide (h.up.length ≤ x) = true ∧ (endAt h x).rank = (endAt h x).head ∧ (linkAt h x).to = (endAt h x).tail)) ∧ (endAt h x).tail < h.node.length ∧ (endAt h x).head < h.node.length := by
  have he := endAt_link hc hx
  obtain ⟨f, -, -, -, hg⟩ := checkErr_parts hc
  have hn := cnt_ends hc
  have mi : endAt h x ∈ endsOf h := by
    unfold endAt
    rw [List.getD_eq_getElem?_getD, List.getElem?_eq_getElem (by omega), Option.getD_some]
    exact List.getElem_mem _
  have hf := end_facts hg _ mi
  by_cases hu : x < h.up.length
  · obtain ⟨h1, h2⟩ := endAt_up hc hu
    exact ⟨.inl ⟨by simp; omega, h1.symm, by rw [← he, h2]⟩, by rw [h1]; omega, by rw [h2]; omega⟩
  · obtain ⟨h1, h2⟩ := endAt_dn hc (by omega) hx
    exact ⟨.inr ⟨by simp; omega, h2.symm, by rw [← he, h1]⟩, by rw [h1]; omega, by rw [h2]; omega⟩
theorem ulink_lit (A : HA) (h : HierD) (i : Nat) (w : World) (see : HSee w A h) (hi : i < h.up.length + h.dn.length) (hd63 : h.dn.length ≤ 1048576) :
    Calls Tryz.prog 61 #[.agg #[.slice A.a0 h.node.length A.c0, .slice A.a1 h.upF.length A.c1, .slice A.a2 h.up.length A.c2, .slice A.a3 h.dnF.length A.c3, .slice A.a4 h.dn.length A.c4], .int .i64 i] w (LinkIs (linkAt h i) w) := ulink_any A h i w see hi hd63
set_option maxRecDepth 100000 in
set_option maxHeartbeats 8000000 in
theorem unodes_any (A : HA) (h : HierD) (aa la : Option Addr) (ca lc : Nat) (links : List Nat) (w : World) (see : HSee w A h) (hc : checkErr h = .nil) (htot : cntOf h ≤ 1048576) (sa : See w aa ca i64Cells 1 (ranksL h)) (sl : See w la lc i64Cells 1 links)
    (hl : ∀ x ∈ links, x < cntOf h) (hlen : links.length ≤ 131072) :
    Calls Tryz.prog 42 #[hierVal A h, .slice aa (ranksL h).length ca, .slice la links.length lc] w (NatsNew (nodesL h links) w) := by
  have HC := Lib.hid hc
  have HL := Lib.hid hl
  have hd63 : h.dn.length ≤ 1048576 := by unfold cntOf at htot; omega
  have hu63 : h.up.length ≤ 1048576 := by unfold cntOf at htot; omega
  have hn := (checkErr_parts hc).1.n
  have hrl : (ranksL h).length = cntOf h := by unfold ranksL; rw [List.length_map, cnt_ends hc]
  obtain ⟨w0, hw0⟩ : ∃ w0 : World, w.alloc (.cells (hierCells A h).toArray 25) = w0 := ⟨_, rfl⟩
  have hB0 : Below w.heap.size w w0 := by rw [← hw0]; exact (Below.refl _ _).alloc (Nat.le_refl _) _
  have hx0 : Cells w0 w.heap.size 25 (hierCells A h) := by rw [← hw0]; exact Cells.new w _ _
  have SEE := Lib.hid (see.below hB0)
  have SA := Lib.hid (sa.below hB0)
  have SL := Lib.hid (sl.below hB0)
  have HX := Lib.hid hx0
  have HB := Lib.hid hB0
  have HW0 := Lib.hid hw0
  have HRL := Lib.hid hrl
  have HT := Lib.hid htot
  clear see sa sl hl hc hB0 hx0 hw0 hrl htot
  unfold hierVal
  go_enter Tryz.func42, Tryz.ntmps42
  go_wp2_with fail
  rw [show w.alloc (.cells #[.slice A.a0 h.node.length A.c0, .slice A.a1 h.upF.length A.c1, .slice A.a2 h.up.length A.c2, .slice A.a3 h.dnF.length A.c3, .slice A.a4 h.dn.length A.c4] 25) = w0 from HW0.out]
  go_loopg [7, 14] links.length (fun g vl vi wr => ∃ (k : Nat) (L : List Nat) (ao : Option Addr) (cap : Nat), vi = .int .i64 k ∧ k ≤ links.length ∧ g = links.length - k ∧ L = nodesL h (links.take k) ∧ vl = .slice ao L.length cap ∧
    Nats w0.heap.size wr (.slice ao L.length cap) L ∧ Below w0.heap.size w0 wr)
  case atStart => exact ⟨0, [], none, 0, rfl, Nat.zero_le _, rfl, rfl, rfl, Nats.nil _ _, Below.refl _ _⟩
  case round =>
    obtain ⟨k, L, ao, cap, rfl, hk, hg, hL, rfl, hnat, hbl⟩ := hrel
    have hLl : L.length ≤ 131073 := by
      have := nodesL_len (h := h) (links.take k)
      rw [hL]
      simp at this
      omega
    have HG := Lib.hid hg
    have HLL := Lib.hid hL
    have HN := Lib.hid hnat
    have HBL := Lib.hid hbl
    clear hg hL hnat hbl
    by_cases hkl : k < links.length
    · obtain ⟨x, hx⟩ : ∃ x, links[k]? = some x := ⟨_, List.getElem?_eq_getElem hkl⟩
      have hxl : x < cntOf h := HL.out x (List.mem_of_getElem? hx)
      have hx2 : x < h.up.length + h.dn.length := hxl
      have hx3 : x < (ranksL h).length := by rw [HRL.out]; exact hxl
      obtain ⟨hcase, htn, hhn⟩ := end_cases HC.out hxl
      have hstep := nodesL_step (h := h) hx
      have hrk : (ranksL h)[x]? = some (endAt h x).rank := ranks_get x (by rw [cnt_ends HC.out]; exact hxl)
      have hok : (linkAt h x).ok := linkAt_ok SEE.out x hx2
      obtain ⟨t, ht⟩ : ∃ t, (endAt h x).tail = t := ⟨_, rfl⟩
      obtain ⟨hd, hh⟩ : ∃ hd, (endAt h x).head = hd := ⟨_, rfl⟩
      obtain ⟨rk, hrk2⟩ : ∃ rk, (endAt h x).rank = rk := ⟨_, rfl⟩
      obtain ⟨lk, hlk⟩ : ∃ lk, linkAt h x = lk := ⟨_, rfl⟩
      rw [ht, hh] at hstep
      rw [ht, hh, hrk2, hlk] at hcase
      rw [ht] at htn
      rw [hh] at hhn
      rw [hrk2] at hrk
      rw [hlk] at hok
      rw [← HLL.out] at hstep
      obtain ⟨b, o, ea, cc⟩ := SL.out.cell k x hx
      have e0 := ck HBL.out (cc 0 _ rfl)
      rw [Nat.mul_one, Nat.add_zero] at e0
      obtain ⟨b2, o2, ea2, cc2⟩ := SA.out.cell x rk hrk
      have f0 := ck HBL.out (cc2 0 _ rfl)
      rw [Nat.mul_one, Nat.add_zero] at f0
      obtain ⟨nt, hnt⟩ : ∃ nt, h.node[t]? = some nt := ⟨_, List.getElem?_eq_getElem htn⟩
      obtain ⟨nh, hnh⟩ : ∃ nh, h.node[hd]? = some nh := ⟨_, List.getElem?_eq_getElem hhn⟩
      have hnt2 : nodeAt h t = nt := by unfold nodeAt; rw [List.getD_eq_getElem?_getD, hnt]; rfl
      have hnh2 : nodeAt h hd = nh := by unfold nodeAt; rw [List.getD_eq_getElem?_getD, hnh]; rfl
      rw [hnt2, hnh2] at hstep
      obtain ⟨b3, o3, ea3, cc3⟩ := SEE.out.node.cell t nt hnt
      obtain ⟨b3', o3', ea3', cc4⟩ := SEE.out.node.cell hd nh hnh
      rw [ea3] at ea3'
      simp only [Option.some.injEq, Addr.mk.injEq, and_true] at ea3'
      obtain ⟨rfl, rfl⟩ := ea3'
      have g0 := cc3 0 _ rfl
      have g1 := cc4 0 _ rfl
      rw [Nat.mul_one, Nat.add_zero] at g0 g1
      have nt32 : nt < 4294967296 := SEE.out.bn nt (List.mem_of_getElem? hnt)
      have nh32 : nh < 4294967296 := SEE.out.bn nh (List.mem_of_getElem? hnh)
      have G0 := Lib.hid g0
      have G1 := Lib.hid g1
      have HST := Lib.hid hstep
      have HLK := Lib.hid hlk
      have EA := Lib.hid ea
      have EA2 := Lib.hid ea2
      have EA3 := Lib.hid ea3
      have lb := block_lt e0
      have lb2 := block_lt f0
      obtain ⟨k0, k1, k2, k3, k4⟩ := hier_five (HX.out.below HBL.out HX.out.lt)
      clear hx hxl hrk hrk2 ht hh hstep cc cc2 cc3 cc4 ea ea2 ea3 g0 g1 hnt hnh hnt2 hnh2 hlk
      have hfd := Tryz.fieldLink0
      obtain ⟨hlk1, -, -, -⟩ := hok
      have cv3 := IntWalk.i64_in (t : Int) (by omega)
      have cv4 := IntWalk.i64_in (hd : Int) (by omega)
      have cv1 := IntWalk.i64_in (nt : Int) (by omega)
      have cv2 := IntWalk.i64_in (nh : Int) (by omega)
      rw [EA.out, EA2.out]
      go_upto_region 5 with fail
      rcases hcase with ⟨du, rfl, el⟩ | ⟨du, rfl, el⟩
      all_goals
        go_region_held3 (fun W => W.cell? ⟨w.heap.size, 0, none⟩ = some (.slice A.a0 h.node.length A.c0) ∧ W.cell? ⟨w.heap.size, 1, none⟩ = some (.slice A.a1 h.upF.length A.c1) ∧ W.cell? ⟨w.heap.size, 2, none⟩ = some (.slice A.a2 h.up.length A.c2) ∧ W.cell? ⟨w.heap.size, 3, none⟩ = some (.slice A.a3 h.dnF.length A.c3) ∧ W.cell? ⟨w.heap.size, 4, none⟩ = some (.slice A.a4 h.dn.length A.c4) ∧ W.cell? ⟨b2, o2 + x, none⟩ = some (.int .i64 rk)) (go_keep)
          (first | (go_at_call 61; (with_reducible refine (ulink_lit A h x _ ?_ hx2 hd63).mono ?_); exact (SEE.out.below (HBL.out.trans ((Below.refl _ _).drew.mono HBL.out.size))); rintro e w1 ⟨rfl, hb1⟩; rw [HLK.out]; unfold linkVal; (have j0 := ck hb1 k0); (have j1 := ck hb1 k1); (have j2 := ck hb1 k2); (have j3 := ck hb1 k3); (have j4 := ck hb1 k4); (have jf := ck hb1 f0)))
        try dsimp only [Exit.then]
        have hba := (Below.refl wr.heap.size wr).drew.trans hb1
        have HB1 := Lib.hid (HBL.out.trans (hba.mono HBL.out.size))
        have HN1 := Lib.hid (HN.out.below hba)
        have hz1 := HB1.out.size
        have n0 := ck HB1.out G0.out
        have n1 := ck HB1.out G1.out
        have ln := block_lt n0
        rw [EA3.out] at j0
        clear k0 k1 k2 k3 k4 e0 f0 jf hb1 hba
        by_cases hL0 : L = []
        · subst hL0
          have hst : nodesL h (links.take (k + 1)) = [nt, nh] := by rw [HST.out]; rfl
          have HS2 := Lib.hid hst
          clear hst HST HLL hLl
          rw [List.length_nil]
          go_wp2_with (at_builtin; refine wpList_app _ rfl _ _ 28 rfl 3 (.int .i64 0) 1 8 Tryz.underlying28 Tryz.infoInt rfl (by decide) (.slice ao 0 cap) (0) ([]) rfl ?own ⟨w1.heap.size, 0, none⟩ 1 1 (i64Cells nt) rfl rfl ?c1 ?c2 ?c3 ?c4 ?_)
          case own => exact own_kept (bs := []) HN1.out.own ((Only.refl _ w1).alloc _) (fun q _ => by simp)
          case c1 => exact cells_new w1 3 (i64Cells nt)
          case c2 => intro u hu; simp [i64Cells] at hu; subst hu; rfl
          case c3 => unfold maxLen; omega
          case c4 => omega
          intro ao5 cap5 w5 hown5 ho5 hk5
          have hbw := HB1.out.alloc hz1 (.cells #[.int .i64 nt] 3)
          have hbl5 : Below w0.heap.size w0 w5 := hbw.trans (ho5.below hbw.size (fun q hq => HN1.out.new q (own_mem hq)))
          have hn5 : Nats w0.heap.size w5 (.slice ao5 1 cap5) [nt] := (HN1.out.below ((Below.refl w1.heap.size w1).alloc (Nat.le_refl _) (.cells #[.int .i64 nt] 3))).app [nt] (m := 1) rfl (ao := ao5) (cap := cap5) (w5 := w5) hown5 (by simpa using hk5) (by simp; omega)
          have HB5 := Lib.hid hbl5
          have HN5 := Lib.hid hn5
          have m1 := ck hbl5 G1.out
          have ln5 := block_lt m1
          have hz5 := hbl5.size
          obtain ⟨i0, i1, i2, i3, i4⟩ := hier_five (HX.out.below hbl5 HX.out.lt)
          rw [EA3.out] at i0
          clear hown5 ho5 hk5 hbw hbl5 hn5 n0 n1 j0 j1 j2 j3 j4
          go_wp2_with (at_builtin; refine wpList_app _ rfl _ _ 28 rfl 3 (.int .i64 0) 1 8 Tryz.underlying28 Tryz.infoInt rfl (by decide) (.slice ao5 1 cap5) (1) (i64Cells nt) rfl ?own ⟨w5.heap.size, 0, none⟩ 1 1 (i64Cells nh) rfl rfl ?c1 ?c2 ?c3 ?c4 ?_)
          case own => exact own_kept (bs := []) HN5.out.own ((Only.refl _ w5).alloc _) (fun q _ => by simp)
          case c1 => exact cells_new w5 3 (i64Cells nh)
          case c2 => intro u hu; simp [i64Cells] at hu; subst hu; rfl
          case c3 => unfold maxLen; omega
          case c4 => omega
          intro ao6 cap6 w6 hown6 ho6 hk6
          have hbw := HB5.out.alloc hz5 (.cells #[.int .i64 nh] 3)
          have hbl6 : Below w0.heap.size w0 w6 := hbw.trans (ho6.below hbw.size (fun q hq => HN5.out.new q (own_mem hq)))
          have hn6 : Nats w0.heap.size w6 (.slice ao6 2 cap6) [nt, nh] := (HN5.out.below ((Below.refl w5.heap.size w5).alloc (Nat.le_refl _) (.cells #[.int .i64 nh] 3))).app [nh] (m := 1) rfl (ao := ao6) (cap := cap6) (w5 := w6) hown6 (by simpa using hk6) (by simp; omega)
          have HB6 := Lib.hid hbl6
          have HN6 := Lib.hid hn6
          clear hown6 ho6 hk6 hbw hbl6 hn6 m1 i0 i1 i2 i3 i4
          go_wp2_with fail
          rw [← EA.out, ← EA2.out]
          go_roundg (links.length - (k + 1))
          case measure => rw [HG.out]; omega
          case rel => exact ⟨k + 1, [nt, nh], ao6, cap6, by go_num, by omega, rfl, HS2.out.symm, rfl, HN6.out, HB6.out⟩
        · have hst : nodesL h (links.take (k + 1)) = L ++ [nh] := by rw [HST.out, if_neg hL0]
          have HS2 := Lib.hid hst
          have dL : ((L.length : Int) == 0) = false := by
            have : L.length ≠ 0 := fun e => hL0 (List.eq_nil_of_length_eq_zero e)
            simp; omega
          clear hst HST HLL hL0
          go_wp2_with (at_builtin; refine wpList_app _ rfl _ _ 28 rfl 3 (.int .i64 0) 1 8 Tryz.underlying28 Tryz.infoInt rfl (by decide) (.slice ao L.length cap) (L.length) (L.flatMap i64Cells) rfl ?own ⟨w1.heap.size, 0, none⟩ 1 1 (i64Cells nh) rfl rfl ?c1 ?c2 ?c3 ?c4 ?_)
          case own => exact own_kept (bs := []) HN1.out.own ((Only.refl _ w1).alloc _) (fun q _ => by simp)
          case c1 => exact cells_new w1 3 (i64Cells nh)
          case c2 => intro u hu; simp [i64Cells] at hu; subst hu; rfl
          case c3 => unfold maxLen; omega
          case c4 => omega
          intro ao6 cap6 w6 hown6 ho6 hk6
          have hbw := HB1.out.alloc hz1 (.cells #[.int .i64 nh] 3)
          have hbl6 : Below w0.heap.size w0 w6 := hbw.trans (ho6.below hbw.size (fun q hq => HN1.out.new q (own_mem hq)))
          have hn6 : Nats w0.heap.size w6 (.slice ao6 (L.length + 1) cap6) (L ++ [nh]) := (HN1.out.below ((Below.refl w1.heap.size w1).alloc (Nat.le_refl _) (.cells #[.int .i64 nh] 3))).app [nh] (m := 1) rfl (ao := ao6) (cap := cap6) (w5 := w6) (by simpa using hown6) (by simpa using hk6) (by simp; omega)
          have HB6 := Lib.hid hbl6
          have HN6 := Lib.hid hn6
          clear hown6 ho6 hk6 hbw hbl6 hn6 n0 n1 j0 j1 j2 j3 j4
          go_wp2_with fail
          rw [← EA.out, ← EA2.out]
          go_roundg (links.length - (k + 1))
          case measure => rw [HG.out]; omega
          case rel => exact ⟨k + 1, L ++ [nh], ao6, cap6, by go_num, by omega, rfl, HS2.out.symm, by rw [List.length_append]; rfl, by rw [List.length_append]; exact HN6.out, HB6.out⟩
    · obtain rfl : k = links.length := by omega
      go_wp2
      go_returns
      rw [List.take_length] at HLL
      have hL := HLL.out
      subst hL
      exact ⟨ao, cap, rfl, HN.out.mono HB.out.size, HB.out.trans (HBL.out.mono HB.out.size)⟩
def linksRes (h : HierD) (i : Int) : List Nat × EV :=
  if checkErr h = .nil then (if i < 0 ∨ (cntOf h : Int) ≤ i then ([], .code 1) else layRes h [i.toNat]) else ([], checkErr h)
def nodesRes (h : HierD) (i : Int) : List Nat × EV := if (linksRes h i).2 = .nil then (nodesL h (linksRes h i).1, .nil) else ([], (linksRes h i).2)
theorem cnt_small {h : HierD} (hc : checkErr h = .nil) (hk : h.up.length + h.dn.length ≤ 281474976710656) : cntOf h ≤ 1048576 := by
  have := (checkErr_parts hc).1.s
  unfold cntOf
  rw [IntWalk.wrap64_in _ ⟨by omega, by omega⟩] at this
  omega
theorem nats_single (w : World) (x : Nat) : See (w.alloc (.cells #[.int .i64 x] 3)) (some ⟨w.heap.size, 0, none⟩) 1 i64Cells 1 [x] := by
  refine ⟨by simp, by decide, fun i y hy => ⟨w.heap.size, 0, rfl, fun j u hu => ?_⟩⟩
  have hc : Cells (w.alloc (.cells [Value.int .i64 x].toArray 3)) w.heap.size 3 [.int .i64 x] := Cells.new w _ _
  cases i with
  | zero =>
    simp only [List.getElem?_cons_zero, Option.some.injEq] at hy
    subst hy
    cases j with
    | zero =>
      simp only [i64Cells, List.getElem?_cons_zero, Option.some.injEq] at hu
      subst hu
      exact hc.cell rfl
    | succ j => simp [i64Cells] at hu
  | succ i => simp at hy
theorem ulay_one (A : HA) (h : HierD) (b i : Nat) (w : World) (see : HSee w A h) (hc : checkErr h = .nil) (htot : cntOf h ≤ 1048576) (sl : See w (some ⟨b, 0, none⟩) 1 i64Cells 1 [i]) (hi : i < cntOf h) :
    Calls Tryz.prog 37 #[.agg #[.slice A.a0 h.node.length A.c0, .slice A.a1 h.upF.length A.c1, .slice A.a2 h.up.length A.c2, .slice A.a3 h.dnF.length A.c3, .slice A.a4 h.dn.length A.c4], .slice (some ⟨b, 0, none⟩) 1 1] w (ListNew (layRes h [i]) w) :=
  ulay_any A h (some ⟨b, 0, none⟩) 1 [i] w see hc htot sl (by simpa using hi) (by simp)
set_option maxRecDepth 100000 in
set_option maxHeartbeats 4000000 in
theorem ulinks_any (A : HA) (h : HierD) (i : Int) (w : World) (see : HSee w A h) (hk : h.up.length + h.dn.length ≤ 281474976710656) (hi64 : i ≤ 9223372036854775807) :
    Calls Tryz.prog 11 #[hierVal A h, .int .i64 i] w (ListNew (linksRes h i) w) := by
  have SEE := Lib.hid see
  have hx0 := Cells.new w 25 (hierCells A h)
  have HX := Lib.hid hx0
  have HB := Lib.hid ((Below.refl w.heap.size w).alloc (Nat.le_refl _) (.cells (hierCells A h).toArray 25))
  obtain ⟨R, hR⟩ : ∃ R, linksRes h i = R := ⟨_, rfl⟩
  rw [hR]
  have HR := Lib.hid hR
  clear see hx0 hR
  unfold hierVal
  go_enter Tryz.func11, Tryz.ntmps11
  go_wp2_with fail
  refine (hcheck_any A h _ (SEE.out.below HB.out)).mono ?_
  rintro e w1 ⟨v, rfl, hv, hb⟩
  have hx1 := HX.out.below hb HX.out.lt
  have hb1 := HB.out.trans (hb.mono HB.out.size)
  obtain ⟨k0, k1, k2, k3, k4⟩ := hier_five hx1
  have HB1 := Lib.hid hb1
  have hsz := hb1.size
  by_cases hc : checkErr h = .nil
  · obtain rfl := hv.nilv hc
    have htot := cnt_small hc hk
    have htot2 : h.up.length + h.dn.length ≤ 1048576 := htot
    have HC := Lib.hid hc
    have HT := Lib.hid htot
    clear hv hb hx1 hb1 hc htot
    by_cases h0 : i < 0
    · have d0 : decide (i < 0) = true := by simpa using h0
      have HR1 := Lib.hid (show R = ([], .code 1) by rw [← HR.out]; unfold linksRes; rw [if_pos HC.out, if_pos (.inl h0)])
      clear h0
      go_wp2
      go_returns
      rw [HR1.out]
      exact ⟨none, 0, _, rfl, rfl, Nats.nil _ _, HB1.out⟩
    · have d0 : decide (i < 0) = false := by simpa using h0
      by_cases h1 : (cntOf h : Int) ≤ i
      · have d1 : decide ((h.up.length : Int) + (h.dn.length : Int) ≤ i) = true := by simp only [cntOf] at h1; simp; omega
        have HR1 := Lib.hid (show R = ([], .code 1) by rw [← HR.out]; unfold linksRes; rw [if_pos HC.out, if_pos (.inr h1)])
        clear h0 h1
        go_wp2
        go_returns
        rw [HR1.out]
        exact ⟨none, 0, _, rfl, rfl, Nats.nil _ _, HB1.out⟩
      · have d1 : decide ((h.up.length : Int) + (h.dn.length : Int) ≤ i) = false := by simp only [cntOf] at h1; simp; omega
        have HR1 := Lib.hid (show R = layRes h [i.toNat] by rw [← HR.out]; unfold linksRes; rw [if_pos HC.out, if_neg (by omega)])
        obtain ⟨m, rfl⟩ : ∃ m : Nat, i = m := ⟨i.toNat, by omega⟩
        have hm : m < cntOf h := by omega
        have HM := Lib.hid hm
        clear h0 h1 hm
        go_wp2_with fail
        refine (ulay_one A h w1.heap.size m _ (SEE.out.below (HB1.out.alloc hsz _)) HC.out HT.out (nats_single w1 m) HM.out).mono ?_
        rintro e w2 ⟨ao, cap, v, rfl, hv, hn, hb2⟩
        have HB2 := Lib.hid ((HB1.out.alloc hsz (.cells #[.int .i64 m] 3)).trans (hb2.mono (by simp; omega)))
        have HV := Lib.hid hv
        have HN := Lib.hid (hn.mono (show w.heap.size ≤ (w1.alloc (.cells #[.int .i64 m] 3)).heap.size by simp; omega))
        clear hv hn hb2 k0 k1 k2 k3 k4
        go_wp2
        go_returns
        rw [HR1.out]
        exact ⟨ao, cap, v, rfl, HV.out, HN.out, HB2.out⟩
  · obtain ⟨t, u, rfl⟩ := hv.iface hc
    have HV := Lib.hid hv
    have HR1 := Lib.hid (show R = ([], checkErr h) by rw [← HR.out]; unfold linksRes; rw [if_neg hc])
    clear hv hb hx1 hb1 hc k0 k1 k2 k3 k4
    go_wp2
    go_returns
    rw [HR1.out]
    exact ⟨none, 0, _, rfl, HV.out, Nats.nil _ _, HB1.out⟩
def CountNew (h : HierD) (i : Int) (w : World) (e : Ending) (w' : World) : Prop := ∃ v, e = .returned (.tuple #[.int .i64 ((linksRes h i).1.length : Nat), v]) ∧ ErrIs w' v (linksRes h i).2 ∧ Below w.heap.size w w'
set_option maxRecDepth 100000 in
theorem ucount_any (A : HA) (h : HierD) (i : Int) (w : World) (see : HSee w A h) (hk : h.up.length + h.dn.length ≤ 281474976710656) (hi64 : i ≤ 9223372036854775807) :
    Calls Tryz.prog 16 #[hierVal A h, .int .i64 i] w (CountNew h i w) := by
  have SEE := Lib.hid see
  have HB := Lib.hid ((Below.refl w.heap.size w).alloc (Nat.le_refl _) (.cells (hierCells A h).toArray 25))
  clear see
  unfold hierVal
  go_enter Tryz.func16, Tryz.ntmps16
  go_wp2_with fail
  refine (ulinks_any A h i _ (SEE.out.below HB.out) hk hi64).mono ?_
  rintro e w1 ⟨ao, cap, v, rfl, hv, hn, hb⟩
  have HV := Lib.hid hv
  have HB1 := Lib.hid (HB.out.trans (hb.mono HB.out.size))
  clear hv hn hb
  go_wp2
  go_returns
  exact ⟨v, rfl, HV.out, HB1.out⟩
theorem unodes_lit (A : HA) (h : HierD) (aa la : Option Addr) (ca lc : Nat) (links : List Nat) (w : World) (see : HSee w A h) (hc : checkErr h = .nil) (htot : cntOf h ≤ 1048576) (sa : See w aa ca i64Cells 1 (ranksL h)) (sl : See w la lc i64Cells 1 links)
    (hl : ∀ x ∈ links, x < cntOf h) (hlen : links.length ≤ 131072) :
    Calls Tryz.prog 42 #[.agg #[.slice A.a0 h.node.length A.c0, .slice A.a1 h.upF.length A.c1, .slice A.a2 h.up.length A.c2, .slice A.a3 h.dnF.length A.c3, .slice A.a4 h.dn.length A.c4], .slice aa (ranksL h).length ca, .slice la links.length lc] w (NatsNew (nodesL h links) w) := unodes_any A h aa la ca lc links w see hc htot sa sl hl hlen
theorem heads_lit (A : HA) (h : HierD) (w : World) (see : HSee w A h) (u : FirstsOk h.node.length h.upF h.up.length) (d : FirstsOk h.node.length h.dnF h.dn.length) (hn : h.node.length ≤ 65536) (htot : h.up.length + h.dn.length ≤ 1048576) :
    Calls Tryz.prog 43 #[.agg #[.slice A.a0 h.node.length A.c0, .slice A.a1 h.upF.length A.c1, .slice A.a2 h.up.length A.c2, .slice A.a3 h.dnF.length A.c3, .slice A.a4 h.dn.length A.c4]] w (NatsNew (ranksL h) w) := heads_any A h w see u d hn htot
theorem linksRes_ok {h : HierD} {i : Int} (h2 : (linksRes h i).2 = .nil) : checkErr h = .nil ∧ (linksRes h i).1.length ≤ 131072 ∧ ∀ x ∈ (linksRes h i).1, x < cntOf h ∧ (linkAt h x).plain = true := by
  unfold linksRes at *
  split at h2
  · rename_i hc
    rw [if_pos hc]
    split at h2
    · cases h2
    · rename_i hi
      rw [if_neg hi]
      unfold layRes at *
      split at h2
      · rename_i hl
        rw [if_pos hl]
        refine ⟨hc, hl, fun x hx => ?_⟩
        simp only [stackOut, List.flatMap_cons, List.flatMap_nil, List.append_nil] at hx
        exact laysOf_mem hc i.toNat (by omega) x hx
      · cases h2
  · rename_i hc
    exact absurd h2 hc
set_option maxRecDepth 100000 in
set_option maxHeartbeats 4000000 in
theorem unodesOf_any (A : HA) (h : HierD) (i : Int) (w : World) (see : HSee w A h) (hk : h.up.length + h.dn.length ≤ 281474976710656) (hi64 : i ≤ 9223372036854775807) :
    Calls Tryz.prog 17 #[hierVal A h, .int .i64 i] w (ListNew (nodesRes h i) w) := by
  have SEE := Lib.hid see
  have HX := Lib.hid (Cells.new w 25 (hierCells A h))
  have HB := Lib.hid ((Below.refl w.heap.size w).alloc (Nat.le_refl _) (.cells (hierCells A h).toArray 25))
  clear see
  unfold hierVal
  go_enter Tryz.func17, Tryz.ntmps17
  go_wp2_with fail
  refine (ulinks_any A h i _ (SEE.out.below HB.out) hk hi64).mono ?_
  rintro e w1 ⟨ao, cap, v, rfl, hv, hn, hb⟩
  have hb1 := HB.out.trans (hb.mono HB.out.size)
  by_cases h2 : (linksRes h i).2 = .nil
  · obtain rfl := hv.nilv h2
    obtain ⟨hc, hlen, hmem⟩ := linksRes_ok h2
    have htot := cnt_small hc hk
    obtain ⟨u, d⟩ := parts_firsts hc
    have hnn := (checkErr_parts hc).1.n
    have HR := Lib.hid (show nodesRes h i = (nodesL h (linksRes h i).1, .nil) by unfold nodesRes; rw [if_pos h2])
    obtain ⟨k0, k1, k2, k3, k4⟩ := hier_five (HX.out.below hb HX.out.lt)
    obtain ⟨L, hL⟩ : ∃ L, (linksRes h i).1 = L := ⟨_, rfl⟩
    rw [hL] at hn hlen hmem HR
    rw [hL]
    have HN := Lib.hid hn
    have HB1 := Lib.hid hb1
    have HC := Lib.hid hc
    have HT := Lib.hid htot
    have HT2 := Lib.hid (show h.up.length + h.dn.length ≤ 1048576 from htot)
    have HU := Lib.hid u
    have HD := Lib.hid d
    have HM := Lib.hid (fun x hx => (hmem x hx).1)
    have SL := Lib.hid hn.see.1
    clear hv hn hb h2 hc hmem htot u d hL hb1
    go_wp2_with fail
    go_region_held3 (fun W => W.cell? ⟨w.heap.size, 0, none⟩ = some (.slice A.a0 h.node.length A.c0) ∧ W.cell? ⟨w.heap.size, 1, none⟩ = some (.slice A.a1 h.upF.length A.c1) ∧ W.cell? ⟨w.heap.size, 2, none⟩ = some (.slice A.a2 h.up.length A.c2) ∧ W.cell? ⟨w.heap.size, 3, none⟩ = some (.slice A.a3 h.dnF.length A.c3) ∧ W.cell? ⟨w.heap.size, 4, none⟩ = some (.slice A.a4 h.dn.length A.c4)) (go_keep)
      (first
      | (go_at_call 43; (with_reducible refine (heads_lit A h _ ?_ HU.out HD.out hnn HT2.out).mono ?_); exact (SEE.out.below HB1.out.drew); rintro e w2 ⟨ao2, cap2, rfl, hn2, hb2⟩; (have j0 := ck hb2 k0); (have j1 := ck hb2 k1); (have j2 := ck hb2 k2); (have j3 := ck hb2 k3); (have j4 := ck hb2 k4); (have SA := Lib.hid hn2.see.1); (have HB2 := Lib.hid (HB1.out.drew.trans (hb2.mono HB1.out.size))); (have HSL := Lib.hid (SL.out.below ((Below.refl w1.heap.size w1).drew.trans hb2))); clear hn2 hb2)
      | (go_at_call 42; (with_reducible refine (unodes_lit A h ao2 ao cap2 cap L _ ?_ HC.out HT.out SA.out HSL.out HM.out hlen).mono ?_); exact (SEE.out.below HB2.out); rintro e w3 ⟨ao3, cap3, rfl, hn3, hb3⟩; (have m0 := ck hb3 j0); (have m1 := ck hb3 j1); (have m2 := ck hb3 j2); (have m3 := ck hb3 j3); (have m4 := ck hb3 j4); (have HN3 := Lib.hid (hn3.mono HB2.out.size)); (have HB3 := Lib.hid (HB2.out.trans (hb3.mono HB2.out.size))); clear hn3 hb3))
    try dsimp only [Exit.then]
    go_wp2
    go_returns
    rw [HR.out]
    exact ⟨ao3, cap3, _, rfl, rfl, HN3.out, HB3.out⟩
  · obtain ⟨t, u, rfl⟩ := hv.iface h2
    have HV := Lib.hid hv
    have HB1 := Lib.hid hb1
    have HR := Lib.hid (show nodesRes h i = ([], (linksRes h i).2) by unfold nodesRes; rw [if_neg h2])
    clear hv hb hb1 h2 hn
    go_wp2
    go_returns
    rw [HR.out]
    exact ⟨none, 0, _, rfl, HV.out, Nats.nil _ _, HB1.out⟩
open Go.ChangeMaps Go.MapKept
theorem only_setBlock {w : World} {b clock : Nat} {es : Array MapEntry} (hb : w.heap[b]? = some (.map es clock)) (o : Obj) : Only [b] w (setBlock w b o) :=
  ⟨rfl, rfl, rfl, by simp [setBlock], fun k _ hn => heap_setBlock_other hb _ (fun e => hn (by simp [e]))⟩
def natKey (r : Nat) : Value := .int .i64 (r : Int)
theorem natKey_inj {a b : Nat} (h : natKey a = natKey b) : a = b := by
  unfold natKey at h
  simp only [Value.int.injEq, true_and] at h
  omega
structure MapI (w : World) (b : Nat) (f : Nat → Option Value) : Prop where
  ex : ∃ es clock, w.heap[b]? = some (.map es clock) ∧ (∀ e ∈ es.toList, ∃ r : Nat, r ≤ 9223372036854775807 ∧ e.key = natKey r) ∧ (∀ (i j : Nat) (a c : MapEntry), es.toList[i]? = some a → es.toList[j]? = some c → a.key = c.key → i = j) ∧
    (∀ (r : Nat) (v : Value), f r = some v ↔ ∃ e ∈ es.toList, e.key = natKey r ∧ e.val = v)
theorem MapI.lt {w : World} {b : Nat} {f : Nat → Option Value} (m : MapI w b f) : b < w.heap.size := by
  obtain ⟨es, clock, hb, -⟩ := m.ex
  exact (Array.getElem?_eq_some_iff.1 hb).1
theorem MapI.below {w w' : World} {b : Nat} {f : Nat → Option Value} (m : MapI w b f) (o : Below w.heap.size w w') : MapI w' b f := by
  have hl := m.lt
  obtain ⟨es, clock, hb, h⟩ := m.ex
  exact ⟨es, clock, (o.block b hl).trans hb, h⟩
theorem MapI.only {w w' : World} {b : Nat} {f : Nat → Option Value} {bs : List Nat} (m : MapI w b f) (o : Only bs w w') (hn : b ∉ bs) : MapI w' b f := by
  have hl := m.lt
  obtain ⟨es, clock, hb, h⟩ := m.ex
  exact ⟨es, clock, (o.block b hl hn).trans hb, h⟩
theorem MapI.made (w : World) : MapI (w.alloc (.map #[] 0)) w.heap.size (fun _ => none) :=
  ⟨#[], 0, (MapKept.heap_alloc w _).1, by simp, by simp, by simp⟩
theorem key_nat {P : Program} {k : TypeId} (hk : P.underlying k = some (.int .i64)) {r : Nat} (hr : r ≤ 9223372036854775807) : Go.keyOf P k (natKey r) = some (.int .i64 (r : Int)) :=
  Maps.keyOf_int_mk hk (WalkArith.wf_i64 (by omega))
theorem MapI.look {w : World} {b : Nat} {f : Nat → Option Value} {P : Program} {t k E : TypeId} {z : Value} (m : MapI w b f) (ht : P.underlying t = some (.map k E)) (hk : P.underlying k = some (.int .i64)) (hz : (zeroValue E).run P w = .ok z w) {r : Nat} (hr : r ≤ 9223372036854775807) :
    (Instr.lookup t (.map (some b)) (.int .i64 (r : Int)) false).run P w = .ok ((f r).getD z) w := by
  obtain ⟨es, clock, hb, hkeys, huni, hf⟩ := m.ex
  have K := Maps.int_keyed hk
  have hkey := key_nat hk hr
  unfold natKey at hkey
  have hall : ∀ e ∈ es.toList, ∃ l, Go.keyOf P k e.key = some l := fun e he => by
    obtain ⟨q, hq, e1⟩ := hkeys e he
    exact ⟨_, by rw [e1]; exact key_nat hk hq⟩
  rcases K.find w hkey es.toList hall with ⟨h1, h2⟩ | ⟨j, e0, h1, h2, h3⟩
  · have hn : f r = none := by
      cases hfr : f r with
      | none => rfl
      | some v =>
        obtain ⟨e, he, e1, -⟩ := (hf r v).1 hfr
        exact absurd e1 (h2 e he)
    rw [hn]
    simp [Instr.lookup, run_underlying ht, MapKept.run_getObj_map hb, K.check w _ hkey, h1, hz, Result.andThen]
  · have hs : f r = some e0.val := (hf r e0.val).2 ⟨e0, List.mem_of_getElem? h2, h3, rfl⟩
    rw [hs]
    simp [Instr.lookup, run_underlying ht, MapKept.run_getObj_map hb, K.check w _ hkey, h1, Result.andThen]
theorem MapI.put {w : World} {b : Nat} {f : Nat → Option Value} {P : Program} {t k E : TypeId} (m : MapI w b f) (ht : P.underlying t = some (.map k E)) (hk : P.underlying k = some (.int .i64)) {r : Nat} (hr : r ≤ 9223372036854775807) (v : Value) :
    ∃ w', (Instr.mapUpdate t (.map (some b)) (.int .i64 (r : Int)) v).run P w = .ok () w' ∧ MapI w' b (fun q => if q = r then some v else f q) ∧ Only [b] w w' := by
  obtain ⟨es, clock, hb, hkeys, huni, hf⟩ := m.ex
  have K := Maps.int_keyed hk
  have hkey := key_nat hk hr
  unfold natKey at hkey
  have hall : ∀ e ∈ es.toList, ∃ l, Go.keyOf P k e.key = some l := fun e he => by
    obtain ⟨q, hq, e1⟩ := hkeys e he
    exact ⟨_, by rw [e1]; exact key_nat hk hq⟩
  rcases K.find w hkey es.toList hall with ⟨h1, h2⟩ | ⟨j, e0, h1, h2, h3⟩
  · refine ⟨setBlock w b (.map (es.push ⟨.int .i64 (r : Int), v, clock⟩) (clock + 1)), ?_, ⟨_, _, heap_setBlock_same hb _, ?_, ?_, ?_⟩, ?_⟩
    · simp [Instr.mapUpdate, run_underlying ht, MapKept.run_getObj_map hb, K.check w false hkey, h1, MapKept.run_setObj_map _ hb, Result.andThen, setBlock]
    · intro e he
      simp only [Array.toList_push, List.mem_append, List.mem_singleton] at he
      rcases he with he | rfl
      · exact hkeys e he
      · exact ⟨r, hr, rfl⟩
    · intro i j a c hi hj hac
      simp only [Array.toList_push, List.getElem?_append] at hi hj
      split at hi <;> split at hj
      · exact huni i j a c hi hj hac
      · have h4 := List.mem_of_getElem? hj
        simp only [List.mem_singleton] at h4
        subst h4
        exact absurd hac (h2 a (List.mem_of_getElem? hi))
      · have h4 := List.mem_of_getElem? hi
        simp only [List.mem_singleton] at h4
        subst h4
        exact absurd hac.symm (h2 c (List.mem_of_getElem? hj))
      · have h4 := (List.getElem?_eq_some_iff.1 hi).1
        have h5 := (List.getElem?_eq_some_iff.1 hj).1
        simp only [List.length_singleton] at h4 h5
        omega
    · intro q u
      simp only [Array.toList_push, List.mem_append, List.mem_singleton]
      by_cases e : q = r
      · subst e
        rw [if_pos rfl]
        constructor
        · intro h
          simp only [Option.some.injEq] at h
          exact ⟨_, .inr rfl, rfl, h⟩
        · rintro ⟨e1, he | rfl, e2, e3⟩
          · exact absurd e2 (h2 e1 he)
          · exact congrArg some e3
      · rw [if_neg e, hf q u]
        constructor
        · rintro ⟨e1, he, e2, e3⟩
          exact ⟨e1, .inl he, e2, e3⟩
        · rintro ⟨e1, he | rfl, e2, e3⟩
          · exact ⟨e1, he, e2, e3⟩
          · exact absurd (natKey_inj e2).symm e
    · exact only_setBlock hb _
  · have hj : es[j]? = some e0 := by simpa using h2
    have hlist : (es.modify j (fun e' => { e' with key := .int .i64 (r : Int), val := v })).toList = es.toList.set j { e0 with key := .int .i64 (r : Int), val := v } := by rw [Array.toList_modify, modify_eq_set _ _ _ _ h2]
    have hjl : j < es.toList.length := (List.getElem?_eq_some_iff.1 h2).1
    refine ⟨setBlock w b (.map (es.modify j (fun e' => { e' with key := .int .i64 (r : Int), val := v })) clock), ?_, ⟨_, _, heap_setBlock_same hb _, ?_, ?_, ?_⟩, ?_⟩
    · simp [Instr.mapUpdate, run_underlying ht, MapKept.run_getObj_map hb, K.check w false hkey, h1, hj, h3, K.stays w hkey, MapKept.run_setObj_map _ hb, Result.andThen, setBlock]
    · intro e he
      rw [hlist] at he
      rcases List.mem_or_eq_of_mem_set he with he | rfl
      · exact hkeys e he
      · exact ⟨r, hr, rfl⟩
    · have key : ∀ (i : Nat) (a : MapEntry), (es.toList.set j { e0 with key := .int .i64 (r : Int), val := v })[i]? = some a → ∃ a' : MapEntry, es.toList[i]? = some a' ∧ a'.key = a.key := by
        intro i a hi
        rw [List.getElem?_set] at hi
        split at hi
        · rename_i e
          subst e
          try rw [if_pos hjl] at hi
          simp only [Option.some.injEq] at hi
          subst hi
          exact ⟨e0, h2, h3⟩
        · exact ⟨a, hi, rfl⟩
      intro i l a c hi hl hac
      rw [hlist] at hi hl
      obtain ⟨a', ha, ea⟩ := key i a hi
      obtain ⟨c', hc, ec⟩ := key l c hl
      exact huni i l a' c' ha hc (by rw [ea, ec, hac])
    · intro q u
      rw [hlist]
      by_cases e : q = r
      · subst e
        rw [if_pos rfl]
        constructor
        · intro h
          simp only [Option.some.injEq] at h
          exact ⟨{ e0 with key := .int .i64 (q : Int), val := v }, List.mem_iff_getElem.2 ⟨j, by simpa using hjl, by simp⟩, rfl, h⟩
        · rintro ⟨e1, he, e2, e3⟩
          obtain ⟨i, hi, rfl⟩ := List.getElem_of_mem he
          have hi' : i < es.toList.length := by simpa using hi
          rw [List.getElem_set] at e2 e3
          split at e3
          · exact congrArg some e3
          · rename_i hne
            rw [if_neg hne] at e2
            exact absurd (huni i j _ e0 (List.getElem?_eq_getElem hi') h2 (e2.trans h3.symm)).symm hne
      · rw [if_neg e, hf q u]
        constructor
        · rintro ⟨e1, he, e2, e3⟩
          obtain ⟨i, hi, rfl⟩ := List.getElem_of_mem he
          have hij : j ≠ i := fun c => by
            subst c
            rw [List.getElem?_eq_getElem hi] at h2
            simp only [Option.some.injEq] at h2
            rw [h2, h3] at e2
            exact e (natKey_inj e2).symm
          exact ⟨_, List.mem_iff_getElem.2 ⟨i, by simpa using hi, by rw [List.getElem_set, if_neg hij]⟩, e2, e3⟩
        · rintro ⟨e1, he, e2, e3⟩
          obtain ⟨i, hi, rfl⟩ := List.getElem_of_mem he
          have hi' : i < es.toList.length := by simpa using hi
          rw [List.getElem_set] at e2 e3
          split at e2
          · exact absurd (natKey_inj e2).symm e
          · rename_i hne
            rw [if_neg hne] at e3
            exact ⟨_, List.getElem_mem hi', e2, e3⟩
    · exact only_setBlock hb _
end Go.Proofs.YtchhbgckonpedaaGreatDoor
namespace Go.Proofs.YtchhbgckonpedaaGreatDoor
def steps : List Nat → List (Nat × Nat)
  | [] => []
  | [_] => []
  | a :: b :: l => (a, b) :: steps (b :: l)
theorem steps_mid (a l : List Nat) (v : Nat) : steps (a ++ v :: l) = steps (a ++ [v]) ++ steps (v :: l) := by
  induction a with
  | nil => rfl
  | cons x a ih =>
    cases a with
    | nil => rfl
    | cons y a =>
      show (x, y) :: steps (y :: a ++ v :: l) = (x, y) :: steps (y :: a ++ [v]) ++ steps (v :: l)
      rw [ih]; rfl
def simpleStep (s : List Nat) (v : Nat) : List Nat := if v ∈ s then s.take (s.idxOf v + 1) else s ++ [v]
def simpleL (s l : List Nat) : List Nat := l.foldl simpleStep s
theorem take_split {s : List Nat} {v : Nat} (h : v ∈ s) : s = s.take (s.idxOf v) ++ v :: s.drop (s.idxOf v + 1) ∧ s.take (s.idxOf v + 1) = s.take (s.idxOf v) ++ [v] := by
  have hi : s.idxOf v < s.length := List.idxOf_lt_length_of_mem h
  have hg : s[s.idxOf v] = v := List.getElem_idxOf hi
  constructor
  · conv => lhs; rw [← List.take_append_drop (s.idxOf v) s]
    rw [List.drop_eq_getElem_cons hi, hg]
  · rw [List.take_add_one, List.getElem?_eq_getElem hi, hg]; rfl
theorem simpleStep_nodup {s : List Nat} {v : Nat} (h : s.Nodup) : (simpleStep s v).Nodup := by
  unfold simpleStep
  split
  · exact h.sublist (List.take_sublist _ _)
  · rename_i hv
    rw [List.nodup_append]
    refine ⟨h, by simp, fun a ha b hb => ?_⟩
    simp only [List.mem_singleton] at hb
    subst hb
    rintro rfl
    exact hv ha
theorem simpleStep_last (s : List Nat) (v : Nat) : (simpleStep s v).getLast? = some v := by
  unfold simpleStep
  split
  · rename_i h
    rw [(take_split h).2]; simp
  · simp
theorem simpleStep_head (s : List Nat) (v : Nat) : (simpleStep s v).head? = (s ++ [v]).head? := by
  unfold simpleStep
  split
  · cases s with
    | nil => rename_i h; simp at h
    | cons a s => simp
  · rfl
theorem simpleStep_steps (s l : List Nat) (v : Nat) : (steps (simpleStep s v ++ l)).Sublist (steps (s ++ v :: l)) := by
  unfold simpleStep
  split
  · rename_i h
    obtain ⟨h1, h2⟩ := take_split h
    rw [h2]
    conv => rhs; rw [h1]
    generalize s.take (s.idxOf v) = a
    generalize s.drop (s.idxOf v + 1) = b
    rw [List.append_assoc, List.append_assoc]
    show (steps (a ++ v :: l)).Sublist (steps (a ++ v :: (b ++ v :: l)))
    rw [steps_mid a l v, steps_mid a (b ++ v :: l) v]
    refine List.Sublist.append (List.Sublist.refl _) ?_
    have : v :: (b ++ v :: l) = (v :: b) ++ v :: l := rfl
    rw [this, steps_mid (v :: b) l v]
    exact List.sublist_append_right _ _
  · rw [List.append_assoc]
    exact List.Sublist.refl _
theorem simpleL_nodup (l : List Nat) : ∀ s : List Nat, s.Nodup → (simpleL s l).Nodup := by
  induction l with
  | nil => intro s h; exact h
  | cons v l ih => intro s h; exact ih _ (simpleStep_nodup h)
theorem simpleL_steps (l : List Nat) : ∀ s : List Nat, (steps (simpleL s l)).Sublist (steps (s ++ l)) := by
  induction l with
  | nil => intro s; rw [List.append_nil]; exact List.Sublist.refl _
  | cons v l ih => intro s; exact (ih _).trans (simpleStep_steps s l v)
theorem simpleL_head (l : List Nat) : ∀ s : List Nat, (simpleL s l).head? = (s ++ l).head? := by
  induction l with
  | nil => intro s; rw [List.append_nil]; rfl
  | cons v l ih =>
    intro s
    have e := ih (simpleStep s v)
    have e1 := simpleStep_head s v
    show (simpleL (simpleStep s v) l).head? = _
    rw [e]
    cases s with
    | nil => rfl
    | cons a s =>
      cases hs : simpleStep (a :: s) v with
      | nil => rw [hs] at e1; simp at e1
      | cons b m =>
        rw [hs] at e1
        simp at e1
        simp [e1]
theorem simpleL_last (l : List Nat) : ∀ s : List Nat, (simpleL s l).getLast? = (s ++ l).getLast? := by
  induction l with
  | nil => intro s; rw [List.append_nil]; rfl
  | cons v l ih =>
    intro s
    show (simpleL (simpleStep s v) l).getLast? = _
    rw [ih]
    cases l with
    | nil => rw [List.append_nil, simpleStep_last]; simp
    | cons x l =>
      rw [List.getLast?_append, List.getLast?_append, List.getLast?_cons_cons]
      cases h : (x :: l).getLast? with
      | none => simp at h
      | some y => rfl
theorem simpleStep_mem {s : List Nat} {v x : Nat} (h : x ∈ simpleStep s v) : x ∈ s ∨ x = v := by
  unfold simpleStep at h
  split at h
  · exact .inl (List.mem_of_mem_take h)
  · simpa using h
theorem simpleL_mem (l : List Nat) : ∀ (s : List Nat) {x : Nat}, x ∈ simpleL s l → x ∈ s ∨ x ∈ l := by
  induction l with
  | nil => intro s x h; exact .inl h
  | cons v l ih =>
    intro s x h
    rcases ih _ h with h | h
    · rcases simpleStep_mem h with h | rfl
      · exact .inl h
      · exact .inr (by simp)
    · exact .inr (by simp [h])
theorem sum_sublist {l m : List Nat} (h : l.Sublist m) : l.sum ≤ m.sum := by
  induction h with
  | slnil => exact Nat.le_refl _
  | cons a _ ih => rw [List.sum_cons]; omega
  | cons_cons a _ ih => rw [List.sum_cons, List.sum_cons]; omega
end Go.Proofs.YtchhbgckonpedaaGreatDoor
