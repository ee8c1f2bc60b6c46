/- The contract of unpack's ways: links that follow one another from a rank up to a higher one, and down to a rank. -/
import Derived.Test.YtchhbgckonpedaaGreatDoorG22
import Derived.Test.YtchhbgckonpedaaGreatDoorG16
import Derived.LaidEql
import Derived.Stop.Asserts
import Derived.RowKitTokens
namespace Go.Proofs.YtchhbgckonpedaaGreatDoor
open Go.ChangeShapes Go.WideShapes Go.ChangeAt Go.RowKit Go.Joins Go.Deep
theorem flat_more {α : Type} (f : Nat → List α) (m : Nat) : ∀ k, ∃ rest, (List.range (m + k)).flatMap f = (List.range m).flatMap f ++ rest := by
  intro k
  induction k with
  | zero => exact ⟨[], by simp⟩
  | succ k ih =>
    obtain ⟨rest, h⟩ := ih
    refine ⟨rest ++ f (m + k), ?_⟩
    rw [← Nat.add_assoc, List.range_succ, List.flatMap_append, h, List.append_assoc]
    simp
theorem flat_row {α : Type} (f : Nat → List α) {n r i : Nat} (hr : r < n) (h1 : ((List.range r).flatMap f).length ≤ i) (h2 : i < ((List.range (r + 1)).flatMap f).length) : ∃ x, ((List.range n).flatMap f)[i]? = some x ∧ x ∈ f r := by
  obtain ⟨rest, e⟩ := flat_more f (r + 1) (n - (r + 1))
  rw [show r + 1 + (n - (r + 1)) = n by omega] at e
  have e2 : (List.range (r + 1)).flatMap f = (List.range r).flatMap f ++ f r := by rw [List.range_succ, List.flatMap_append]; simp
  rw [e2, List.length_append] at h2
  have h3 : i - ((List.range r).flatMap f).length < (f r).length := by omega
  refine ⟨(f r)[i - ((List.range r).flatMap f).length], ?_, List.getElem_mem _⟩
  rw [e, List.getElem?_append_left (by rw [e2, List.length_append]; exact h2), e2, List.getElem?_append_right h1, List.getElem?_eq_getElem h3]
theorem up_link {h : HierD} (hc : checkErr h = .nil) {r i : Nat} {l : LinkD} (hr : r < h.node.length) (h1 : h.upF.getD r 0 ≤ i) (h2 : i < h.upF.getD (r + 1) 0) (hl : h.up[i]? = some l) :
    i < cntOf h ∧ (endAt h i).tail = r ∧ (endAt h i).head = l.to ∧ linkAt h i = l := by
  obtain ⟨u, d⟩ := parts_firsts hc
  have hi : i < h.up.length := (List.getElem?_eq_some_iff.1 hl).1
  have hlk : linkAt h i = l := by unfold linkAt; rw [if_pos hi, List.getD_eq_getElem?_getD, hl]; rfl
  have hcnt : i < cntOf h := by unfold cntOf; omega
  obtain ⟨x, hx, hm⟩ := flat_row (endsUp h.upF h.up) hr (by rw [endsUp_length u r (by omega)]; exact h1) (by rw [endsUp_length u (r + 1) (by omega)]; exact h2)
  have hrk : (endAt h i).rank = r := by
    unfold endAt endsOf
    rw [List.getD_eq_getElem?_getD, List.getElem?_append_left (by exact (List.getElem?_eq_some_iff.1 hx).1), hx, Option.getD_some]
    simp only [endsUp, List.mem_map] at hm
    obtain ⟨q, -, rfl⟩ := hm
    rfl
  obtain ⟨e1, e2⟩ := endAt_up hc hi
  exact ⟨hcnt, by rw [e1, hrk], by rw [e2, endAt_link hc hcnt, hlk], hlk⟩
theorem dn_link {h : HierD} (hc : checkErr h = .nil) {r i : Nat} {l : LinkD} (hr : r < h.node.length) (h1 : h.dnF.getD r 0 ≤ i) (h2 : i < h.dnF.getD (r + 1) 0) (hl : h.dn[i]? = some l) :
    h.up.length + i < cntOf h ∧ (endAt h (h.up.length + i)).tail = l.to ∧ (endAt h (h.up.length + i)).head = r ∧ linkAt h (h.up.length + i) = l := by
  obtain ⟨u, d⟩ := parts_firsts hc
  have hi : i < h.dn.length := (List.getElem?_eq_some_iff.1 hl).1
  have hlk : linkAt h (h.up.length + i) = l := by unfold linkAt; rw [if_neg (by omega), List.getD_eq_getElem?_getD, Nat.add_sub_cancel_left, hl]; rfl
  have hcnt : h.up.length + i < cntOf h := by unfold cntOf; omega
  have hul : ((List.range h.node.length).flatMap (endsUp h.upF h.up)).length = h.up.length := by rw [endsUp_length u _ (Nat.le_refl _), u.last]
  obtain ⟨x, hx, hm⟩ := flat_row (endsDn h.dnF h.dn) hr (by rw [endsDn_length d r (by omega)]; exact h1) (by rw [endsDn_length d (r + 1) (by omega)]; exact h2)
  have hrk : (endAt h (h.up.length + i)).rank = r := by
    unfold endAt endsOf
    rw [List.getD_eq_getElem?_getD, List.getElem?_append_right (by omega), hul, Nat.add_sub_cancel_left, hx, Option.getD_some]
    simp only [endsDn, List.mem_map] at hm
    obtain ⟨q, -, rfl⟩ := hm
    rfl
  obtain ⟨e1, e2⟩ := endAt_dn hc (i := h.up.length + i) (by omega) hcnt
  exact ⟨hcnt, by rw [e1, endAt_link hc hcnt, hlk], by rw [e2, hrk], hlk⟩
structure WayIs (h : HierD) (l : List Nat) (s t : Nat) (d : Int) : Prop where
  lt : ∀ x ∈ l, x < cntOf h
  chain : Chain h l s t
  sum : (((l.map fun x => (linkAt h x).wt).sum : Nat) : Int) = d
theorem WayIs.nil (h : HierD) (s : Nat) : WayIs h [] s s 0 := ⟨by simp, rfl, rfl⟩
theorem WayIs.cons {h : HierD} {l : List Nat} {m t i : Nat} {d : Int} (w : WayIs h l m t d) (hi : i < cntOf h) {s : Nat} (h1 : (endAt h i).tail = s) (h2 : (endAt h i).head = m) : WayIs h (i :: l) s t ((linkAt h i).wt + d) :=
  ⟨fun x hx => by
    rcases List.mem_cons.1 hx with rfl | hx
    · exact hi
    · exact w.lt x hx, ⟨h1, by rw [h2]; exact w.chain⟩, by rw [List.map_cons, List.sum_cons, Int.natCast_add, w.sum]⟩
theorem WayIs.snoc {h : HierD} {l : List Nat} {s m i : Nat} {d : Int} (w : WayIs h l s m d) (hi : i < cntOf h) {t : Nat} (h1 : (endAt h i).tail = m) (h2 : (endAt h i).head = t) : WayIs h (l ++ [i]) s t (d + (linkAt h i).wt) :=
  ⟨fun x hx => by
    rcases List.mem_append.1 hx with hx | hx
    · exact w.lt x hx
    · rw [List.mem_singleton] at hx; subst hx; exact hi, w.chain.app ⟨h1, h2⟩, by rw [List.map_append, List.sum_append, Int.natCast_add, w.sum]; simp⟩
theorem Nats.fresh (w : World) (l : List Nat) (hl : l.length ≤ 1048576) : Nats w.heap.size (w.alloc (.cells (l.flatMap i64Cells).toArray 3)) (.slice (some ⟨w.heap.size, 0, none⟩) l.length l.length) l := by
  have hfl : (l.flatMap i64Cells).length = l.length * 1 := flat_length i64Cells_len l
  refine ⟨⟨hfl, .inr ⟨w.heap.size, l.length, (l.flatMap i64Cells).toArray, rfl, Nat.zero_le _, Cells.new w _ _, Nat.le_refl _, by unfold maxLen; omega, by simpa using hfl, by rw [← hfl, List.take_of_length_le (by simp)]⟩⟩, fun k hk => ?_⟩
  simp only [Value.ownBlock, Option.some.injEq] at hk
  omega
theorem back_lit (n : Nat) (first : List Nat) (links : List LinkD) (s : Nat) (D : Nat → Option Int) (L : List SeenD) (at_ : Nat) (e : Int) (af al ax : Option Addr) (nf nl ns cf ck0 cs : Nat) (w : World) (h1 : nf = first.length) (h2 : nl = links.length) (h3 : ns = L.length)
    (sf : See w af cf u32Cells 1 first) (sl : See w al ck0 linkCells 4 links) (ss : See w ax cs seenCells 3 L) (bf : ∀ x ∈ first, x < 4294967296) (bl : ∀ l ∈ links, l.ok) (ok : HalfOk n first links) (hD : IsD n first links s D) (hL : SeenIs n D L)
    (hn : n ≤ 65536) (hk : links.length ≤ 1048576) (hat : at_ < n) (hne : at_ ≠ s) (he : D at_ = some e) :
    Calls Tryz.prog 70 #[.slice af nf cf, .slice al nl ck0, .slice ax ns cs, .int .i64 at_] w (BackPost first links D at_ e w) := by
  subst h1 h2 h3
  exact back_any n first links s D L at_ e af al ax cf ck0 cs w sf sl ss bf bl ok hD hL hn hk hat hne he
def WaysPost (h : HierD) (s t : Nat) (d : Int) (w : World) (e : Ending) (w' : World) : Prop :=
  ∃ (l : List Nat) (ao : Option Addr) (cap : Nat), e = .returned (.tuple #[.slice ao l.length cap, .nilIface]) ∧ WayIs h l s t d ∧ l.length ≤ 131072 ∧ Nats w.heap.size w' (.slice ao l.length cap) l ∧ Below w.heap.size w w'
set_option maxRecDepth 100000 in
set_option maxHeartbeats 4000000 in
theorem ways_any (A : HA) (h : HierD) (s top t : Nat) (D E : Nat → Option Int) (a b : Int) (w : World) (see : HSee w A h) (hc : checkErr h = .nil) (htot : cntOf h ≤ 1048576) (hs : s < h.node.length) (ht : t < h.node.length)
    (hD : IsD h.node.length h.upF h.up s D) (hE : IsD h.node.length h.dnF h.dn t E) (ha : D top = some a) (hb : E top = some b) :
    Calls Tryz.prog 46 #[hierVal A h, .int .i64 s, .int .i64 top, .int .i64 t] w (WaysPost h s t (a + b) w) := by
  have SEE := Lib.hid see
  have HC := Lib.hid hc
  have HT := Lib.hid htot
  have HD := Lib.hid hD
  have HE := Lib.hid hE
  have HA := Lib.hid ha
  have HBB := Lib.hid hb
  have hn := (checkErr_parts hc).1.n
  have htop := hD.dom top a ha
  have hd63 : h.dn.length ≤ 1048576 := by unfold cntOf at htot; omega
  have hu63 : h.up.length ≤ 1048576 := by unfold cntOf at htot; omega
  have HX := Lib.hid (Cells.new w 25 (hierCells A h))
  have HB := Lib.hid ((Below.refl w.heap.size w).alloc (Nat.le_refl _) (.cells (hierCells A h).toArray 25))
  clear see hc htot hD hE ha hb
  unfold hierVal
  go_enter Tryz.func46, Tryz.ntmps46
  go_wp2_with fail
  refine (cup_any A h s _ (SEE.out.below HB.out) HC.out hs).mono ?_
  rintro e w1 ⟨a1, c1, L1, D1, rfl, hown1, hnew1, hD1, hm1, hb1⟩
  have hDD := fun r => hD1.unique (half_up HC.out) HD.out r
  have hDf : D1 = D := funext hDD
  subst hDf
  have HX1 := Lib.hid (HX.out.below hb1 HX.out.lt)
  have HB1 := Lib.hid (HB.out.trans (hb1.mono HB.out.size))
  have SS1 := Lib.hid (See.of_own seenCells_len hown1 (by omega)).1
  have HM1 := Lib.hid (SeenIs.mk hm1)
  obtain ⟨k0, k1, k2, k3, k4⟩ := hier_five HX1.out
  clear hown1 hnew1 hD1 hm1 hb1 hDD
  go_wp2_with fail
  refine (cdown_any A h t _ (SEE.out.below HB1.out) HC.out ht).mono ?_
  rintro e w2 ⟨a2, c2', L2, E1, rfl, hown2, hnew2, hE1, hm2, hb2⟩
  have hEE := fun r => hE1.unique (half_dn HC.out) HE.out r
  have hEf : E1 = E := funext hEE
  subst hEf
  have HX2 := Lib.hid (HX1.out.below hb2 HX1.out.lt)
  have HB2 := Lib.hid (HB1.out.trans (hb2.mono HB1.out.size))
  have SS2 := Lib.hid (SS1.out.below hb2)
  have ST2 := Lib.hid (See.of_own seenCells_len hown2 (by omega)).1
  have HM2 := Lib.hid (SeenIs.mk hm2)
  clear hown2 hnew2 hE1 hm2 hb2 hEE k0 k1 k2 k3 k4
  go_wp2_with fail
  go_loopg [13, 14] top (fun g vl va wr => ∃ (q : Nat) (c : Int) (l : List Nat) (ao : Option Addr) (cap : Nat), va = .int .i64 (q : Int) ∧ g = q ∧ D1 q = some c ∧ WayIs h l q top (a - c) ∧ l.length + q ≤ top ∧ vl = .slice ao l.length cap ∧ (l = [] → ao = none ∧ cap = 0) ∧ Nats w2.heap.size wr (.slice ao l.length cap) l ∧ Below w2.heap.size w2 wr)
  case atStart => exact ⟨top, a, [], none, 0, rfl, rfl, HA.out, by rw [Int.sub_self]; exact WayIs.nil h top, by simp, rfl, fun _ => ⟨rfl, rfl⟩, Nats.nil _ _, Below.refl _ _⟩
  case round =>
    obtain ⟨q, c, l, ao, cap, rfl, hg, hq, hw, hlen, rfl, hnil, hnat, hbl⟩ := hrel
    obtain ⟨wo, rfl⟩ : ∃ wo : World, wo = wr := ⟨_, rfl⟩
    have hqn := HD.out.dom q c hq
    have HG := Lib.hid hg
    have HQ := Lib.hid hq
    have HWW := Lib.hid hw
    have HN := Lib.hid hnat
    have HBL := Lib.hid hbl
    have hz := hbl.size
    obtain ⟨k0, k1, k2, k3, k4⟩ := hier_five (HX2.out.below hbl HX2.out.lt)
    clear hg hq hw hnat hbl
    by_cases hqs : q = s
    · have dq : ((q : Int) != (s : Int)) = false := by simp; omega
      have hW0 : WayIs h l s top a := by
        subst hqs
        have h0 := HD.out.src
        rw [HQ.out] at h0
        simp only [Option.some.injEq] at h0
        have := HWW.out
        rw [h0, Int.sub_zero] at this
        exact this
      have HW0 := Lib.hid hW0
      clear hW0 hnil hqs HWW HQ HG
      go_wp2_with fail
      go_loopg [13, 17] top (fun g vl va wr => ∃ (q : Nat) (c : Int) (l : List Nat) (ao : Option Addr) (cap : Nat), va = .int .i64 (q : Int) ∧ g = q ∧ q ≤ top ∧ E1 q = some c ∧ WayIs h l s q (a + b - c) ∧ l.length + q ≤ 2 * top ∧ vl = .slice ao l.length cap ∧ Nats w2.heap.size wr (.slice ao l.length cap) l ∧ Below w2.heap.size w2 wr)
      case atStart => exact ⟨top, b, l, ao, cap, rfl, rfl, Nat.le_refl _, HBB.out, by rw [show a + b - b = a by omega]; exact HW0.out, by omega, rfl, HN.out, HBL.out⟩
      case round =>
        obtain ⟨p, c2, l, ao, cap, rfl, hg, hpt, hq, hw, hlen2, rfl, hnat, hbl⟩ := hrel
        obtain ⟨wp, rfl⟩ : ∃ wp : World, wp = wr := ⟨_, rfl⟩
        have hqn := HE.out.dom p c2 hq
        have HG := Lib.hid hg
        have HQ := Lib.hid hq
        have HWW := Lib.hid hw
        have HN := Lib.hid hnat
        have HBL := Lib.hid hbl
        have hz := hbl.size
        obtain ⟨k0, k1, k2, k3, k4⟩ := hier_five (HX2.out.below hbl HX2.out.lt)
        clear hg hq hw hnat hbl
        by_cases hqs : p = t
        · have dq : ((p : Int) != (t : Int)) = false := by simp; omega
          have hW0 : WayIs h l s t (a + b) := by
            subst hqs
            have h0 := HE.out.src
            rw [HQ.out] at h0
            simp only [Option.some.injEq] at h0
            have := HWW.out
            rw [h0, Int.sub_zero] at this
            exact this
          have HW0 := Lib.hid hW0
          clear hW0 hqs HWW HQ HG
          go_wp2
          go_returns
          exact ⟨l, ao, cap, rfl, HW0.out, by omega, HN.out.mono HB2.out.size, HB2.out.trans (HBL.out.mono HB2.out.size)⟩
        · have dq : ((p : Int) != (t : Int)) = true := by simp; omega
          have HNQ := Lib.hid hqs
          clear hqs
          go_wp2_with fail
          have hsee := SEE.out.below (HB2.out.trans (HBL.out.mono HB2.out.size))
          refine (back_lit h.node.length h.dnF h.dn t E1 L2 p c2 A.a3 A.a4 a2 _ _ _ A.c3 A.c4 c2' _ rfl rfl rfl hsee.dnF hsee.dn (ST2.out.below HBL.out) hsee.bd hsee.bdn (half_dn HC.out) HE.out HM2.out hn hd63 hqn HNQ.out HQ.out).mono ?_
          rintro e w3 ⟨x, i, rfl, hxd, ⟨hi1, hi2, lk, hlk, hto, hsum⟩, hb3⟩
          have hxn := HE.out.dom _ _ hxd
          obtain ⟨hic, htl, hhd, hli⟩ := dn_link HC.out hxn hi1 hi2 hlk
          have hxq : x.rank < p := by have := (half_dn HC.out).up x.rank hxn lk (seg_of hi1 hi2 hlk); omega
          have hi20 : h.up.length + i < 1048576 := by have := HT.out; omega
          have hw3 : WayIs h (l ++ [h.up.length + i]) s x.rank (a + b - x.dist) := by
            have := HWW.out.snoc hic (by rw [htl, hto]) hhd
            rw [hli] at this
            have e : a + b - c2 + (lk.wt : Int) = a + b - x.dist := by omega
            rwa [e] at this
          have HW3 := Lib.hid hw3
          have HXD := Lib.hid hxd
          have hx3 := HX2.out.below (HBL.out.trans (hb3.mono hz)) HX2.out.lt
          obtain ⟨j0, j1, j2, j3, j4⟩ := hier_five hx3
          have HB3 := Lib.hid (HBL.out.trans (hb3.mono hz))
          have HN3 := Lib.hid (HN.out.below hb3)
          have hz3 := (HBL.out.trans (hb3.mono hz)).size
          have hll : l.length ≤ 131072 := by omega
          have hi0 : (h.up.length : Int) + (i : Int) ≤ 1048576 := by omega
          clear hxd hi1 hi2 hlk hto hsum hic htl hhd hli hw3 hb3 hsee k0 k1 k2 k3 k4 hx3
          go_wp2_with (at_builtin; refine wpList_app _ rfl _ _ 28 rfl 3 (.int .i64 0) 1 8 Tryz.underlying28 Tryz.infoInt rfl (by decide) (.slice ao l.length cap) l.length (l.flatMap i64Cells) rfl ?own ⟨w3.heap.size, 0, none⟩ 1 1 [.int .i64 ((h.up.length : Int) + (i : Int))] rfl rfl ?c1 ?c2 ?c3 ?c4 ?_)
          case own => exact own_kept (bs := []) HN3.out.own ((Only.refl _ w3).alloc _) (fun q _ => by simp)
          case c1 =>
            exact cells_new w3 3 [.int .i64 ((h.up.length : Int) + (i : Int))]
          case c2 => intro u hu; simp at hu; subst hu; rfl
          case c3 => unfold maxLen; omega
          case c4 => omega
          intro ao5 cap5 w5 hown5 ho5 hk5
          have hbw := HB3.out.alloc hz3 (.cells #[.int .i64 ((h.up.length : Int) + i)] 3)
          have hba := (Below.refl w3.heap.size w3).alloc (Nat.le_refl _) (.cells #[.int .i64 ((h.up.length : Int) + i)] 3)
          have hn5 : Nats w2.heap.size w5 (.slice ao5 (l.length + 1) cap5) (l ++ [h.up.length + i]) := (HN3.out.below hba).app [h.up.length + i] (m := 1) rfl (ao := ao5) (cap := cap5) (w5 := w5) (by simpa [i64Cells] using hown5) (by simpa using hk5) (by simp; omega)
          have hbl5 : Below w2.heap.size w2 w5 := hbw.trans (ho5.below hbw.size (fun q hq => HN3.out.new q (own_mem hq)))
          have HN5 := Lib.hid hn5
          have HB5 := Lib.hid hbl5
          clear hown5 ho5 hk5 hbw hba hn5 hbl5 j0 j1 j2 j3 j4
          go_wp2_with fail
          go_roundg x.rank
          case measure => rw [HG.out]; exact hxq
          case rel => exact ⟨x.rank, x.dist, l ++ [h.up.length + i], ao5, cap5, rfl, rfl, by omega, HXD.out, HW3.out, by simp; omega, by simp, by rw [List.length_append]; exact HN5.out, HB5.out⟩
    · have dq : ((q : Int) != (s : Int)) = true := by simp; omega
      have HNQ := Lib.hid hqs
      have HNI := Lib.hid hnil
      clear hqs hnil
      go_wp2_with fail
      have hsee := SEE.out.below (HB2.out.trans (HBL.out.mono HB2.out.size))
      refine (back_lit h.node.length h.upF h.up s D1 L1 q c A.a1 A.a2 a1 _ _ _ A.c1 A.c2 c1 _ rfl rfl rfl hsee.upF hsee.up (SS2.out.below HBL.out) hsee.bu hsee.bup (half_up HC.out) HD.out HM1.out hn hu63 hqn HNQ.out HQ.out).mono ?_
      rintro e w3 ⟨x, i, rfl, hxd, ⟨hi1, hi2, lk, hlk, hto, hsum⟩, hb3⟩
      have hxn := HD.out.dom _ _ hxd
      obtain ⟨hic, htl, hhd, hli⟩ := up_link HC.out hxn hi1 hi2 hlk
      have hxq : x.rank < q := by have := (half_up HC.out).up x.rank hxn lk (seg_of hi1 hi2 hlk); omega
      have hi20 : i < 1048576 := by have := HT.out; omega
      have hw3 : WayIs h (i :: l) x.rank top (a - x.dist) := by
        have := HWW.out.cons hic htl (by rw [hhd, hto])
        rw [hli] at this
        have e : (lk.wt : Int) + (a - c) = a - x.dist := by omega
        rwa [e] at this
      have HW3 := Lib.hid hw3
      have HXD := Lib.hid hxd
      have HB3 := Lib.hid (HBL.out.trans (hb3.mono hz))
      have HN3 := Lib.hid (HN.out.below hb3)
      have hz3 := (HBL.out.trans (hb3.mono hz)).size
      clear hxd hi1 hi2 hlk hto hsum hic htl hhd hli hw3 hb3 hsee k0 k1 k2 k3 k4
      cases l with
      | nil =>
        obtain ⟨rfl, rfl⟩ := HNI.out rfl
        rw [List.length_nil]
        have hfr := Nats.fresh w3 [i] (by simp)
        have hb4 := HB3.out.alloc hz3 (.cells #[.int .i64 i] 3)
        have HFR := Lib.hid (hfr.mono (show w2.heap.size ≤ w3.heap.size from hz3))
        have HB4 := Lib.hid hb4
        clear hfr hb4
        go_wp2_with fail
        go_roundg x.rank
        case measure => rw [HG.out]; exact hxq
        case rel => exact ⟨x.rank, x.dist, [i], some ⟨w3.heap.size, 0, none⟩, 1, rfl, rfl, HXD.out, HW3.out, by simp at hlen ⊢; omega, rfl, by simp, HFR.out, HB4.out⟩
      | cons y l =>
        obtain ⟨g2, cap2, e2, hg2, hg2s, hcell⟩ := HN3.out.block (by simp)
        simp only [Value.slice.injEq] at e2
        obtain ⟨rfl, -, rfl⟩ := e2
        have hfr := Nats.fresh w3 [i] (by simp)
        have HFR := Lib.hid (hfr.mono (show w2.heap.size ≤ w3.heap.size from hz3))
        have HCE := Lib.hid hcell
        have hll : (y :: l).length ≤ 65536 := by omega
        clear hfr hcell
        obtain ⟨m, hm⟩ : ∃ m, (y :: l).length = m := ⟨_, rfl⟩
        rw [hm] at hll ⊢
        have HM := Lib.hid hm
        clear hm
        go_wp2_with (at_builtin; refine wpList_app _ rfl _ _ 28 rfl 3 (.int .i64 0) 1 8 Tryz.underlying28 Tryz.infoInt rfl (by decide) (.slice (some ⟨w3.heap.size, 0, none⟩) 1 1) 1 (i64Cells i) rfl ?own ⟨g2, 0, none⟩ m cap ((y :: l).flatMap i64Cells) rfl ?cl ?c1 ?c2 ?c3 ?c4 ?_)
        case own => exact HFR.out.own
        case cl => rw [flat_length i64Cells_len, HM.out]
        case c1 =>
          intro j u hu
          have hu' : (List.flatMap i64Cells (y :: l))[j]? = some u := hu
          have hg := flat_get i64Cells_len (y :: l) j 0 (by decide)
          rw [Nat.mul_one, Nat.add_zero] at hg
          rw [hg, Option.bind_eq_some_iff] at hu'
          obtain ⟨z, hz1, hz2⟩ := hu'
          simp only [i64Cells, List.getElem?_cons_zero, Option.some.injEq] at hz2
          subst hz2
          have h1 := ck ((Below.refl w3.heap.size w3).alloc (Nat.le_refl _) (.cells #[.int .i64 i] 3)) (HCE.out j z hz1)
          have e : (⟨g2, 0, none⟩ : Addr).add j = ⟨g2, j, none⟩ := by unfold Addr.add; split <;> simp_all
          rw [e]
          exact h1
        case c2 =>
          intro u hu
          rw [List.mem_flatMap] at hu
          obtain ⟨z, -, hz⟩ := hu
          simp only [i64Cells, List.mem_singleton] at hz
          subst hz
          rfl
        case c3 => unfold maxLen; omega
        case c4 => omega
        intro ao5 cap5 w5 hown5 ho5 hk5
        have hbw := HB3.out.alloc hz3 (.cells #[.int .i64 i] 3)
        have hn5 : Nats w2.heap.size w5 (.slice ao5 (1 + m) cap5) ([i] ++ (y :: l)) := HFR.out.app (y :: l) HM.out (ao := ao5) (cap := cap5) (w5 := w5) hown5 (by simpa using hk5) (by simp; omega)
        have hbl5 : Below w2.heap.size w2 w5 := hbw.trans (ho5.below hbw.size (fun q hq => HFR.out.new q (own_mem hq)))
        have hlen5 : (i :: y :: l).length = 1 + m := by rw [List.length_cons, HM.out]; omega
        have HN5 := Lib.hid hn5
        have HB5 := Lib.hid hbl5
        have HL5 := Lib.hid hlen5
        have hlen6 : (i :: y :: l).length + x.rank ≤ top := by rw [hlen5]; have := HM.out; omega
        have HL6 := Lib.hid hlen6
        clear hown5 ho5 hk5 hbw hn5 hbl5 hlen5 hlen6 hlen
        go_wp2_with fail
        go_roundg x.rank
        case measure => rw [HG.out]; exact hxq
        case rel => exact ⟨x.rank, x.dist, i :: y :: l, ao5, cap5, rfl, rfl, HXD.out, HW3.out, HL6.out, by rw [HL5.out], by simp, by rw [HL5.out]; exact HN5.out, HB5.out⟩
def stepOf (h : HierD) (x : Nat) : Nat × Nat := (nodeAt h (endAt h x).tail, nodeAt h (endAt h x).head)
theorem nodesL_cons (h : HierD) (x : Nat) (l : List Nat) : nodesL h (x :: l) = nodeAt h (endAt h x).tail :: (x :: l).map fun y => nodeAt h (endAt h y).head := rfl
theorem nodesL_steps {h : HierD} : ∀ (l : List Nat) (s t : Nat), Chain h l s t → l ≠ [] → steps (nodesL h l) = l.map (stepOf h) ∧ (nodesL h l).head? = some (nodeAt h s) ∧ (nodesL h l).getLast? = some (nodeAt h t) := by
  intro l
  induction l with
  | nil => intro s t _ h; exact absurd rfl h
  | cons x l ih =>
    intro s t hc _
    obtain ⟨h1, h2⟩ := hc
    cases l with
    | nil =>
      have e : (endAt h x).head = t := h2
      subst h1 e
      exact ⟨rfl, rfl, rfl⟩
    | cons y l =>
      obtain ⟨i1, i2, i3⟩ := ih _ _ h2 (by simp)
      have hy : (endAt h y).tail = (endAt h x).head := h2.1
      have e1 : nodesL h (x :: y :: l) = nodeAt h (endAt h x).tail :: nodesL h (y :: l) := by
        rw [nodesL_cons, nodesL_cons, List.map_cons, hy]
      refine ⟨?_, by rw [e1, h1]; rfl, by rw [e1, List.getLast?_cons, i3]; rfl⟩
      rw [e1, List.map_cons, ← i1]
      rw [nodesL_cons, hy]
      rfl
theorem stack_chain {h : HierD} (hc : checkErr h = .nil) : ∀ (l : List Nat) (s t : Nat), (∀ x ∈ l, x < cntOf h) → Chain h l s t → Chain h (stackOut h l) s t := by
  intro l
  induction l with
  | nil => intro s t _ h; exact h
  | cons x l ih =>
    intro s t hl hch
    unfold stackOut
    rw [List.flatMap_cons]
    obtain ⟨h1, h2⟩ := hch
    have := laysOf_chain hc x (hl x (by simp))
    rw [h1] at this
    exact this.app (ih _ _ (fun y hy => hl y (by simp [hy])) h2)
theorem stack_wt {h : HierD} (hc : checkErr h = .nil) : ∀ (l : List Nat), (∀ x ∈ l, x < cntOf h) → ((stackOut h l).map fun x => (linkAt h x).wt).sum = (l.map fun x => (linkAt h x).wt).sum := by
  intro l
  induction l with
  | nil => intro _; rfl
  | cons x l ih =>
    intro hl
    have := ih (fun y hy => hl y (by simp [hy]))
    unfold stackOut at this ⊢
    rw [List.flatMap_cons, List.map_append, List.sum_append, laysOf_wt hc x (hl x (by simp)), this, List.map_cons, List.sum_cons]
theorem stack_mem {h : HierD} (hc : checkErr h = .nil) {l : List Nat} (hl : ∀ x ∈ l, x < cntOf h) : ∀ y ∈ stackOut h l, y < cntOf h ∧ (linkAt h y).plain = true := by
  intro y hy
  unfold stackOut at hy
  rw [List.mem_flatMap] at hy
  obtain ⟨x, hx, h1⟩ := hy
  exact laysOf_mem hc x (hl x hx) y h1
theorem stack_ne {h : HierD} (hc : checkErr h = .nil) {l : List Nat} (hl : ∀ x ∈ l, x < cntOf h) (hn : l ≠ []) : stackOut h l ≠ [] := by
  cases l with
  | nil => exact absurd rfl hn
  | cons x l =>
    unfold stackOut
    rw [List.flatMap_cons]
    have := laysOf_pos hc x (hl x (by simp))
    intro e
    rw [List.append_eq_nil_iff] at e
    rw [e.1] at this
    simp at this
structure PathIs (h : HierD) (s t : Nat) (d : Int) (p : List Nat) : Prop where
  head : p.head? = some s
  last : p.getLast? = some t
  nodup : p.Nodup
  links : ∃ ls : List Nat, (∀ x ∈ ls, x < cntOf h ∧ (linkAt h x).plain = true) ∧ steps p = ls.map (stepOf h) ∧ ((((ls.map fun x => (linkAt h x).wt).sum : Nat) : Int)) ≤ d
theorem PathIs.one (h : HierD) (s : Nat) {d : Int} (hd : 0 ≤ d) : PathIs h s s d [s] := ⟨rfl, rfl, by simp, [], by simp, rfl, by simpa using hd⟩
theorem PathIs.simple {h : HierD} {ls : List Nat} {s t : Nat} {d : Int} (hl : ∀ x ∈ ls, x < cntOf h ∧ (linkAt h x).plain = true) (hc : Chain h ls s t) (hn : ls ≠ []) (hd : ((((ls.map fun x => (linkAt h x).wt).sum : Nat) : Int)) ≤ d) :
    PathIs h (nodeAt h s) (nodeAt h t) d (simpleL [] (nodesL h ls)) := by
  obtain ⟨h1, h2, h3⟩ := nodesL_steps ls s t hc hn
  refine ⟨by rw [simpleL_head]; exact h2, by rw [simpleL_last]; exact h3, simpleL_nodup _ _ (by simp), ?_⟩
  have hsub := simpleL_steps (nodesL h ls) []
  rw [List.nil_append, h1, List.sublist_map_iff] at hsub
  obtain ⟨ls', hs, e⟩ := hsub
  refine ⟨ls', fun x hx => hl x (hs.subset hx), e, ?_⟩
  have := sum_sublist (hs.map fun x => (linkAt h x).wt)
  omega
theorem nodeAt_idx {h : HierD} {v : Nat} (hv : v ∈ h.node) : nodeAt h (h.node.idxOf v) = v := by
  have hi := List.idxOf_lt_length_of_mem hv
  unfold nodeAt
  rw [List.getD_eq_getElem?_getD, List.getElem?_eq_getElem hi, Option.getD_some, List.getElem_idxOf hi]
theorem nodes_bnd {h : HierD} (hc : checkErr h = .nil) (l : List Nat) (hl : ∀ x ∈ l, x < cntOf h) (hb : ∀ x ∈ h.node, x < 4294967296) : ∀ v ∈ nodesL h l, v < 4294967296 := by
  have key : ∀ r, r < h.node.length → nodeAt h r < 4294967296 := fun r hr => by
    unfold nodeAt
    rw [List.getD_eq_getElem?_getD, List.getElem?_eq_getElem hr]
    exact hb _ (List.getElem_mem hr)
  intro v hv
  cases l with
  | nil => simp [nodesL] at hv
  | cons x l =>
    unfold nodesL at hv
    rcases List.mem_cons.1 hv with rfl | hv
    · exact key _ (end_cases hc (hl x (by simp))).2.1
    · obtain ⟨y, hy, rfl⟩ := List.mem_map.1 hv
      exact key _ (end_cases hc (hl y hy)).2.2
end Go.Proofs.YtchhbgckonpedaaGreatDoor
namespace Go.Proofs.YtchhbgckonpedaaGreatDoor
open Go.RowKit Go.Extern.Stop Go.Stop Go.Extern
theorem run_equalIn_num {P : Program} (w : World) (d : Nat) {ti tn : TypeId} {ms : Array (String × TypeId)} {i : TypeInfo} {k : IntKind} (a b : Int)
    (hi : P.underlying ti = some (.interface ms)) (hn : P.underlying tn = some (.int k)) (hinfo : P.info? tn = some i) (hcomp : i.comparable = true) :
    (Op.equalIn (d + 2) ti (.iface tn (.int k a)) (.iface tn (.int k b))).run P w = .ok (a == b) w := by
  simp [Op.equalIn, run_underlying hi, run_underlying hn, typeInfo, hinfo, hcomp]
theorem run_eql_num {P : Program} (w : World) {ti tn : TypeId} {ms : Array (String × TypeId)} {i : TypeInfo} {k : IntKind} (a b : Int)
    (hi : P.underlying ti = some (.interface ms)) (hn : P.underlying tn = some (.int k)) (hinfo : P.info? tn = some i) (hcomp : i.comparable = true) :
    (binOp .eql ti (.iface tn (.int k a)) (.iface tn (.int k b))).run P w = .ok (.bool (a == b)) w := by
  simp only [binOp]
  simp [Op.equal, Op.maxDepth, run_equalIn_num w 9998 a b hi hn hinfo hcomp]
theorem Tryz.errCmp : (Tryz.prog.info? 61).map (·.comparable) = some true := by kernel_rfl
theorem Tryz.eqlErrno (a b : Int) (w : World) : (binOp .eql 30 (.iface 61 (.int .i64 a)) (.iface 61 (.int .i64 b))).run Tryz.prog w = .ok (.bool (a == b)) w := by
  obtain ⟨i, hi, hc⟩ := Option.map_eq_some_iff.1 Tryz.errCmp
  exact run_eql_num w a b Tryz.underlying30 Tryz.underlying61 hi hc
theorem Tryz.eqlFault (g : Option Addr) (b : Int) (w : World) : (binOp .eql 30 (.iface 84 (.pointer g)) (.iface 61 (.int .i64 b))).run Tryz.prog w = .ok (.bool false) w :=
  run_eql_iface_types (P := Tryz.prog) 84 61 (.pointer g) (.int .i64 b) Tryz.underlying30 (by decide) w
theorem Tryz.typeOfErrno (v : Value) (w : World) : (ReflectliteType.typeOf #[.iface 61 v]).run Tryz.prog w = .ok (.iface 166 (.agg #[.pointer (some ⟨1, 61, none⟩)])) w := by kernel_rfl
theorem Tryz.comparableErrno (w : World) : ((ReflectliteType.method fun t => do Rtype.noPackHeld "Comparable" t; (fun a => Value.bool a.comparable) <$> typeInfo t) #[.agg #[.pointer (some ⟨1, 61, none⟩)]]).run Tryz.prog w = .ok (.bool true) w := by kernel_rfl
theorem Tryz.noIsErrno (v : Value) (xT : TypeId) (w : World) : (Instr.typeAssert (.iface 61 v) xT 178 true).run Tryz.prog w = .ok (.tuple #[.nilIface, .bool false]) w := run_typeAssert_lacksB Tryz.underlying178 (by kernel_rfl) (by kernel_rfl) v xT w
theorem Tryz.noUnwrapErrno (v : Value) (xT : TypeId) (w : World) : (Instr.typeAssert (.iface 61 v) xT 173 true).run Tryz.prog w = .ok (.tuple #[.nilIface, .bool false]) w := run_typeAssert_lacksB Tryz.underlying173 (by kernel_rfl) (by kernel_rfl) v xT w
theorem Tryz.noUnwrapsErrno (v : Value) (xT : TypeId) (w : World) : (Instr.typeAssert (.iface 61 v) xT 175 true).run Tryz.prog w = .ok (.tuple #[.nilIface, .bool false]) w := run_typeAssert_lacksB Tryz.underlying175 (by kernel_rfl) (by kernel_rfl) v xT w
theorem Tryz.noIsFault (v : Value) (xT : TypeId) (w : World) : (Instr.typeAssert (.iface 84 v) xT 178 true).run Tryz.prog w = .ok (.tuple #[.nilIface, .bool false]) w := run_typeAssert_lacksB Tryz.underlying178 (by kernel_rfl) (by kernel_rfl) v xT w
theorem Tryz.hasUnwrapFault (v : Value) (xT : TypeId) (w : World) : (Instr.typeAssert (.iface 84 v) xT 173 true).run Tryz.prog w = .ok (.tuple #[.iface 84 v, .bool true]) w := run_typeAssert_hasB Tryz.underlying173 (by kernel_rfl) v xT w
set_option maxRecDepth 100000 in
theorem is_errno (n m : Int) (w : World) : Calls Tryz.prog 41 #[.iface 61 (.int .i64 n), .iface 61 (.int .i64 m)] w fun e w' => e = .returned (.bool (n == m)) ∧ w' = w := by
  have h8 := fun (args : Array Value) (W : World) => run_callFunc_extern (P := Tryz.prog) (f := 66) (e := ReflectliteType.typeOf) Tryz.func66 (by kernel_rfl) (by kernel_rfl) (by kernel_rfl) (by kernel_rfl) args W
  have h32 := fun (args : Array Value) (W : World) => run_callFunc_extern (P := Tryz.prog) (f := 180) (e := ReflectliteType.method fun t => do Rtype.noPackHeld "Comparable" t; pure (.bool (← typeInfo t).comparable)) Tryz.func180 (by kernel_rfl) (by kernel_rfl) (by kernel_rfl) (by kernel_rfl) args W
  have tT := Tryz.typeOfErrno
  have cT := Tryz.comparableErrno
  have heq := Tryz.eqlErrno n m
  have nE := Tryz.noIsErrno
  have uE := Tryz.noUnwrapErrno
  have vE := Tryz.noUnwrapsErrno
  have hd : ((n == m) = true) ∨ ((n == m) = false) := by cases n == m <;> simp
  rcases hd with hd | hd
  all_goals
    rw [hd]
    go_enter Tryz.func41, Tryz.ntmps41
    go_wp2
    refine wp_loop_rounds 1 ?_
    rw [rounds_succ]
    go_wp2
    go_returns
    exact ⟨rfl, rfl⟩
set_option maxRecDepth 100000 in
theorem is_fault (g : Nat) (n m : Int) (w : World) (hg : w.cell? ⟨g, 2, none⟩ = some (.iface 61 (.int .i64 n))) :
    Calls Tryz.prog 41 #[.iface 84 (.pointer (some ⟨g, 0, none⟩)), .iface 61 (.int .i64 m)] w fun e w' => e = .returned (.bool (n == m)) ∧ w' = w := by
  have h8 := fun (args : Array Value) (W : World) => run_callFunc_extern (P := Tryz.prog) (f := 66) (e := ReflectliteType.typeOf) Tryz.func66 (by kernel_rfl) (by kernel_rfl) (by kernel_rfl) (by kernel_rfl) args W
  have h32 := fun (args : Array Value) (W : World) => run_callFunc_extern (P := Tryz.prog) (f := 180) (e := ReflectliteType.method fun t => do Rtype.noPackHeld "Comparable" t; pure (.bool (← typeInfo t).comparable)) Tryz.func180 (by kernel_rfl) (by kernel_rfl) (by kernel_rfl) (by kernel_rfl) args W
  have tT := Tryz.typeOfErrno
  have cT := Tryz.comparableErrno
  have heq := Tryz.eqlErrno n m
  have hne := Tryz.eqlFault (some ⟨g, 0, none⟩) m
  have nE := Tryz.noIsErrno
  have uE := Tryz.noUnwrapErrno
  have vE := Tryz.noUnwrapsErrno
  have nF := Tryz.noIsFault
  have uF := Tryz.hasUnwrapFault
  have hd : ((n == m) = true) ∨ ((n == m) = false) := by cases n == m <;> simp
  rcases hd with hd | hd
  all_goals
    rw [hd]
    go_enter Tryz.func41, Tryz.ntmps41
    go_wp2
    refine wp_loop_rounds 2 ?_
    rw [rounds_succ]
    go_wp2
    rw [rounds_succ]
    go_wp2
    go_returns
    exact ⟨rfl, rfl⟩
end Go.Proofs.YtchhbgckonpedaaGreatDoor
