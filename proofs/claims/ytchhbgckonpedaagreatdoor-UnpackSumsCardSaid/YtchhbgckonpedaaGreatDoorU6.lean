/- The law UnpackSums: its walk. -/
import Derived.Test.YtchhbgckonpedaaGreatDoorU5
namespace Go.Proofs.YtchhbgckonpedaaGreatDoor
open Go.ChangeShapes Go.WideShapes Go.ChangeAt Go.RowKit Go.Joins Go.Deep

set_option maxRecDepth 100000 in
theorem few22_any (A : HA) (h : HierD) (w : World) : Calls Tryz.prog 25 #[hierVal A h] w (BoolNew w) := by
  unfold hierVal
  go_enter Tryz.func25, Tryz.ntmps25
  by_cases hd : h.node.length ≤ 14
  · have d1 : decide (h.node.length ≤ 14) = true := by simpa using hd
    have d2 : decide ((h.node.length : Int) ≤ 14) = true := by simp; omega
    clear hd
    go_wp2_with fail
    refine (count_any A h _).mono ?_
    rintro e w1 ⟨c, rfl, -, hb⟩
    have HB1 := Lib.hid (((Below.refl w.heap.size w).alloc (Nat.le_refl _) _).trans (hb.mono (by simp)))
    clear hb
    go_wp2
    go_returns
    exact ⟨_, rfl, HB1.out⟩
  · have d1 : decide (h.node.length ≤ 14) = false := by simpa using hd
    have d2 : decide ((h.node.length : Int) ≤ 14) = false := by simp; omega
    clear hd
    go_wp2
    go_returns
    exact ⟨_, rfl, by go_grown⟩
set_option maxRecDepth 100000 in
theorem same_no (n : Int) (w : World) (h1 : 1 ≤ n) (h2 : n ≤ 20) : Calls Tryz.prog 15 #[.nilIface, .agg #[.int .i64 n, .slice none 0 0]] w (BoolIs false w) := by
  go_enter Tryz.func15, Tryz.ntmps15
  go_wp2_with fail
  refine (bad_any _ (.code n) _ rfl ⟨h1, h2⟩).mono ?_
  rintro e w1 ⟨he, hb⟩
  have he' : e = .returned (.bool true) := he
  subst he'
  have HB := Lib.hid (((Below.refl w.heap.size w).alloc (Nat.le_refl _) _).trans (hb.mono (by simp)))
  clear hb he
  go_wp2
  go_returns
  exact ⟨rfl, HB.out⟩

/-- What Links and Nodes answer of a link of a hierarchy in form. -/
theorem links_of {h : HierD} (hc : checkErr h = .nil) {i : Nat} (hi : i < cntOf h) : (linksRes h (i : Int) = ([], .code 2) ∧ nodesRes h (i : Int) = ([], .code 2)) ∨
    ((laysOf h i).length ≤ 131072 ∧ linksRes h (i : Int) = (laysOf h i, .nil) ∧ nodesRes h (i : Int) = (nodesL h (laysOf h i), .nil)) := by
  have e : linksRes h (i : Int) = layRes h [i] := by unfold linksRes; rw [if_pos hc, if_neg (by omega)]; rfl
  have e2 : stackOut h [i] = laysOf h i := by simp [stackOut]
  by_cases hl : (laysOf h i).length ≤ 131072
  · refine .inr ⟨hl, ?_, ?_⟩
    · rw [e]; unfold layRes; rw [e2, if_pos hl]
    · unfold nodesRes; rw [e]; unfold layRes; rw [e2, if_pos hl, if_pos rfl]
  · refine .inl ⟨?_, ?_⟩
    · rw [e]; unfold layRes; rw [e2, if_neg hl]
    · unfold nodesRes; rw [e]; unfold layRes; rw [e2, if_neg hl, if_neg (by simp)]
theorem chain_get {h : HierD} : ∀ (l : List Nat) (s t : Nat), Chain h l s t → ∀ (k y : Nat), l[k]? = some y → (nodesL h l)[k]? = some (nodeAt h (endAt h y).tail) ∧ (nodesL h l)[k + 1]? = some (nodeAt h (endAt h y).head) ∧ (k = 0 → (endAt h y).tail = s) ∧ (∀ z, l[k + 1]? = some z → (endAt h z).tail = (endAt h y).head) ∧ (k + 1 = l.length → (endAt h y).head = t) := by
  intro l
  induction l with
  | nil => intro s t _ k y h; simp at h
  | cons x l ih =>
    intro s t hc k y hy
    obtain ⟨h1, h2⟩ := hc
    cases k with
    | zero =>
      simp only [List.getElem?_cons_zero, Option.some.injEq] at hy
      subst hy
      refine ⟨rfl, rfl, fun _ => h1, fun z hz => ?_, fun hl => ?_⟩
      · cases l with
        | nil => simp at hz
        | cons a l =>
          simp at hz
          subst hz
          exact h2.1
      · simp at hl
        subst hl
        exact h2
    | succ k =>
      simp only [List.getElem?_cons_succ] at hy
      cases l with
      | nil => simp at hy
      | cons a l =>
        obtain ⟨i1, i2, i3, i4, i5⟩ := ih _ _ h2 k y hy
        have e : nodesL h (x :: a :: l) = nodeAt h (endAt h x).tail :: nodesL h (a :: l) := by
          rw [nodesL_cons, nodesL_cons, List.map_cons, h2.1]
        refine ⟨by rw [e]; exact i1, by rw [e]; exact i2, fun h => by omega, fun z hz => i4 z (by simpa using hz), fun hl => i5 (by simp at hl ⊢; omega)⟩
theorem prefix_sum (f : Nat → Nat) (l : List Nat) (k : Nat) : ((l.take k).map f).sum ≤ (l.map f).sum := sum_sublist ((List.take_sublist k l).map f)
/-- What is known of a link and its list. -/
structure SumI (h : HierD) (i : Nat) (L : List Nat) : Prop where
  len : 0 < L.length ∧ L.length ≤ 131072
  lt : ∀ y ∈ L, y < cntOf h ∧ (linkAt h y).plain = true
  chain : Chain h L (endAt h i).tail (endAt h i).head
  wt : (L.map fun x => (linkAt h x).wt).sum = (linkAt h i).wt
theorem sumI {h : HierD} (hc : checkErr h = .nil) {i : Nat} (hi : i < cntOf h) (hl : (laysOf h i).length ≤ 131072) : SumI h i (laysOf h i) :=
  ⟨⟨laysOf_pos hc i hi, hl⟩, laysOf_mem hc i hi, laysOf_chain hc i hi, laysOf_wt hc i hi⟩
theorem wt_small {h : HierD} (hc : checkErr h = .nil) {i : Nat} (hi : i < cntOf h) : (linkAt h i).wt ≤ 140737488355328 := by
  obtain ⟨f, -, -, -, hg⟩ := checkErr_parts hc
  have hn := cnt_ends hc
  have mi : endAt h i ∈ endsOf h := by
    unfold endAt
    rw [List.getD_eq_getElem?_getD, List.getElem?_eq_getElem (by omega), Option.getD_some]
    exact List.getElem_mem _
  have := (end_facts hg _ mi).2.2
  rwa [endAt_link hc hi] at this

theorem rlink_lit22 (A : HA) (h : HierD) (i b o : Nat) (w : World) (ea : A.a0 = some ⟨b, o, none⟩) (see : HSee w A h) (hi : i < h.up.length + h.dn.length) (hd63 : h.dn.length ≤ 1048576) :
    Calls Tryz.prog 29 #[.agg #[.slice (some ⟨b, o, none⟩) h.node.length A.c0, .slice A.a1 h.upF.length A.c1, .slice A.a2 h.up.length A.c2, .slice A.a3 h.dnF.length A.c3, .slice A.a4 h.dn.length A.c4], .int .i64 i] w (LinkIs (linkAt h i) w) := by
  rw [← ea]
  exact rlink_any A h i w see hi hd63
set_option linter.unusedSimpArgs false in
set_option maxRecDepth 100000 in
set_option maxHeartbeats 8000000 in
theorem unpackSums_any (A : HA) (h : HierD) (w : World) (hg : EVar w) (see : HSee w A h) (hr : Reach5 h) :
    Calls Tryz.prog 5 #[hierVal A h] w (BoolIs true w) := by
  have hk1 : h.up.length ≤ 140737488355328 := by have := hr.up; omega
  have hk2 : h.dn.length ≤ 140737488355328 := by have := hr.dn; omega
  have hn64 : h.node.length ≤ 140737488355328 := by have := hr.n; omega
  have hk : h.up.length + h.dn.length ≤ 281474976710656 := by omega
  have HG := Lib.hid hg
  have SEE := Lib.hid see
  have K0 := Lib.hid (UX.mk (A := A) (h := h) (w := w) (Cells.new w 25 (hierCells A h)) ((Below.refl w.heap.size w).alloc (Nat.le_refl _) (.cells (hierCells A h).toArray 25)))
  clear hg see hr
  unfold hierVal
  go_enter Tryz.func5, Tryz.ntmps5
  go_wp2_with fail
  refine (awake22_any _).mono ?_
  rintro e w1 ⟨rfl, hb⟩
  have K1 := Lib.hid (K0.out.below hb)
  obtain ⟨k0, k1, k2, k3, k4⟩ := hier_five K1.out.x
  clear hb K0
  go_wp2_with fail
  refine (rdoccheck_any A h _ (SEE.out.below K1.out.b) hk1 hk2 hn64).mono ?_
  rintro e w2 ⟨v, rfl, hv, hb⟩
  obtain ⟨uc, ua, un, ucap, rfl⟩ := hv.form
  have ho := (Below.refl w2.heap.size w2).alloc (Nat.le_refl _) (.cells #[.int .i64 uc, .slice ua un ucap] 36)
  have K2 := Lib.hid ((K1.out.below hb).below ho)
  have F2 := Lib.hid (UF.mk (Cells.new w2 36 [.int .i64 uc, .slice ua un ucap]) (hv.below ho))
  obtain ⟨be, hbe⟩ : ∃ be, w2.heap.size = be := ⟨_, rfl⟩
  rw [hbe] at F2
  obtain ⟨wz, hwz⟩ : ∃ wz, w2.alloc (.cells #[.int .i64 uc, .slice ua un ucap] 36) = wz := ⟨_, rfl⟩
  rw [hwz] at K2 F2
  clear hb ho hv K1 k0 k1 k2 k3 k4
  obtain ⟨k0, k1, k2, k3, k4⟩ := hier_five K2.out.x
  go_wp2_with fail
  try rw [hwz]
  try rw [hbe]
  refine (few22_any A h _).mono ?_
  rintro e w3 ⟨b, rfl, hb⟩
  have K3 := Lib.hid (K2.out.below hb)
  have F3 := Lib.hid (F2.out.below hb)
  have y0 : w3.cell? ⟨be, 0, none⟩ = some (.int .i64 uc) := F3.out.f.cell rfl
  have y1 : w3.cell? ⟨be, 1, none⟩ = some (.slice ua un ucap) := F3.out.f.cell rfl
  clear hb hbe hwz K2 F2 k0 k1 k2 k3 k4
  cases b
  case false =>
    go_wp2
    go_returns
    exact ⟨rfl, K3.out.b⟩
  case true =>
    go_wp2_with fail
    refine (bad_any _ (checkErr h) _ F3.out.v (checkErr_pos h)).mono ?_
    rintro e w4 ⟨rfl, hb⟩
    have K4 := Lib.hid (K3.out.below hb)
    clear hb y0 y1 K3 F3
    by_cases hc : checkErr h = .nil
    case neg =>
      have hnil : (checkErr h).isNil = false := by cases hh : (checkErr h).isNil with
        | true => exact absurd (EV.isNil_iff.1 hh) hc
        | false => rfl
      rw [hnil]
      go_wp2
      go_returns
      exact ⟨rfl, K4.out.b⟩
    case pos =>
      rw [hc]
      dsimp only [EV.isNil, Bool.not_true]
      obtain ⟨k0, k1, k2, k3, k4⟩ := hier_five K4.out.x
      have htot := cnt_small hc hk
      have htot2 : h.up.length + h.dn.length ≤ 1048576 := htot
      obtain ⟨u, d⟩ := parts_firsts hc
      have hn := (checkErr_parts hc).1.n
      have hd63 : h.dn.length ≤ 1048576 := by omega
      have HC := Lib.hid hc
      have HU := Lib.hid u
      have HD := Lib.hid d
      have HEL := Lib.hid (cnt_ends hc)
      clear hc u d
      go_wp2_with fail
      refine (arcs_any A h _ (SEE.out.below K4.out.b) HU.out HD.out hn htot2).mono ?_
      rintro e w5 ⟨aa, ac, rfl, sa, -, hb⟩
      have K5 := Lib.hid (K4.out.below hb)
      have SA := Lib.hid sa
      rw [HEL.out]
      clear hb sa K4 k0 k1 k2 k3 k4
      go_wp2_with fail
      go_loopg [30] (cntOf h) (fun g vi wr => ∃ i : Nat, vi = .int .i64 (i : Int) ∧ i ≤ cntOf h ∧ g = cntOf h - i ∧ Below w5.heap.size w5 wr)
      case atStart => exact ⟨0, rfl, Nat.zero_le _, rfl, Below.refl _ _⟩
      case round =>
        obtain ⟨i, rfl, hi, hgi, hbl⟩ := hrel
        obtain ⟨wo, rfl⟩ : ∃ wo : World, wo = wr := ⟨_, rfl⟩
        have HGI := Lib.hid hgi
        have KO := Lib.hid (K5.out.below hbl)
        have SO := Lib.hid (SA.out.below hbl)
        have HBO := Lib.hid hbl
        clear hgi hbl
        by_cases hil : i < cntOf h
        case neg =>
          obtain rfl : i = cntOf h := by omega
          go_wp2
          go_returns
          exact ⟨rfl, KO.out.b⟩
        case pos =>
          have hea : (endsOf h)[i]? = some (endAt h i) := by
            have : i < (endsOf h).length := by rw [HEL.out]; exact hil
            unfold endAt
            rw [List.getD_eq_getElem?_getD, List.getElem?_eq_getElem this]
            rfl
          obtain ⟨X, hX⟩ : ∃ X, endAt h i = X := ⟨_, rfl⟩
          rw [hX] at hea
          obtain ⟨b1, o1, ea, cc⟩ := SO.out.cell i X hea
          have e0 := cc 0 _ rfl
          have e1 := cc 1 _ rfl
          have e2 := cc 2 _ rfl
          rw [Nat.add_zero] at e0
          have lb := block_lt e0
          have EA := Lib.hid ea
          have HX := Lib.hid hX
          obtain ⟨wq, hwq⟩ : ∃ wq, wo.alloc (.cells #[.int .i64 X.tail, .int .i64 X.head, .int .i64 X.rank] 59) = wq := ⟨_, rfl⟩
          have hoo : Below wo.heap.size wo wq := by rw [← hwq]; exact (Below.refl _ _).alloc (Nat.le_refl _) _
          have hxb : Cells wq wo.heap.size 59 (rendCells X) := by rw [← hwq]; exact Cells.new wo _ _
          have KQ := Lib.hid (KO.out.below hoo)
          have HBQ := Lib.hid (HBO.out.trans (hoo.mono HBO.out.size))
          have XQ := Lib.hid hxb
          have HWQ := Lib.hid hwq
          obtain ⟨k0, k1, k2, k3, k4⟩ := hier_five KQ.out.x
          clear hea hX cc ea hwq hoo hxb
          rw [EA.out]
          go_upto_region 10 with fail
          try rw [HWQ.out]
          go_wp2_with fail
          refine (ulinks_any A h i _ (SEE.out.below KQ.out.b) hk (by omega)).mono ?_
          rintro e w6 ⟨la, lc, v6, rfl, hv, hln, hb⟩
          have K6 := Lib.hid (KQ.out.below hb)
          have B6 := Lib.hid (HBQ.out.trans (hb.mono HBQ.out.size))
          have X6 := Lib.hid (XQ.out.below hb XQ.out.lt)
          have V6 := Lib.hid hv
          have L6 := Lib.hid hln.see.1
          clear hb hv hln KQ HBQ XQ k0 k1 k2 k3 k4
          obtain ⟨k0, k1, k2, k3, k4⟩ := hier_five K6.out.x
          go_wp2_with fail
          refine (unodesOf_any A h i _ (SEE.out.below K6.out.b) hk (by omega)).mono ?_
          rintro e w7 ⟨ma, mc, v7, rfl, hv, hln, hb⟩
          have K7 := Lib.hid (K6.out.below hb)
          have B7 := Lib.hid (B6.out.trans (hb.mono B6.out.size))
          have X7 := Lib.hid (X6.out.below hb X6.out.lt)
          have V7 := Lib.hid (V6.out.below hb)
          have W7 := Lib.hid hv
          have L7 := Lib.hid (L6.out.below hb)
          have M7 := Lib.hid hln.see.1
          clear hb hv hln K6 B6 X6 V6 L6 k0 k1 k2 k3 k4
          go_wp2_with fail
          refine (e_any 2 _).mono ?_
          rintro e w8 ⟨ve, rfl, hv, hb⟩
          obtain rfl : ve = _ := hv
          have K8 := Lib.hid (K7.out.below hb)
          have B8 := Lib.hid (B7.out.trans (hb.mono B7.out.size))
          have X8 := Lib.hid (X7.out.below hb X7.out.lt)
          have V8 := Lib.hid (V7.out.below hb)
          have W8 := Lib.hid (W7.out.below hb)
          have L8 := Lib.hid (L7.out.below hb)
          have M8 := Lib.hid (M7.out.below hb)
          clear hb K7 B7 X7 V7 W7 L7 M7
          rcases links_of HC.out hil with ⟨h1, h2⟩ | ⟨hlen, h1, h2⟩
          · rw [h1] at V8 L8 ⊢
            rw [h2] at M8 W8 ⊢
            dsimp only at V8 L8 W8 M8 ⊢
            obtain rfl : v6 = errV 2 := V8.out
            go_wp2_with fail
            refine (same_any (.code 2) _ _ _ ⟨by decide, by decide⟩ (HG.out.below K8.out.b) rfl rfl).mono ?_
            rintro e w9 ⟨rfl, hb⟩
            have B9 := Lib.hid (B8.out.trans (hb.mono B8.out.size))
            clear hb
            go_wp2_with fail
            rw [← EA.out]
            go_roundg (cntOf h - (i + 1))
            case measure => rw [HGI.out]; omega
            case rel => exact ⟨i + 1, by go_num, by omega, rfl, B9.out⟩
          · rw [h1] at V8 L8 ⊢
            rw [h2] at M8 W8 ⊢
            dsimp only at V8 L8 W8 M8 ⊢
            obtain rfl := V8.out.nilv rfl
            obtain rfl := W8.out.nilv rfl
            have hsi := sumI HC.out hil hlen
            obtain ⟨L, hL⟩ : ∃ L, laysOf h i = L := ⟨_, rfl⟩
            rw [hL] at hsi L8 M8 ⊢
            have SI := Lib.hid hsi
            clear h1 h2 hL hsi hlen
            go_wp2_with fail
            refine (same_no 2 _ (by decide) (by decide)).mono ?_
            rintro e w9 ⟨rfl, hb⟩
            have K9 := Lib.hid (K8.out.below hb)
            have B9 := Lib.hid (B8.out.trans (hb.mono B8.out.size))
            have X9 := Lib.hid (X8.out.below hb X8.out.lt)
            have L9 := Lib.hid (L8.out.below hb)
            have M9 := Lib.hid (M8.out.below hb)
            clear hb K8 B8 X8 V8 W8 L8 M8
            obtain ⟨hl0, hl1⟩ := SI.out.len
            have hnn : (nodesL h L).length = L.length + 1 := by
              cases L with
              | nil => simp at hl0
              | cons a l => simp [nodesL]
            obtain ⟨b4, o4, rfl, -⟩ := L9.out.cell 0 (L[0]'hl0) (List.getElem?_eq_getElem hl0)
            have hec := end_cases HC.out hil
            rw [HX.out] at hec
            obtain ⟨-, hxt, hxh⟩ := hec
            obtain ⟨vt, hvt⟩ : ∃ v, h.node[X.tail]? = some v := ⟨_, List.getElem?_eq_getElem hxt⟩
            obtain ⟨vh, hvh⟩ : ∃ v, h.node[X.head]? = some v := ⟨_, List.getElem?_eq_getElem hxh⟩
            have hnt : nodeAt h X.tail = vt := by unfold nodeAt; rw [List.getD_eq_getElem?_getD, hvt]; rfl
            have hnh : nodeAt h X.head = vh := by unfold nodeAt; rw [List.getD_eq_getElem?_getD, hvh]; rfl
            have hm0 : (nodesL h L)[0]? = some vt := by
              obtain ⟨y, hy⟩ : ∃ y, L[0]? = some y := ⟨_, List.getElem?_eq_getElem hl0⟩
              obtain ⟨i1, -, i3, -, -⟩ := chain_get L _ _ SI.out.chain 0 y hy
              rw [i1, i3 rfl, HX.out, hnt]
            have hmn : (nodesL h L)[L.length]? = some vh := by
              obtain ⟨y, hy⟩ : ∃ y, L[L.length - 1]? = some y := ⟨_, List.getElem?_eq_getElem (by omega)⟩
              obtain ⟨-, i2, -, -, i5⟩ := chain_get L _ _ SI.out.chain _ y hy
              rw [show L.length - 1 + 1 = L.length by omega] at i2
              rw [i2, i5 (by omega), HX.out, hnh]
            have wvt : vt < 4294967296 := SEE.out.bn _ (List.mem_of_getElem? hvt)
            have wvh : vh < 4294967296 := SEE.out.bn _ (List.mem_of_getElem? hvh)
            have cvt := IntWalk.i64_in (vt : Int) (by omega)
            have cvh := IntWalk.i64_in (vh : Int) (by omega)
            obtain ⟨bn, on, ean, cn1⟩ := SEE.out.node.cell X.tail vt hvt
            obtain ⟨bn', on', ean', cn2⟩ := SEE.out.node.cell X.head vh hvh
            rw [ean] at ean'
            simp only [Option.some.injEq, Addr.mk.injEq, and_true] at ean'
            obtain ⟨rfl, rfl⟩ := ean'
            have ct := ck K9.out.b (cn1 0 _ rfl)
            have ch := ck K9.out.b (cn2 0 _ rfl)
            rw [Nat.mul_one, Nat.add_zero] at ct ch
            obtain ⟨bm, om, eam, cm1⟩ := M9.out.cell 0 vt hm0
            obtain ⟨bm', om', eam', cm2⟩ := M9.out.cell L.length vh hmn
            rw [eam] at eam'
            simp only [Option.some.injEq, Addr.mk.injEq, and_true] at eam'
            obtain ⟨rfl, rfl⟩ := eam'
            have m0 := cm1 0 _ rfl
            have mn := cm2 0 _ rfl
            simp only [Nat.zero_mul, Nat.mul_one, Nat.add_zero] at m0 mn
            have x0 : w9.cell? ⟨wo.heap.size, 0, none⟩ = some (.int .i64 X.tail) := X9.out.cell rfl
            have x1 : w9.cell? ⟨wo.heap.size, 1, none⟩ = some (.int .i64 X.head) := X9.out.cell rfl
            have lx := X9.out.lt
            have lbn := block_lt ct
            have lbm := block_lt m0
            obtain ⟨k0, -, -, -, -⟩ := hier_five K9.out.x
            rw [ean] at k0
            obtain ⟨n, hLn⟩ : ∃ n, L.length = n := ⟨_, rfl⟩
            rw [hnn, hLn]
            rw [hLn] at hl0 hl1 mn
            have dz : ((n : Int) == 0) = false := by simp; omega
            have dg : decide (131072 < n) = false := by simp; omega
            have dg2 : decide ((131072 : Int) < (n : Int)) = false := by simp; omega
            have t0 : ((vt : Int) != (vt : Int)) = false := by simp
            have t1 : ((vh : Int) != (vh : Int)) = false := by simp
            have EAM := Lib.hid eam
            have EAN := Lib.hid ean
            have HLN := Lib.hid hLn
            have HNN := Lib.hid hnn
            rw [EAM.out]
            clear hnn hvt hvh hnt hnh hm0 hmn cn1 cn2 cm1 cm2 eam ean hLn
            by_cases h100 : 100 < n
            · have d100 : decide (100 < n) = true := by simpa using h100
              have d101 : decide ((100 : Int) < (n : Int)) = true := by simp; omega
              go_upto_region 13 with fail
              go_quiet (fail)
              go_wp2_with fail
              rw [← EA.out]
              go_roundg (cntOf h - (i + 1))
              case measure => rw [HGI.out]; omega
              case rel => exact ⟨i + 1, by go_num, by omega, rfl, below_drewN B9.out _⟩
            · have d100 : decide (100 < n) = false := by simpa using h100
              have d101 : decide ((100 : Int) < (n : Int)) = false := by simp; omega
              go_upto_region 13 with fail
              go_quiet (fail)
              obtain ⟨wz, hwz⟩ : ∃ wz : World, w9.drewN nq = wz := ⟨_, rfl⟩
              rw [hwz]
              have hzz : Below w9.heap.size w9 wz := by rw [← hwz]; exact below_drewN (Below.refl _ _) _
              have KZ := Lib.hid (K9.out.below hzz)
              have BZ := Lib.hid (B9.out.trans (hzz.mono B9.out.size))
              have XZ := Lib.hid (X9.out.below hzz X9.out.lt)
              have LZ := Lib.hid (L9.out.below hzz)
              have MZ := Lib.hid (M9.out.below hzz)
              have z0 : wz.cell? ⟨wo.heap.size, 0, none⟩ = some (.int .i64 X.tail) := XZ.out.cell rfl
              have lz := XZ.out.lt
              clear hwz hzz K9 B9 X9 L9 M9 x0 x1 ct ch m0 mn k0 lx lbn lbm
              go_wp2_with fail
              go_quiet (fail)
              obtain ⟨wy, hwy⟩ : ∃ wy : World, wz.drewN nq = wy := ⟨_, rfl⟩
              rw [hwy]
              have hyy : Below wz.heap.size wz wy := by rw [← hwy]; exact below_drewN (Below.refl _ _) _
              have KY := Lib.hid (KZ.out.below hyy)
              have BY := Lib.hid (BZ.out.trans (hyy.mono BZ.out.size))
              have LY := Lib.hid (LZ.out.below hyy)
              have MY := Lib.hid (MZ.out.below hyy)
              have hsum0 := wt_small HC.out hil
              have HS0 := Lib.hid SI.out.wt
              clear hwy hyy KZ BZ XZ LZ MZ z0 lz
              go_wp2_with fail
              go_loopg [11, 12, 109] n (fun g vs va vi wr => ∃ (k sm at_ : Nat), vi = .int .i64 (k : Int) ∧ vs = .int .u64 (sm : Int) ∧ va = .int .i64 (at_ : Int) ∧ k ≤ n ∧ g = n - k ∧ sm = ((L.take k).map fun x => (linkAt h x).wt).sum ∧ (∀ y, L[k]? = some y → (endAt h y).tail = at_) ∧ Below wy.heap.size wy wr)
              case atStart =>
                refine ⟨0, 0, X.tail, rfl, rfl, rfl, Nat.zero_le _, rfl, by simp, fun y hy => ?_, Below.refl _ _⟩
                have := (chain_get L _ _ SI.out.chain 0 y hy).2.2.1 rfl
                rw [this, HX.out]
              case round =>
                obtain ⟨k, sm, at_, rfl, rfl, rfl, hkn, hgk, hsm, hat, hbr⟩ := hrel
                obtain ⟨wp, rfl⟩ : ∃ wp : World, wp = wr := ⟨_, rfl⟩
                have HGK := Lib.hid hgk
                have HSM := Lib.hid hsm
                have HAT := Lib.hid hat
                have KP := Lib.hid (KY.out.below hbr)
                have BP := Lib.hid (BY.out.trans (hbr.mono BY.out.size))
                have BR := Lib.hid hbr
                have hsm2 : sm ≤ 140737488355328 := by
                  have := prefix_sum (fun x => (linkAt h x).wt) L k
                  rw [SI.out.wt] at this
                  omega
                clear hgk hsm hat hbr
                by_cases hkl : k < n
                · obtain ⟨y, hy⟩ : ∃ y, L[k]? = some y := ⟨_, List.getElem?_eq_getElem (by rw [HLN.out]; exact hkl)⟩
                  obtain ⟨hyc, hyp⟩ := SI.out.lt y (List.mem_of_getElem? hy)
                  have hyc2 : y < h.up.length + h.dn.length := hyc
                  have hatl := HAT.out y hy
                  obtain ⟨c1, c2, -, c4, -⟩ := chain_get L _ _ SI.out.chain k y hy
                  obtain ⟨-, hya, hyb⟩ := end_cases HC.out hyc
                  rw [hatl] at c1 hya
                  obtain ⟨hd, hhd⟩ : ∃ hd, (endAt h y).head = hd := ⟨_, rfl⟩
                  rw [hhd] at c2 hyb c4
                  obtain ⟨va, hva⟩ : ∃ v, h.node[at_]? = some v := ⟨_, List.getElem?_eq_getElem hya⟩
                  obtain ⟨vb, hvb⟩ : ∃ v, h.node[hd]? = some v := ⟨_, List.getElem?_eq_getElem hyb⟩
                  have hna : nodeAt h at_ = va := by unfold nodeAt; rw [List.getD_eq_getElem?_getD, hva]; rfl
                  have hnb : nodeAt h hd = vb := by unfold nodeAt; rw [List.getD_eq_getElem?_getD, hvb]; rfl
                  rw [hna] at c1
                  rw [hnb] at c2
                  have wva : va < 4294967296 := SEE.out.bn _ (List.mem_of_getElem? hva)
                  have wvb : vb < 4294967296 := SEE.out.bn _ (List.mem_of_getElem? hvb)
                  have cva := IntWalk.i64_in (va : Int) (by omega)
                  have cvb := IntWalk.i64_in (vb : Int) (by omega)
                  obtain ⟨q1, q2, eq1, cn1⟩ := SEE.out.node.cell at_ va hva
                  rw [EAN.out] at eq1
                  simp only [Option.some.injEq, Addr.mk.injEq, and_true] at eq1
                  obtain ⟨rfl, rfl⟩ := eq1
                  obtain ⟨q1, q2, eq1, cn2⟩ := SEE.out.node.cell hd vb hvb
                  rw [EAN.out] at eq1
                  simp only [Option.some.injEq, Addr.mk.injEq, and_true] at eq1
                  obtain ⟨rfl, rfl⟩ := eq1
                  have na := ck KP.out.b (cn1 0 _ rfl)
                  have nb := ck KP.out.b (cn2 0 _ rfl)
                  obtain ⟨q1, q2, eq1, cm1⟩ := (MY.out.below BR.out).cell k va c1
                  rw [EAM.out] at eq1
                  simp only [Option.some.injEq, Addr.mk.injEq, and_true] at eq1
                  obtain ⟨rfl, rfl⟩ := eq1
                  obtain ⟨q1, q2, eq1, cm2⟩ := (MY.out.below BR.out).cell (k + 1) vb c2
                  rw [EAM.out] at eq1
                  simp only [Option.some.injEq, Addr.mk.injEq, and_true] at eq1
                  obtain ⟨rfl, rfl⟩ := eq1
                  have ma0 := cm1 0 _ rfl
                  have ma1 := cm2 0 _ rfl
                  obtain ⟨q1, q2, eq1, cl1⟩ := (LY.out.below BR.out).cell k y hy
                  simp only [Option.some.injEq, Addr.mk.injEq, and_true] at eq1
                  obtain ⟨rfl, rfl⟩ := eq1
                  have l0 := cl1 0 _ rfl
                  simp only [Nat.mul_one, Nat.add_zero] at na nb ma0 ma1 l0
                  have hea : (endsOf h)[y]? = some (endAt h y) := by
                    have : y < (endsOf h).length := by rw [HEL.out]; exact hyc
                    unfold endAt
                    rw [List.getD_eq_getElem?_getD, List.getElem?_eq_getElem this]
                    rfl
                  obtain ⟨q1, q2, eq1, ca⟩ := (SA.out.below BP.out).cell y _ hea
                  rw [EA.out] at eq1
                  simp only [Option.some.injEq, Addr.mk.injEq, and_true] at eq1
                  obtain ⟨rfl, rfl⟩ := eq1
                  have a0 := ca 0 _ rfl
                  have a1 := ca 1 _ rfl
                  rw [Nat.add_zero, hatl] at a0
                  rw [hhd] at a1
                  have la0 := block_lt a0
                  have lna := block_lt na
                  have lma := block_lt ma0
                  have ll0 := block_lt l0
                  obtain ⟨k0, k1, k2, k3, k4⟩ := hier_five KP.out.x
                  rw [EAN.out] at k0
                  have hok := linkAt_ok SEE.out y hyc2
                  obtain ⟨lk, hlk⟩ : ∃ lk, linkAt h y = lk := ⟨_, rfl⟩
                  rw [hlk] at hok hyp
                  have OK := Lib.hid hok
                  have HLK := Lib.hid hlk
                  have HYP := Lib.hid hyp
                  have HY := Lib.hid hy
                  have HC4 := Lib.hid c4
                  have dy : decide ((y : Int) < 0) = false := by simp
                  have dy1 : decide (cntOf h ≤ y) = false := by simpa using hyc
                  have kb1 : k < n + 1 := by omega
                  have kb2 : (k : Int) < (n : Int) + 1 := by omega
                  have kb3 : (k : Int) + 1 < (n : Int) + 1 := by omega
                  have kb4 : (0 : Int) ≤ (k : Int) + 1 := by omega
                  have kb5 : k + 1 < n + 1 := by omega
                  have kb7 : k + 1 ≤ n := by omega
                  have kb8 : (k : Int) + 1 ≤ (n : Int) := by omega
                  have kb9 : (k : Int) < (n : Int) := by omega
                  have kba : k ≤ n := by omega
                  have kbw := IntWalk.i64_in ((k : Int) + 1) (by omega)
                  have kb6 : ((k : Int) + 1).toNat = k + 1 := by omega
                  have t2 : ((at_ : Int) != (at_ : Int)) = false := by simp
                  have t3 : ((va : Int) != (va : Int)) = false := by simp
                  have t4 : ((vb : Int) != (vb : Int)) = false := by simp
                  clear hatl c1 c2 c4 hva hvb hna hnb cn1 cn2 cm1 cm2 cl1 ca hea hok hlk hyp hy hhd
                  go_upto_region 20 with fail
                  go_region_held3 (fun W => W.cell? ⟨w.heap.size, 0, none⟩ = some (.slice (some ⟨bn, on, none⟩) h.node.length A.c0) ∧ W.cell? ⟨w.heap.size, 1, none⟩ = some (.slice A.a1 h.upF.length A.c1) ∧ W.cell? ⟨w.heap.size, 2, none⟩ = some (.slice A.a2 h.up.length A.c2) ∧ W.cell? ⟨w.heap.size, 3, none⟩ = some (.slice A.a3 h.dnF.length A.c3) ∧ W.cell? ⟨w.heap.size, 4, none⟩ = some (.slice A.a4 h.dn.length A.c4) ∧ W.cell? ⟨b1, o1 + y * 3, none⟩ = some (.int .i64 (at_ : Int)) ∧ W.cell? ⟨b1, o1 + y * 3 + 1, none⟩ = some (.int .i64 (hd : Int)) ∧ W.cell? ⟨bm, om + k, none⟩ = some (.int .i64 (va : Int)) ∧ W.cell? ⟨bm, om + (k + 1), none⟩ = some (.int .i64 (vb : Int)) ∧ W.cell? ⟨bn, on + at_, none⟩ = some (.int .u32 (va : Int)) ∧ W.cell? ⟨bn, on + hd, none⟩ = some (.int .u32 (vb : Int))) (go_keep)
                    (first
                    | (go_at_call 29; (with_reducible refine (rlink_lit22 A h y bn on _ EAN.out ?_ hyc2 hd63).mono ?_); exact (SEE.out.below KP.out.b.drew); rintro e v1 ⟨rfl, hb1⟩; rw [HLK.out]; unfold linkVal; (have i0 := ck hb1 k0); (have i1 := ck hb1 k1); (have i2 := ck hb1 k2); (have i3 := ck hb1 k3); (have i4 := ck hb1 k4); (have i5 := ck hb1 a0); (have i6 := ck hb1 a1); (have i7 := ck hb1 ma0); (have i8 := ck hb1 ma1); (have i9 := ck hb1 na); (have i10 := ck hb1 nb))
                    | (go_at_call 28; (with_reducible refine (rplain_lit lk _ OK.out).mono ?_); rintro e v2 ⟨rfl, hb2⟩; rw [HYP.out]; (have j0 := ck hb2 i0); (have j1 := ck hb2 i1); (have j2 := ck hb2 i2); (have j3 := ck hb2 i3); (have j4 := ck hb2 i4); (have j5 := ck hb2 i5); (have j6 := ck hb2 i6); (have j7 := ck hb2 i7); (have j8 := ck hb2 i8); (have j9 := ck hb2 i9); (have j10 := ck hb2 i10)))
                  try dsimp only [Exit.then]
                  have hbv := ((Below.refl wp.heap.size wp).drew.trans hb1).trans (hb2.mono ((Below.refl wp.heap.size wp).drew.trans hb1).size)
                  have KV := Lib.hid (KP.out.below hbv)
                  have BV := Lib.hid (BR.out.trans (hbv.mono BR.out.size))
                  have hnext : ((L.take (k + 1)).map fun x => (linkAt h x).wt).sum = sm + lk.wt := by
                    rw [List.take_add_one, HY.out, Option.toList_some, List.map_append, List.sum_append, ← HSM.out]
                    simp [HLK.out]
                  have hnb : sm + lk.wt ≤ 140737488355328 := by
                    have := prefix_sum (fun x => (linkAt h x).wt) L (k + 1)
                    rw [SI.out.wt, hnext] at this
                    omega
                  have hsu := IntWalk.u64_in ((sm : Int) + (lk.wt : Int)) (by omega)
                  have hf1 := Tryz.fieldLink1
                  have HNX := Lib.hid hnext
                  clear hb1 hb2 hbv hnext i0 i1 i2 i3 i4 i5 i6 i7 i8 i9 i10 j7 j8 j9 j10 na nb ma0 ma1 l0 a0 a1 k0 k1 k2 k3 k4
                  go_wp2_with fail
                  refine (rlink_lit22 A h y bn on _ EAN.out (SEE.out.below KV.out.b) hyc2 hd63).mono ?_
                  rintro e v3 ⟨rfl, hb3⟩
                  rw [HLK.out]
                  unfold linkVal
                  have BW := Lib.hid (BV.out.trans (hb3.mono BV.out.size))
                  clear hb3 j0 j1 j2 j3 j4 j5 j6
                  go_wp2_with fail
                  go_roundg (n - (k + 1))
                  case measure => rw [HGK.out]; omega
                  case rel => exact ⟨k + 1, sm + lk.wt, hd, by go_num, by first | rfl | (congr 1; omega) | simp, rfl, by omega, rfl, HNX.out.symm, fun z hz => HC4.out z hz, BW.out⟩
                · obtain rfl : k = n := by omega
                  have hsmt : sm = (linkAt h i).wt := by
                    have := HSM.out
                    rw [← HLN.out, List.take_length] at this
                    rw [this]
                    exact SI.out.wt
                  obtain ⟨lk, hlk⟩ : ∃ lk, linkAt h i = lk := ⟨_, rfl⟩
                  rw [hlk] at hsmt
                  have HLK := Lib.hid hlk
                  have t2 : ((sm : Int) != (lk.wt : Int)) = false := by rw [hsmt]; simp
                  obtain ⟨k0, k1, k2, k3, k4⟩ := hier_five KP.out.x
                  have hf1 := Tryz.fieldLink1
                  have hi2 : i < h.up.length + h.dn.length := hil
                  have HSW := Lib.hid hsmt
                  clear hlk hsmt
                  go_wp2_with fail
                  refine (rlink_any A h i _ (SEE.out.below KP.out.b) hi2 hd63).mono ?_
                  rintro e v3 ⟨rfl, hb3⟩
                  rw [HLK.out]
                  unfold linkVal
                  have BW := Lib.hid (BP.out.trans (hb3.mono BP.out.size))
                  clear hb3 k0 k1 k2 k3 k4
                  go_wp2_with fail
                  rw [← EA.out]
                  go_roundg (cntOf h - (i + 1))
                  case measure => rw [HGI.out]; omega
                  case rel => exact ⟨i + 1, by go_num, by omega, rfl, BW.out⟩
end Go.Proofs.YtchhbgckonpedaaGreatDoor
