/- The reference's distances of all nodes. -/
import Derived.Test.YtjbphoophgbmiaaP4
import Derived.Test.YtjbphoophgbmiaaP2
import Derived.Test.YtjbphoophgbmiaaTabA
namespace Go.Proofs.Ytjbphoophgbmiaa
open Go.ChangeShapes Go.WideShapes Go.ChangeAt Go.RowKit Go.Joins Go.Deep

noncomputable def rdsBody : Code := Try.f43.body.getD .skip
/-- A table that has grown row by row, each row number by number. -/
structure RTRep (n k : Nat) (X : Nat → Nat → Int) (base : Nat) (m : Value) (vs : Nat → Value) (w : World) : Prop where
  own : w.ownsRow 0 48 1 m n ((List.range n).map vs)
  r : ∀ i, i < n → w.ownsRow 0 33 1 (vs i) k (rowCells k (X i))
  bo : ∀ q, m.ownBlock = some q → base ≤ q
  lo : ∀ i, i < n → ∀ q, (vs i).ownBlock = some q → base ≤ q ∧ m.ownBlock ≠ some q
theorem RTRep.below {n k : Nat} {X : Nat → Nat → Int} {base : Nat} {m : Value} {vs : Nat → Value} {w w' : World} (t : RTRep n k X base m vs w) (o : Below w.heap.size w w') : RTRep n k X base m vs w' :=
  ⟨own_kept (bs := []) t.own (Only.of_below o) (fun _ _ => by simp), fun i hi => own_kept (bs := []) (t.r i hi) (Only.of_below o) (fun _ _ => by simp), t.bo, t.lo⟩
theorem RTRep.nil (k : Nat) (X : Nat → Nat → Int) (base : Nat) (vs : Nat → Value) (w : World) : RTRep 0 k X base (.slice none 0 0) vs w :=
  ⟨World.ownsRow_nil _ _ _ _, fun i hi => absurd hi (by omega), fun q hq => by simp [Value.ownBlock] at hq, fun i hi => absurd hi (by omega)⟩
theorem RTRep.app {n k : Nat} {X : Nat → Nat → Int} {base mc : Nat} {mo : Option Addr} {vs : Nat → Value} {v : Value} {w w' : World} (t : RTRep n k X base (.slice mo n mc) vs w) (hr : w.ownsRow 0 33 1 v k (rowCells k (X n))) (hb : ∀ q, v.ownBlock = some q → base ≤ q ∧ (Value.slice mo n mc).ownBlock ≠ some q)
    {ao : Option Addr} {cap : Nat} (hown : w'.ownsRow 0 48 1 (.slice ao (n + 1) cap) (n + 1) (((List.range n).map vs) ++ [v])) (ho : Only (Value.slice mo n mc).ownBlock.toList w w')
    (hk : ∀ q, (Value.slice ao (n + 1) cap).ownBlock = some q → (Value.slice mo n mc).ownBlock = some q ∨ w.heap.size ≤ q) (hbase : base ≤ w.heap.size) : RTRep (n + 1) k X base (.slice ao (n + 1) cap) (fun p => if p = n then v else vs p) w' := by
  refine ⟨?_, fun p hp => ?_, fun q hq => ?_, fun p hp q hq => ?_⟩
  · have e : (List.range (n + 1)).map (fun i => if i = n then v else vs i) = ((List.range n).map vs) ++ [v] := by
      rw [List.range_succ, List.map_append]
      congr 1
      · refine List.map_congr_left fun i hi => ?_
        have := List.mem_range.1 hi
        rw [if_neg (by omega)]
      · simp
    rw [e]
    exact hown
  · by_cases c : p = n
    · subst c
      rw [if_pos rfl]
      exact own_kept hr ho (fun q hq => by simpa using fun e => (hb q hq).2 e)
    · rw [if_neg c]
      exact own_kept (t.r p (by omega)) ho (fun q hq => by simpa using fun e => (t.lo p (by omega) q hq).2 e)
  · rcases hk q hq with c | c
    · exact t.bo q c
    · exact Nat.le_trans hbase c
  · by_cases c : p = n
    · rw [if_pos c] at hq
      refine ⟨(hb q hq).1, fun e => ?_⟩
      rcases hk q e with c2 | c2
      · exact (hb q hq).2 c2
      · have := ownRow_lt hr hq; omega
    · rw [if_neg c] at hq
      refine ⟨(t.lo p (by omega) q hq).1, fun e => ?_⟩
      rcases hk q e with c2 | c2
      · exact (t.lo p (by omega) q hq).2 c2
      · have := ownRow_lt (t.r p (by omega)) hq; omega
theorem RTRep.mono {n k : Nat} {X : Nat → Nat → Int} {base base' : Nat} {m : Value} {vs : Nat → Value} {w : World} (t : RTRep n k X base m vs w) (h : base' ≤ base) : RTRep n k X base' m vs w :=
  ⟨t.own, t.r, fun q hq => Nat.le_trans h (t.bo q hq), fun i hi q hq => ⟨Nat.le_trans h (t.lo i hi q hq).1, (t.lo i hi q hq).2⟩⟩
theorem RTRep.see {n k : Nat} {X : Nat → Nat → Int} {base : Nat} {m : Value} {vs : Nat → Value} {w : World} (t : RTRep n k X base m vs w) : MSee n k X m w := by
  obtain ⟨ao, cap, rfl⟩ := own_form' t.own
  have ho := t.own
  have hf : ∀ i, ∃ (a : Option Addr) (c : Nat), i < n → vs i = .slice a k c := fun i => by
    by_cases hi : i < n
    · obtain ⟨a, c, e⟩ := own_form' (t.r i hi)
      exact ⟨a, c, fun _ => e⟩
    · exact ⟨none, 0, fun h => absurd h hi⟩
  let ro : Nat → Option Addr := fun i => (hf i).choose
  let rc : Nat → Nat := fun i => (hf i).choose_spec.choose
  have hvs : ∀ i, i < n → vs i = .slice (ro i) k (rc i) := fun i hi => (hf i).choose_spec.choose_spec hi
  have he : (List.range n).map vs = (List.range n).map fun i => .slice (ro i) k (rc i) := List.map_congr_left fun i hi => hvs i (List.mem_range.1 hi)
  rw [he, list_flat ((List.range n).map fun i => Value.slice (ro i) k (rc i))] at ho
  refine ⟨ao, cap, ro, rc, rfl, (See.of_own valC_len ho (by omega)).1, fun i hi => ?_⟩
  have hr := t.r i hi
  rw [hvs i hi, rowCells_flat] at hr
  exact (See.of_own u64C_len hr (by omega)).1
theorem rowCells_succ (k : Nat) (f : Nat → Int) : rowCells (k + 1) f = rowCells k f ++ [.int .u64 (f k)] := by
  unfold rowCells
  rw [List.range_succ, List.map_append]
  rfl
def RTabNew (h : HierD) (w : World) (e : Ending) (w' : World) : Prop := ∃ m, e = .returned m ∧ MSee h.node.length h.node.length (fun i j => tabD h i j) m w' ∧ Below w.heap.size w w'
theorem rmeet_lit (A : HA) (h : HierD) (s t : Nat) (w : World) (see : HSee w A h) (hc : checkErr h = .nil) (htot : h.up.length + h.dn.length ≤ 1048576) (hs : s < h.node.length) (ht : t < h.node.length) : Calls Try.prog 58 #[.agg #[.slice A.a0 h.node.length A.c0, .slice A.a1 h.upF.length A.c1, .slice A.a2 h.up.length A.c2, .slice A.a3 h.dnF.length A.c3, .slice A.a4 h.dn.length A.c4], .int .i64 (s : Nat), .int .i64 (t : Nat)] w (RMeetNew h s t w) := rmeet_any A h s t w see hc htot hs ht
theorem meetIs_pos {h : HierD} {s t : Int} {r : Nat} {d : Int} {x : EV} (hc : checkErr h = .nil) (hk : nodesErr h.node.length s t = .nil) (a : MeetIs h s t r d x) : x.pos := by
  rcases meet_tab hc hk a with ⟨rfl, -, -⟩ | ⟨rfl, -⟩ <;> simp [EV.pos]
set_option linter.unusedSimpArgs false in
set_option maxRecDepth 100000 in
set_option maxHeartbeats 8000000 in
/-- **The reference's Distances.** -/
theorem rdistances_any (A : HA) (h : HierD) (w : World) (see : HSee w A h) (hc : checkErr h = .nil) : Calls Try.prog 43 #[hierVal A h] w (RTabNew h w) := by
  have hp := checkErr_parts hc
  have hn := hp.1.n
  have htot := hp.1.total see (firsts_nil hp.1.u hp.2.1) (firsts_nil hp.1.d hp.2.2.1)
  have SEE := Lib.hid see
  have HC := Lib.hid hc
  have HX0 := Lib.hid (Cells.new w 25 (hierCells A h))
  have HB0 := Lib.hid ((Below.refl w.heap.size w).alloc (Nat.le_refl _) (.cells (hierCells A h).toArray 25))
  obtain ⟨k0, k1, k2, k3, k4⟩ := hier_five HX0.out
  clear hp see hc
  unfold hierVal
  go_enter Try.func43, Try.ntmps43
  go_wp2_with fail
  clear k0 k1 k2 k3 k4
  go_loopg [13, 3] h.node.length (fun gg vi vm wr => ∃ (i : Nat) (mo : Option Addr) (mc : Nat) (vs : Nat → Value), vi = .int .i64 (i : Int) ∧ i ≤ h.node.length ∧ gg = h.node.length - i ∧ vm = .slice mo i mc ∧ RTRep i h.node.length (fun i j => tabD h i j) w.heap.size (.slice mo i mc) vs wr ∧ Cells wr w.heap.size 25 (hierCells A h) ∧ (∀ q, (Value.slice mo i mc).ownBlock = some q → w.heap.size < q) ∧ (∀ p, p < i → ∀ q, (vs p).ownBlock = some q → w.heap.size < q) ∧ Below w.heap.size w wr)
  case atStart => exact ⟨0, none, 0, fun _ => .nilIface, rfl, Nat.zero_le _, rfl, rfl, RTRep.nil _ _ _ _ _, HX0.out, fun q hq => by simp [Value.ownBlock] at hq, fun p hp => absurd hp (by omega), HB0.out⟩
  case round =>
    obtain ⟨i, mo, mc, vs, rfl, hi, hgi, rfl, ht, hx, hq1, hq2, hb⟩ := hrel
    obtain ⟨wo, rfl⟩ : ∃ wo : World, wo = wr := ⟨_, rfl⟩
    have HGI := Lib.hid hgi
    have HT := Lib.hid ht
    have HX := Lib.hid hx
    have HQ1 := Lib.hid hq1
    have HQ2 := Lib.hid hq2
    have HB := Lib.hid hb
    clear hgi ht hx hq1 hq2 hb HX0 HB0
    by_cases hin : i < h.node.length
    · obtain ⟨k0, k1, k2, k3, k4⟩ := hier_five HX.out
      go_wp2_with fail
      clear k0 k1 k2 k3 k4
      go_loopg [19, 5] h.node.length (fun gg vj vr wr => ∃ (j : Nat) (ro : Option Addr) (rc : Nat), vj = .int .i64 (j : Int) ∧ j ≤ h.node.length ∧ gg = h.node.length - j ∧ vr = .slice ro j rc ∧ wr.ownsRow 0 33 1 (.slice ro j rc) j (rowCells j (fun j => tabD h i j)) ∧ (∀ q, (Value.slice ro j rc).ownBlock = some q → wo.heap.size ≤ q) ∧ Below wo.heap.size wo wr)
      case atStart => exact ⟨0, none, 0, rfl, Nat.zero_le _, rfl, rfl, World.ownsRow_nil _ _ _ _, fun q hq => by simp [Value.ownBlock] at hq, Below.refl _ _⟩
      case round =>
        obtain ⟨j, ro, rc, rfl, hj, hgj, rfl, hown, hnew, hb⟩ := hrel
        obtain ⟨wp, rfl⟩ : ∃ wp : World, wp = wr := ⟨_, rfl⟩
        have HGJ := Lib.hid hgj
        have HOWN := Lib.hid hown
        have HNEW := Lib.hid hnew
        have HBL := Lib.hid hb
        have HX2 := Lib.hid (HX.out.below hb HX.out.lt)
        have HB2 := Lib.hid (HB.out.trans (hb.mono HB.out.size))
        clear hgj hown hnew hb
        by_cases hjn : j < h.node.length
        · have HK := Lib.hid (show nodesErr h.node.length (i : Int) (j : Int) = .nil from nodesErr_nil.2 ⟨⟨by omega, by omega⟩, by omega, by omega⟩)
          obtain ⟨k0, k1, k2, k3, k4⟩ := hier_five HX2.out
          go_wp2_with fail
          refine (rmeet_lit A h i j _ (SEE.out.below HB2.out) HC.out htot hin hjn).mono ?_
          rintro e w1 ⟨r, d, x, v, rfl, hv, hm, hb1⟩
          obtain ⟨uc, ua, un, ucap, rfl⟩ := hv.form
          have ho := (Below.refl w1.heap.size w1).alloc (Nat.le_refl _) (.cells #[.int .i64 uc, .slice ua un ucap] 51)
          have hb1' := hb1.trans (ho.mono hb1.size)
          have HP := Lib.hid (meetIs_pos HC.out HK.out hm)
          have HM := Lib.hid (meet_tab HC.out HK.out hm)
          have HV := Lib.hid (hv.below ho)
          have hown2 := own_kept (bs := []) HOWN.out (Only.of_below hb1') (fun _ _ => by simp)
          have hbl2 := HBL.out.trans (hb1'.mono HBL.out.size)
          obtain ⟨wz, hwz⟩ : ∃ wz, w1.alloc (.cells #[.int .i64 uc, .slice ua un ucap] 51) = wz := ⟨_, rfl⟩
          have hce := Cells.new w1 51 [.int .i64 uc, .slice ua un ucap]
          have hv2 := HV.out
          change Cells (w1.alloc (.cells #[.int .i64 uc, .slice ua un ucap] 51)) _ _ _ at hce
          rw [hwz] at hce hv2 hown2 hbl2
          have HWZ := Lib.hid hwz
          have HCE := Lib.hid hce
          have HV2 := Lib.hid hv2
          have HOWN2 := Lib.hid hown2
          have HBL2 := Lib.hid hbl2
          clear hm hv hb1 ho hb1' hown2 hbl2 hwz hce hv2 HV HOWN HBL HX2 HB2 k0 k1 k2 k3 k4
          go_upto_region 10 with fail
          rw [HWZ.out]
          have y0 : wz.cell? ⟨w1.heap.size, 0, none⟩ = some (.int .i64 uc) := HCE.out.cell rfl
          have y1 : wz.cell? ⟨w1.heap.size, 1, none⟩ = some (.slice ua un ucap) := HCE.out.cell rfl
          go_wp2_with fail
          refine (bad_any _ x _ HV2.out HP.out).mono ?_
          rintro e w2 ⟨rfl, hb2⟩
          have hown3 := own_kept (bs := []) HOWN2.out (Only.of_below hb2) (fun _ _ => by simp)
          have HOWN3 := Lib.hid hown3
          have HBL3 := Lib.hid (HBL2.out.trans (hb2.mono HBL2.out.size))
          clear hb2 y0 y1 HCE HV2 HOWN2 HBL2 hown3
          rcases HM.out with ⟨h1, h2, h3⟩ | ⟨h1, h2⟩
          all_goals
            subst h1
            have e1 : (!EV.isNil EV.nil) = false := rfl
            have e2 : (!EV.isNil (EV.code 16)) = true := rfl
          · obtain rfl : d = tabD h i j := h2
            clear h3 HM
            have how := HOWN3.out
            obtain ⟨dd, hdd⟩ : ∃ dd, tabD h i j = dd := ⟨_, rfl⟩
            rw [hdd]
            have HDD := Lib.hid hdd
            clear hdd
            go_wp2_with (at_builtin; refine wpList_app _ rfl _ _ 48 rfl 33 (.int .u64 0) 1 8 Try.underlying48 Try.infoU64 rfl (by decide) (.slice ro j rc) j (rowCells j (fun j => tabD h i j)) rfl ?own ⟨w2.heap.size, 0, none⟩ 1 1 [.int .u64 dd] rfl rfl ?c1 ?c2 ?c3 ?c4 ?_)
            case own => exact own_kept (bs := []) how ((Only.refl _ _).alloc _) (fun q _ => by simp)
            case c1 => exact cells_new w2 33 [.int .u64 dd]
            case c2 => intro u hu; simp at hu; rcases hu with rfl; rfl
            case c3 => unfold maxLen; omega
            case c4 => omega
            intro ao5 cap5 w5 hown5 ho5 hk5
            have hall : Only (Value.slice ro j rc).ownBlock.toList w2 w5 := ((Only.refl _ _).alloc _).trans ho5 (fun x hx => .inl hx)
            have HON := Lib.hid (show w5.ownsRow 0 33 1 (.slice ao5 (j + 1) cap5) (j + 1) (rowCells (j + 1) (fun j => tabD h i j)) from by rw [rowCells_succ, HDD.out]; exact hown5)
            have HNN := Lib.hid (show ∀ q, (Value.slice ao5 (j + 1) cap5).ownBlock = some q → wo.heap.size ≤ q from fun q hq => by
              rcases hk5 q hq with h1 | h1
              · exact HNEW.out q h1
              · exact Nat.le_trans HBL3.out.size (Nat.le_trans (by simp) h1))
            have HBN := Lib.hid (HBL3.out.trans (hall.below HBL3.out.size (fun q hq => HNEW.out q (by simpa using hq))))
            clear hown5 ho5 hk5 hall how
            go_wp2_with fail
            go_roundg (h.node.length - (j + 1))
            case measure => rw [HGJ.out]; omega
            case rel => exact ⟨j + 1, ao5, cap5, by go_num, by omega, rfl, rfl, HON.out, HNN.out, HBN.out⟩
          · have HDD := Lib.hid (show tabD h i j = 18446744073709551615 from h2)
            clear h2 HM
            have how := HOWN3.out
            go_wp2_with (at_builtin; refine wpList_app _ rfl _ _ 48 rfl 33 (.int .u64 0) 1 8 Try.underlying48 Try.infoU64 rfl (by decide) (.slice ro j rc) j (rowCells j (fun j => tabD h i j)) rfl ?own ⟨w2.heap.size, 0, none⟩ 1 1 [.int .u64 18446744073709551615] rfl rfl ?c1 ?c2 ?c3 ?c4 ?_)
            case own => exact own_kept (bs := []) how ((Only.refl _ _).alloc _) (fun q _ => by simp)
            case c1 => exact cells_new w2 33 [.int .u64 18446744073709551615]
            case c2 => intro u hu; simp at hu; rcases hu with rfl; rfl
            case c3 => unfold maxLen; omega
            case c4 => omega
            intro ao5 cap5 w5 hown5 ho5 hk5
            have hall : Only (Value.slice ro j rc).ownBlock.toList w2 w5 := ((Only.refl _ _).alloc _).trans ho5 (fun x hx => .inl hx)
            have HON := Lib.hid (show w5.ownsRow 0 33 1 (.slice ao5 (j + 1) cap5) (j + 1) (rowCells (j + 1) (fun j => tabD h i j)) from by rw [rowCells_succ, HDD.out]; exact hown5)
            have HNN := Lib.hid (show ∀ q, (Value.slice ao5 (j + 1) cap5).ownBlock = some q → wo.heap.size ≤ q from fun q hq => by
              rcases hk5 q hq with h1 | h1
              · exact HNEW.out q h1
              · exact Nat.le_trans HBL3.out.size (Nat.le_trans (by simp) h1))
            have HBN := Lib.hid (HBL3.out.trans (hall.below HBL3.out.size (fun q hq => HNEW.out q (by simpa using hq))))
            clear hown5 ho5 hk5 hall how
            go_wp2_with fail
            go_roundg (h.node.length - (j + 1))
            case measure => rw [HGJ.out]; omega
            case rel => exact ⟨j + 1, ao5, cap5, by go_num, by omega, rfl, rfl, HON.out, HNN.out, HBN.out⟩
        · obtain rfl : j = h.node.length := by omega
          have HT2 := Lib.hid (HT.out.below HBL.out)
          have HOL := Lib.hid (fun q (hq : (Value.slice mo i mc).ownBlock = some q) => ownRow_lt HT.out.own hq)
          have how := HT2.out.own
          go_wp2_with (at_builtin; refine wpList_app _ rfl _ _ 43 rfl 48 (.slice none 0 0) 1 24 Try.underlying43 Try.infoRow rfl (by decide) (.slice mo i mc) i ((List.range i).map vs) rfl ?own ⟨wp.heap.size, 0, none⟩ 1 1 [.slice ro h.node.length rc] rfl rfl ?c1 ?c2 ?c3 ?c4 ?_)
          case own => exact own_kept (bs := []) how ((Only.refl _ _).alloc _) (fun q _ => by simp)
          case c1 => exact cells_new wp 48 [.slice ro h.node.length rc]
          case c2 => intro u hu; simp at hu; rcases hu with rfl; rfl
          case c3 => unfold maxLen; omega
          case c4 => omega
          intro ao5 cap5 w5 hown5 ho5 hk5
          have hall : Only (Value.slice mo i mc).ownBlock.toList wp w5 := ((Only.refl _ _).alloc _).trans ho5 (fun x hx => .inl hx)
          have HTN := Lib.hid (HT2.out.app HOWN.out (fun q hq => ⟨Nat.le_trans HB.out.size (HNEW.out q hq), fun e => by have := HOL.out q e; have := HNEW.out q hq; omega⟩) hown5 hall (fun q hq => (hk5 q hq).imp id (fun h => Nat.le_trans (by simp) h)) HB2.out.size)
          have HBN := Lib.hid (HB2.out.trans (hall.below HB2.out.size (fun q hq => HT2.out.bo q (by simpa using hq))))
          have HXN := Lib.hid (HX2.out.kept hall (fun hm => by have := HQ1.out _ (by simpa using hm); omega))
          have HQN := Lib.hid (show ∀ q, (Value.slice ao5 (i + 1) cap5).ownBlock = some q → w.heap.size < q from fun q hq => by
            rcases hk5 q hq with h1 | h1
            · exact HQ1.out q h1
            · exact Nat.lt_of_lt_of_le HX2.out.lt (Nat.le_trans (by simp) h1))
          have HQM := Lib.hid (show ∀ p, p < i + 1 → ∀ q, (if p = i then Value.slice ro h.node.length rc else vs p).ownBlock = some q → w.heap.size < q from fun p hp q hq => by
            by_cases c : p = i
            · rw [if_pos c] at hq
              exact Nat.lt_of_lt_of_le HX.out.lt (HNEW.out q hq)
            · rw [if_neg c] at hq
              exact HQ2.out p (by omega) q hq)
          clear hown5 ho5 hk5 hall how
          go_wp2_with fail
          go_roundg (h.node.length - (i + 1))
          case measure => rw [HGI.out]; omega
          case rel => exact ⟨i + 1, ao5, cap5, _, by go_num, by omega, rfl, rfl, HTN.out, HXN.out, HQN.out, HQM.out, HBN.out⟩
    · obtain rfl : i = h.node.length := by omega
      go_wp2
      go_returns
      exact ⟨_, rfl, HT.out.see, HB.out⟩
end Go.Proofs.Ytjbphoophgbmiaa

/- The reference's look at a list of nodes. -/
namespace Go.Proofs.Ytjbphoophgbmiaa
open Go.ChangeShapes Go.WideShapes Go.ChangeAt Go.RowKit Go.Joins Go.Deep

set_option linter.unusedSimpArgs false in
set_option maxRecDepth 100000 in
set_option maxHeartbeats 8000000 in
/-- **viaductref23.list.** -/
theorem rlist_any (A : HA) (h : HierD) (l : List Int) (la : Option Addr) (lc k : Nat) (w : World) (sl : See w la lc memInt 1 l) (hk : k ≤ 140737488355328) (hl : l.length ≤ 140737488355328) (hx : ∀ x ∈ l, x ≤ 9223372036854775807) :
    Calls Try.prog 42 #[hierVal A h, .slice la l.length lc, .int .i64 (k : Int)] w (ErrNew (listErr h.node.length l k) w) := by
  have SL := Lib.hid sl
  have HX := Lib.hid hx
  have hb0 := ((Below.refl w.heap.size w).alloc (Nat.le_refl _) (.cells (hierCells A h).toArray 25)).alloc (by simp) (.cells errZero.toArray 51)
  have K := Lib.hid (DK.mk (A := A) (h := h) ((Cells.new w 25 (hierCells A h)).alloc (.cells errZero.toArray 51)) (cells_at (by simp) 51 errZero) hb0)
  clear sl hx hb0
  unfold hierVal
  go_enter Try.func42, Try.ntmps42
  go_wp2_with fail
  go_loopg [11] l.length (fun g vi wr => ∃ i : Nat, vi = .int .i64 (i : Int) ∧ i ≤ l.length ∧ g = l.length - i ∧ listErr h.node.length l k = listErr h.node.length (l.drop i) (k + i) ∧ DK A h w wr)
  case atStart => exact ⟨0, rfl, Nat.zero_le _, rfl, rfl, K.out⟩
  case round =>
    obtain ⟨i, rfl, hi, hg, he, hk2⟩ := hrel
    obtain ⟨wo, rfl⟩ : ∃ wo : World, wo = wr := ⟨_, rfl⟩
    have HG := Lib.hid hg
    have HE := Lib.hid he
    have K1 := Lib.hid hk2
    clear hg he hk2 K
    by_cases hil : i < l.length
    · obtain ⟨v, hv⟩ : ∃ v, l[i]? = some v := ⟨_, List.getElem?_eq_getElem hil⟩
      obtain ⟨b, o, ea, cc⟩ := (SL.out.below K1.out.b).cell i v hv
      have e0 := cc 0 _ rfl
      rw [Nat.add_zero, Nat.mul_one] at e0
      have EA := Lib.hid ea
      have HV := Lib.hid hv
      have hv64 := HX.out v (List.mem_of_getElem? hv)
      obtain ⟨k0, k1, k2, k3, k4⟩ := hier_five K1.out.x
      clear cc ea hv k1 k2 k3 k4
      rw [EA.out]
      by_cases hb : v < 0 ∨ (h.node.length : Int) ≤ v
      · have hs := listErr_stop (k := k) HV.out hb
        have HS := Lib.hid (HE.out.trans hs)
        have hadd : IntKind.i64.wrap ((k : Int) + (i : Int)) = ((k + i : Nat) : Int) := by rw [IntWalk.i64_in _ (by omega)]; omega
        clear hs
        by_cases h0 : v < 0
        · have t1 : decide (v < 0) = true := by simpa using h0
          go_wp2_with fail
          refine (e_any 7 _).mono ?_
          rintro e w2 ⟨u, rfl, hu, hb2⟩
          obtain rfl : u = _ := hu
          have K2 := Lib.hid (K1.out.below hb2)
          clear hb2 K1
          go_wp2_with fail
          have ha := rat_any 3 ((k + i : Nat) : Int) 7 w2
          rw [Int.natCast_add] at ha
          refine ha.mono ?_
          rintro e w3 ⟨u, rfl, hu, hb3⟩
          obtain ⟨uc, ua, un, ucap, rfl⟩ := hu.form
          have K3 := Lib.hid (K2.out.below hb3)
          have HU := Lib.hid hu
          clear hu hb3 K2 ha
          have z0 : w3.cell? ⟨(w.heap.size + 1), 0, none⟩ = some (.int .i64 0) := K3.out.r.cell rfl
          have z1 : w3.cell? ⟨(w.heap.size + 1), 1, none⟩ = some (.slice none 0 0) := K3.out.r.cell rfl
          have g0 := K3.out.r.frozen 0
          have g1 := K3.out.r.frozen 1
          have lr := K3.out.r.lt
          go_wp2
          refine bodyPost_ret (results_e rfl _ _ ((w.heap.size + 1)) 51 [.int .i64 uc, .slice ua un ucap] _ rfl ((K3.out.r.set 0 _).set 1 _) Try.underlying51 rfl (by rw [Try.sizeErr]; rfl)) rfl ?_
          exact ⟨_, rfl, by rw [HS.out, Int.natCast_add]; exact HU.out.put K3.out.r _ _, (K3.out.b.setCell (p := ⟨(w.heap.size + 1), 0, none⟩) (by simp) _).setCell (p := ⟨(w.heap.size + 1), 1, none⟩) (by simp) _⟩
        · have t1 : decide (v < 0) = false := by simpa using h0
          have t2 : decide ((h.node.length : Int) ≤ v) = true := by simp only [decide_eq_true_eq]; omega
          clear hb
          go_wp2_with fail
          refine (e_any 7 _).mono ?_
          rintro e w2 ⟨u, rfl, hu, hb2⟩
          obtain rfl : u = _ := hu
          have K2 := Lib.hid (K1.out.below hb2)
          clear hb2 K1
          go_wp2_with fail
          have ha := rat_any 3 ((k + i : Nat) : Int) 7 w2
          rw [Int.natCast_add] at ha
          refine ha.mono ?_
          rintro e w3 ⟨u, rfl, hu, hb3⟩
          obtain ⟨uc, ua, un, ucap, rfl⟩ := hu.form
          have K3 := Lib.hid (K2.out.below hb3)
          have HU := Lib.hid hu
          clear hu hb3 K2 ha
          have z0 : w3.cell? ⟨(w.heap.size + 1), 0, none⟩ = some (.int .i64 0) := K3.out.r.cell rfl
          have z1 : w3.cell? ⟨(w.heap.size + 1), 1, none⟩ = some (.slice none 0 0) := K3.out.r.cell rfl
          have g0 := K3.out.r.frozen 0
          have g1 := K3.out.r.frozen 1
          have lr := K3.out.r.lt
          go_wp2
          refine bodyPost_ret (results_e rfl _ _ ((w.heap.size + 1)) 51 [.int .i64 uc, .slice ua un ucap] _ rfl ((K3.out.r.set 0 _).set 1 _) Try.underlying51 rfl (by rw [Try.sizeErr]; rfl)) rfl ?_
          exact ⟨_, rfl, by rw [HS.out, Int.natCast_add]; exact HU.out.put K3.out.r _ _, (K3.out.b.setCell (p := ⟨(w.heap.size + 1), 0, none⟩) (by simp) _).setCell (p := ⟨(w.heap.size + 1), 1, none⟩) (by simp) _⟩
      · have t1 : decide (v < 0) = false := by simp only [decide_eq_false_iff_not]; omega
        have t2 : decide ((h.node.length : Int) ≤ v) = false := by simp only [decide_eq_false_iff_not]; omega
        have HN := Lib.hid (HE.out.trans (listErr_drop HV.out hb))
        clear hb
        go_wp2_with fail
        rw [← EA.out]
        go_roundg (l.length - (i + 1))
        case measure => rw [HG.out]; omega
        case rel => exact ⟨i + 1, by go_num, by omega, rfl, HN.out, K1.out⟩
    · obtain rfl : i = l.length := by omega
      have HS := Lib.hid (show listErr h.node.length l k = .nil by rw [HE.out, List.drop_length]; rfl)
      have z0 : wo.cell? ⟨(w.heap.size + 1), 0, none⟩ = some (.int .i64 0) := K1.out.r.cell rfl
      have z1 : wo.cell? ⟨(w.heap.size + 1), 1, none⟩ = some (.slice none 0 0) := K1.out.r.cell rfl
      have g0 := K1.out.r.frozen 0
      have g1 := K1.out.r.frozen 1
      have lr := K1.out.r.lt
      go_wp2
      refine bodyPost_ret (results_e rfl _ _ ((w.heap.size + 1)) 51 [.int .i64 0, .slice none 0 0] _ rfl ((K1.out.r.set 0 _).set 1 _) Try.underlying51 rfl (by rw [Try.sizeErr]; rfl)) rfl ?_
      exact ⟨_, rfl, by rw [HS.out]; rfl, (K1.out.b.setCell (p := ⟨(w.heap.size + 1), 0, none⟩) (by simp) _).setCell (p := ⟨(w.heap.size + 1), 1, none⟩) (by simp) _⟩
end Go.Proofs.Ytjbphoophgbmiaa

/- The reference's DocOf and DocNearest: the errors of the lists. -/
namespace Go.Proofs.Ytjbphoophgbmiaa
open Go.ChangeShapes Go.WideShapes Go.ChangeAt Go.RowKit Go.Joins Go.Deep

noncomputable def docOfBody : Code := Try.f18.body.getD .skip
theorem rlist_lit (A : HA) (h : HierD) (l : List Int) (la : Option Addr) (lc k n : Nat) (kv : Int) (w : World) (sl : See w la lc memInt 1 l) (hn : l.length = n) (hkv : kv = (k : Int)) (hk : k ≤ 140737488355328) (hl : l.length ≤ 140737488355328) (hx : ∀ x ∈ l, x ≤ 9223372036854775807) :
    Calls Try.prog 42 #[.agg #[.slice A.a0 h.node.length A.c0, .slice A.a1 h.upF.length A.c1, .slice A.a2 h.up.length A.c2, .slice A.a3 h.dnF.length A.c3, .slice A.a4 h.dn.length A.c4], .slice la n lc, .int .i64 kv] w (ErrNew (listErr h.node.length l k) w) := by
  subst hn hkv
  exact rlist_any A h l la lc k w sl hk hl hx
theorem listErr_posE (n : Nat) (l : List Int) (k : Nat) : (listErr n l k).pos := by
  rcases listErr_pos (n := n) (l := l) (k := k) with e | ⟨i, e, -⟩ <;> rw [e] <;> simp [EV.pos]
theorem firstOf_isNil (x y : EV) : firstOf x y = if x.isNil = true then y else x := by
  unfold firstOf
  cases x <;> simp [EV.isNil]
theorem rfirst_lit (b : Nat) {c1 c2 : Int} {a1 a2 : Option Addr} {n1 k1 n2 k2 : Nat} {x1 x2 : EV} (w : World) (hc : Cells w b 51 [.int .i64 c1, .slice a1 n1 k1, .int .i64 c2, .slice a2 n2 k2])
    (h1 : ErrV w (.agg #[.int .i64 c1, .slice a1 n1 k1]) x1) (h2 : ErrV w (.agg #[.int .i64 c2, .slice a2 n2 k2]) x2) (p1 : x1.pos) (p2 : x2.pos) : Calls Try.prog 41 #[.slice (some ⟨b, 0, none⟩) 2 2] w (ErrNew (firstOf x1 x2) w) :=
  rfirst_any b w hc h1 h2 p1 p2 (firstOf_isNil _ _)

set_option linter.unusedSimpArgs false in
set_option maxRecDepth 100000 in
set_option maxHeartbeats 8000000 in
theorem reg6_o {s0 s4 s5 s6 s8 s9 s10 s11 s12 s13 s14 s15 s16 s17 s18 s19 s20 s21 s22 s23 s24 s25 s26 s27 s28 s29 s30 s31 s32 s33 s34 s35 s36 s37 s38 s39 s40 s41 s42 s43 s44 s45 s46 s47 s48 s49 s50 s51 s52 s53 s54 s55 s56 s57 s58 s59 s60 s61 s62 s63 s64 s65 s66 s67 s68 s69 s70 s71 s72 s73 s74 s75 s76 s77 s78 : Value} {A : HA} {h : HierD} {w wx : World} {rows cols : List Int} {ra ca : Option Addr} {rc cc : Nat} (sr : See w ra rc memInt 1 rows) (sc : See w ca cc memInt 1 cols) (hlr : rows.length ≤ 1048576) (hlc : cols.length ≤ 1048576) (hw : WfList rows ∧ WfList cols) (Q : Exit → Act → World → Prop) (hQp : ∀ c (a : Act) (t : Option Tmp) (v : Value) w', Q (.panic c) (a.put t v) w' → Q (.panic c) a w') (k : DK A h w wx) (see : HSee w A h)
    (hQ : ∀ (be : Nat) (uc : Int) (ua : Option Addr) (un ucap : Nat) (t34 t35 t36 t37 t38 t39 t40 t41 t42 t43 : Value) (w' : World), Cells w' be 51 [.int .i64 uc, .slice ua un ucap] → ErrV w' (.agg [.int .i64 uc, .slice ua un ucap].toArray) (firstOf (listErr h.node.length rows 0) (listErr h.node.length cols rows.length)) → DK A h w w' → Q .normal ⟨#[s0, .slice ra rows.length rc, .slice ca cols.length cc, .pointer (some ⟨w.heap.size, 0, none⟩), s4, s5, s6, .pointer (some ⟨(w.heap.size + 1), 0, none⟩), s8, .pointer (some ⟨be, 0, none⟩), s10, s11, s12, s13, s14, s15, s16, s17, s18, s19, s20, s21, s22, s23, s24, s25, s26, s27, s28, s29, s30, s31, s32, s33, t34, t35, t36, t37, t38, t39, t40, t41, t42, t43, s44, s45, s46, s47, s48, s49, s50, s51, s52, s53, s54, s55, s56, s57, s58, s59, s60, s61, s62, s63, s64, s65, s66, s67, s68, s69, s70, s71, s72, s73, s74, s75, s76, s77, s78], []⟩ w') :
    Code.wp Try.prog ((regionAt 6 docOfBody).getD .skip) Q ⟨#[s0, .slice ra rows.length rc, .slice ca cols.length cc, .pointer (some ⟨w.heap.size, 0, none⟩), s4, s5, s6, .pointer (some ⟨(w.heap.size + 1), 0, none⟩), s8, s9, s10, s11, s12, s13, s14, s15, s16, s17, s18, s19, s20, s21, s22, s23, s24, s25, s26, s27, s28, s29, s30, s31, s32, s33, s34, s35, s36, s37, s38, s39, s40, s41, s42, s43, s44, s45, s46, s47, s48, s49, s50, s51, s52, s53, s54, s55, s56, s57, s58, s59, s60, s61, s62, s63, s64, s65, s66, s67, s68, s69, s70, s71, s72, s73, s74, s75, s76, s77, s78], []⟩ wx := by
  have HQ := Lib.hid hQ
  have HQP := Lib.hid hQp
  have SEE := Lib.hid see
  have k2 := k.below ((Below.refl wx.heap.size wx).drew)
  clear hQ hQp see k
  conv => arg 2; whnf
  refine wp_region_held_drew (S := fun W => DK A h w W) (by kernel_rfl) k2 (fun hHeld => ?_)
  simp only [List.size_toArray, List.length_cons, List.length_nil, Nat.reduceAdd, Array.replicate_succ, Array.replicate_zero, List.push_toArray, List.nil_append, List.cons_append]
  clear k2
  obtain ⟨wd, hwd⟩ : ∃ wd, wx.drew = wd := ⟨_, rfl⟩
  rw [hwd] at hHeld ⊢
  clear hwd
  refine wpAnyH_take (i := 0) (oi := { dst := some 34, op := Op.load 25 (Operand.tmp 3), type := 25, pos := "ref.go:33", after := #[], guard := none }) (v := .agg #[.slice A.a0 h.node.length A.c0, .slice A.a1 h.upF.length A.c1, .slice A.a2 h.up.length A.c2, .slice A.a3 h.dnF.length A.c3, .slice A.a4 h.dn.length A.c4]) rfl (by kernel_rfl) (by kernel_rfl) (by kernel_rfl) (fun c a w' => HQP.out c a _ _ w') (Or.inl ⟨by rfl, ?_⟩) hHeld ?_
  · intro W hSw
    try dsimp only at hSw
    obtain ⟨m0, m1, m2, m3, m4⟩ := hier_five hSw.x
    clear hSw hHeld
    go_simp
  simp only [Act.put, List.setIfInBounds_toArray, List.set_cons_zero, List.set_cons_succ]
  refine wpAnyH_take (i := 1) (oi := { dst := some 35, op := Op.move (Operand.tmp 1), type := 40, pos := "ref.go:33", after := #[], guard := none }) (v := .slice ra rows.length rc) rfl (by kernel_rfl) (by kernel_rfl) (by kernel_rfl) (fun c a w' => HQP.out c a _ _ w') (Or.inl ⟨by rfl, ?_⟩) hHeld ?_
  · intro W hSw
    try dsimp only at hSw
    clear hSw hHeld
    go_simp
  simp only [Act.put, List.setIfInBounds_toArray, List.set_cons_zero, List.set_cons_succ]
  refine wpAnyH_take (i := 3) (oi := { dst := some 37, op := Op.load 25 (Operand.tmp 3), type := 25, pos := "ref.go:33", after := #[], guard := none }) (v := .agg #[.slice A.a0 h.node.length A.c0, .slice A.a1 h.upF.length A.c1, .slice A.a2 h.up.length A.c2, .slice A.a3 h.dnF.length A.c3, .slice A.a4 h.dn.length A.c4]) rfl (by kernel_rfl) (by kernel_rfl) (by kernel_rfl) (fun c a w' => HQP.out c a _ _ w') (Or.inl ⟨by rfl, ?_⟩) hHeld ?_
  · intro W hSw
    try dsimp only at hSw
    obtain ⟨m0, m1, m2, m3, m4⟩ := hier_five hSw.x
    clear hSw hHeld
    go_simp
  simp only [Act.put, List.setIfInBounds_toArray, List.set_cons_zero, List.set_cons_succ]
  refine wpAnyH_take (i := 4) (oi := { dst := some 38, op := Op.move (Operand.tmp 2), type := 40, pos := "ref.go:33", after := #[], guard := none }) (v := .slice ca cols.length cc) rfl (by kernel_rfl) (by kernel_rfl) (by kernel_rfl) (fun c a w' => HQP.out c a _ _ w') (Or.inl ⟨by rfl, ?_⟩) hHeld ?_
  · intro W hSw
    try dsimp only at hSw
    clear hSw hHeld
    go_simp
  simp only [Act.put, List.setIfInBounds_toArray, List.set_cons_zero, List.set_cons_succ]
  refine wpAnyH_take (i := 5) (oi := { dst := some 39, op := Op.move (Operand.tmp 1), type := 40, pos := "ref.go:33", after := #[], guard := none }) (v := .slice ra rows.length rc) rfl (by kernel_rfl) (by kernel_rfl) (by kernel_rfl) (fun c a w' => HQP.out c a _ _ w') (Or.inl ⟨by rfl, ?_⟩) hHeld ?_
  · intro W hSw
    try dsimp only at hSw
    clear hSw hHeld
    go_simp
  simp only [Act.put, List.setIfInBounds_toArray, List.set_cons_zero, List.set_cons_succ]
  refine wpAnyH_take (i := 6) (oi := { dst := some 40, op := Op.call { callee := Callee.builtin Builtin.len, args := #[Operand.tmp 39], argTypes := #[40] }, type := 3, pos := "ref.go:33", after := #[{ on := 5, ground := Ground.data }], guard := none }) (v := .int .i64 (rows.length : Nat)) rfl (by kernel_rfl) (by kernel_rfl) (by kernel_rfl) (fun c a w' => HQP.out c a _ _ w') (Or.inl ⟨by rfl, ?_⟩) hHeld ?_
  · intro W hSw
    try dsimp only at hSw
    clear hSw hHeld
    go_simp
  simp only [Act.put, List.setIfInBounds_toArray, List.set_cons_zero, List.set_cons_succ]
  have K0 := Lib.hid hHeld
  clear hHeld
  refine wpAnyH_ready (rs := [2, 10]) (by kernel_rfl) (by simp) ?_
  refine AllReadyH.cons (o := { dst := some 36, op := Op.call { callee := Callee.value (Operand.func 42), args := #[Operand.tmp 34, Operand.tmp 35, Operand.const (Value.int IntKind.i64 0)], argTypes := #[25, 40, 3] }, type := 51, pos := "ref.go:33", after := #[{ on := 0, ground := Ground.data }, { on := 1, ground := Ground.data }], guard := none }) rfl (fun K hK => ?_) (AllReadyH.cons (o := { dst := some 9, op := Op.alloc 51, type := 0, pos := "ref.go:33", after := #[], guard := none }) rfl (fun K hK => ?_) AllReadyH.nil)
  · go_simp
    refine (rlist_lit A h rows ra rc 0 rows.length 0 _ (sr.below K0.out.b) rfl rfl (by omega) (by omega) hw.1).mono ?_
    rintro e wc1 ⟨v, rfl, hv, hb⟩
    obtain ⟨c1, a1, n1, k1, rfl⟩ := hv.form
    have K1 := Lib.hid (K0.out.below hb)
    have HV1 := Lib.hid (hv)
    go_wp2_with fail
    refine hK.out _ _ K1.out (fun hHeld => ?_)
    clear hK K hHeld hb K0
    simp only [Act.put, List.setIfInBounds_toArray, List.set_cons_zero, List.set_cons_succ]
    refine wpAnyH_ready (rs := [7, 10]) (by kernel_rfl) (by simp) ?_
    refine AllReadyH.cons (o := { dst := some 41, op := Op.call { callee := Callee.value (Operand.func 42), args := #[Operand.tmp 37, Operand.tmp 38, Operand.tmp 40], argTypes := #[25, 40, 3] }, type := 51, pos := "ref.go:33", after := #[{ on := 3, ground := Ground.data }, { on := 4, ground := Ground.data }, { on := 6, ground := Ground.data }, { on := 2, ground := Ground.chain }], guard := none }) rfl (fun K hK => ?_) (AllReadyH.cons (o := { dst := some 9, op := Op.alloc 51, type := 0, pos := "ref.go:33", after := #[], guard := none }) rfl (fun K hK => ?_) AllReadyH.nil)
    · go_simp
      refine (rlist_lit A h cols ca cc rows.length cols.length _ _ (sc.below K1.out.b) rfl rfl (by omega) (by omega) hw.2).mono ?_
      rintro e wc2 ⟨v, rfl, hv, hb⟩
      obtain ⟨c2, a2, n2, k2, rfl⟩ := hv.form
      have K2 := Lib.hid (K1.out.below hb)
      have HV2 := Lib.hid (HV1.out.below hb)
      have HU2 := Lib.hid (hv)
      go_wp2_with fail
      refine hK.out _ _ K2.out (fun hHeld => ?_)
      clear hK K hHeld hb K1 HV1
      simp only [Act.put, List.setIfInBounds_toArray, List.set_cons_zero, List.set_cons_succ]
      refine wpAnyH_ready (rs := [8, 10]) (by kernel_rfl) (by simp) ?_
      refine AllReadyH.cons (o := { dst := some 42, op := Op.buildSlice 88 2 #[(0, Operand.tmp 36), (1, Operand.tmp 41)], type := 88, pos := "ref.go:33", after := #[{ on := 2, ground := Ground.data }, { on := 7, ground := Ground.data }], guard := none }) rfl (fun K hK => ?_) (AllReadyH.cons (o := { dst := some 9, op := Op.alloc 51, type := 0, pos := "ref.go:33", after := #[], guard := none }) rfl (fun K hK => ?_) AllReadyH.nil)
      · go_simp
        have hb := (Below.refl wc2.heap.size wc2).alloc (Nat.le_refl _) (.cells #[.int .i64 c1, .slice a1 n1 k1, .int .i64 c2, .slice a2 n2 k2] 51)
        have K3 := Lib.hid (K2.out.below hb)
        have HV3 := Lib.hid (HV2.out.below hb)
        have HU3 := Lib.hid (HU2.out.below hb)
        have HE3 := Lib.hid (Cells.new wc2 51 [.int .i64 c1, .slice a1 n1 k1, .int .i64 c2, .slice a2 n2 k2])
        refine hK.out _ _ K3.out (fun hHeld => ?_)
        clear hK K hHeld hb K2 HV2 HU2
        simp only [Act.put, List.setIfInBounds_toArray, List.set_cons_zero, List.set_cons_succ]
        obtain ⟨wb3, hwb⟩ : ∃ wb, wc2.alloc (.cells #[.int .i64 c1, .slice a1 n1 k1, .int .i64 c2, .slice a2 n2 k2] 51) = wb := ⟨_, rfl⟩
        have hx := K3.out
        rw [hwb] at hx
        clear K3
        have K3 := Lib.hid hx
        clear hx
        have hx := HV3.out
        rw [hwb] at hx
        clear HV3
        have HV3 := Lib.hid hx
        clear hx
        have hx := HU3.out
        rw [hwb] at hx
        clear HU3
        have HU3 := Lib.hid hx
        clear hx
        have hx := HE3.out
        change Cells (wc2.alloc (.cells #[.int .i64 c1, .slice a1 n1 k1, .int .i64 c2, .slice a2 n2 k2] 51)) _ _ _ at hx
        rw [hwb] at hx
        clear HE3
        have HE3 := Lib.hid hx
        clear hx
        rw [hwb]
        clear hwb
        refine wpAnyH_ready (rs := [9, 10]) (by kernel_rfl) (by simp) ?_
        refine AllReadyH.cons (o := { dst := some 43, op := Op.call { callee := Callee.value (Operand.func 41), args := #[Operand.tmp 42], argTypes := #[88] }, type := 51, pos := "ref.go:33", after := #[{ on := 8, ground := Ground.data }, { on := 7, ground := Ground.chain }], guard := none }) rfl (fun K hK => ?_) (AllReadyH.cons (o := { dst := some 9, op := Op.alloc 51, type := 0, pos := "ref.go:33", after := #[], guard := none }) rfl (fun K hK => ?_) AllReadyH.nil)
        · go_simp
          refine (rfirst_lit _ _ HE3.out HV3.out HU3.out (listErr_posE _ _ _) (listErr_posE _ _ _)).mono ?_
          rintro e wc4 ⟨v, rfl, hv, hb⟩
          obtain ⟨fc, fa, fn, fcap, rfl⟩ := hv.form
          have K4 := Lib.hid (K3.out.below hb)
          have HV4 := Lib.hid (HV3.out.below hb)
          have HU4 := Lib.hid (HU3.out.below hb)
          have HE4 := Lib.hid (HE3.out.below hb HE3.out.lt)
          have HF4 := Lib.hid (hv)
          go_wp2_with fail
          refine hK.out _ _ K4.out (fun hHeld => ?_)
          clear hK K hHeld hb K3 HV3 HU3 HE3
          simp only [Act.put, List.setIfInBounds_toArray, List.set_cons_zero, List.set_cons_succ]
          refine wpAnyH_ready (rs := [10]) (by kernel_rfl) (by simp) (AllReadyH.cons (o := { dst := some 9, op := Op.alloc 51, type := 0, pos := "ref.go:33", after := #[], guard := none }) rfl (fun K hK => ?_) AllReadyH.nil)
          go_simp
          have hb5 := (Below.refl wc4.heap.size wc4).alloc (Nat.le_refl _) (.cells #[.int .i64 0, .slice none 0 0] 51)
          have K5 := Lib.hid (K4.out.below hb5)
          have HV5 := Lib.hid (HV4.out.below hb5)
          have HU5 := Lib.hid (HU4.out.below hb5)
          have HE5 := Lib.hid (HE4.out.below hb5 HE4.out.lt)
          have HF5 := Lib.hid (HF4.out.below hb5)
          have HZ5 := Lib.hid (Cells.new wc4 51 errZero)
          have HZL5 := Lib.hid (show w.heap.size + 1 < wc4.heap.size from K4.out.r.lt)
          refine hK.out _ _ K5.out (fun hHeld => ?_)
          clear hK K hHeld hb5 K4 HV4 HU4 HE4 HF4
          simp only [Act.put, List.setIfInBounds_toArray, List.set_cons_zero, List.set_cons_succ]
          obtain ⟨be, hbe⟩ : ∃ be, wc4.heap.size = be := ⟨_, rfl⟩
          obtain ⟨wa5, hwa⟩ : ∃ wa, wc4.alloc (.cells #[.int .i64 0, .slice none 0 0] 51) = wa := ⟨_, rfl⟩
          have hz := HZ5.out
          change Cells (wc4.alloc (.cells #[.int .i64 0, .slice none 0 0] 51)) _ _ _ at hz
          rw [hwa, hbe] at hz
          rw [hbe] at HZL5 ⊢
          have hx := K5.out
          rw [hwa] at hx
          clear K5
          have K5 := Lib.hid hx
          clear hx
          have hx := HV5.out
          rw [hwa] at hx
          clear HV5
          have HV5 := Lib.hid hx
          clear hx
          have hx := HU5.out
          rw [hwa] at hx
          clear HU5
          have HU5 := Lib.hid hx
          clear hx
          have hx := HE5.out
          rw [hwa] at hx
          clear HE5
          have HE5 := Lib.hid hx
          clear hx
          have hx := HF5.out
          rw [hwa] at hx
          clear HF5
          have HF5 := Lib.hid hx
          clear hx
          rw [hwa]
          clear HZ5
          have HZ5 := Lib.hid hz
          have HZL := Lib.hid HZL5.out
          clear hz HZL5 hbe hwa
          have lz := HZ5.out.lt
          have z0 := HZ5.out.cell (i := 0) rfl
          have z1 := HZ5.out.cell (i := 1) rfl
          have g0 := HZ5.out.frozen 0
          have g1 := HZ5.out.frozen 1
          refine wpAnyH_ready (rs := [11]) (by kernel_rfl) (by simp) (AllReadyH.cons (o := { dst := none, op := Op.store 51 (Operand.tmp 9) (Operand.tmp 43), type := 0, pos := "ref.go:33", after := #[{ on := 10, ground := Ground.data }, { on := 9, ground := Ground.data }, { on := 9, ground := Ground.chain }, { on := 0, ground := Ground.phase }, { on := 1, ground := Ground.phase }, { on := 2, ground := Ground.phase }, { on := 3, ground := Ground.phase }, { on := 4, ground := Ground.phase }, { on := 5, ground := Ground.phase }, { on := 6, ground := Ground.phase }, { on := 7, ground := Ground.phase }, { on := 8, ground := Ground.phase }, { on := 9, ground := Ground.phase }, { on := 10, ground := Ground.phase }], guard := none }) rfl (fun K hK => ?_) AllReadyH.nil)
          go_simp
          have hle := HZL.out
          have KN := Lib.hid (DK.mk (A := A) (h := h) ((K5.out.x.other (a := ⟨be, 0, none⟩) (by simp; omega) (.int .i64 fc)).other (a := ⟨be, 1, none⟩) (by simp; omega) (.slice fa fn fcap)) ((K5.out.r.other (a := ⟨be, 0, none⟩) (by simp; omega) (.int .i64 fc)).other (a := ⟨be, 1, none⟩) (by simp; omega) (.slice fa fn fcap)) ((K5.out.b.setCell (p := ⟨be, 0, none⟩) (by simp; omega) (.int .i64 fc)).setCell (p := ⟨be, 1, none⟩) (by simp; omega) (.slice fa fn fcap)))
          refine hK.out _ _ KN.out (fun hHeld => ?_)
          clear hK K hHeld
          try simp only [Act.put, List.setIfInBounds_toArray, List.set_cons_zero, List.set_cons_succ]
          refine wpAnyH_done (by kernel_rfl) ?_ _
          exact HQ.out _ _ _ _ _ _ _ _ _ _ _ _ _ _ _ _ ((HZ5.out.set 0 _).set 1 _) (HF5.out.put HZ5.out _ _) KN.out
        · go_simp
          have hb4 := (Below.refl wb3.heap.size wb3).alloc (Nat.le_refl _) (.cells #[.int .i64 0, .slice none 0 0] 51)
          have K4 := Lib.hid (K3.out.below hb4)
          have HV4 := Lib.hid (HV3.out.below hb4)
          have HU4 := Lib.hid (HU3.out.below hb4)
          have HE4 := Lib.hid (HE3.out.below hb4 HE3.out.lt)
          have HZ4 := Lib.hid (Cells.new wb3 51 errZero)
          have HZL4 := Lib.hid (show w.heap.size + 1 < wb3.heap.size from K3.out.r.lt)
          refine hK.out _ _ K4.out (fun hHeld => ?_)
          clear hK K hHeld hb4 K3 HV3 HU3 HE3
          simp only [Act.put, List.setIfInBounds_toArray, List.set_cons_zero, List.set_cons_succ]
          obtain ⟨be, hbe⟩ : ∃ be, wb3.heap.size = be := ⟨_, rfl⟩
          obtain ⟨wa4, hwa⟩ : ∃ wa, wb3.alloc (.cells #[.int .i64 0, .slice none 0 0] 51) = wa := ⟨_, rfl⟩
          have hz := HZ4.out
          change Cells (wb3.alloc (.cells #[.int .i64 0, .slice none 0 0] 51)) _ _ _ at hz
          rw [hwa, hbe] at hz
          rw [hbe] at HZL4 ⊢
          have hx := K4.out
          rw [hwa] at hx
          clear K4
          have K4 := Lib.hid hx
          clear hx
          have hx := HV4.out
          rw [hwa] at hx
          clear HV4
          have HV4 := Lib.hid hx
          clear hx
          have hx := HU4.out
          rw [hwa] at hx
          clear HU4
          have HU4 := Lib.hid hx
          clear hx
          have hx := HE4.out
          rw [hwa] at hx
          clear HE4
          have HE4 := Lib.hid hx
          clear hx
          rw [hwa]
          clear HZ4
          have HZ4 := Lib.hid hz
          have HZL := Lib.hid HZL4.out
          clear hz HZL4 hbe hwa
          refine wpAnyH_ready (rs := [9]) (by kernel_rfl) (by simp) (AllReadyH.cons (o := { dst := some 43, op := Op.call { callee := Callee.value (Operand.func 41), args := #[Operand.tmp 42], argTypes := #[88] }, type := 51, pos := "ref.go:33", after := #[{ on := 8, ground := Ground.data }, { on := 7, ground := Ground.chain }], guard := none }) rfl (fun K hK => ?_) AllReadyH.nil)
          go_simp
          refine (rfirst_lit _ _ HE4.out HV4.out HU4.out (listErr_posE _ _ _) (listErr_posE _ _ _)).mono ?_
          rintro e wc5 ⟨v, rfl, hv, hb⟩
          obtain ⟨fc, fa, fn, fcap, rfl⟩ := hv.form
          have K5 := Lib.hid (K4.out.below hb)
          have HV5 := Lib.hid (HV4.out.below hb)
          have HU5 := Lib.hid (HU4.out.below hb)
          have HE5 := Lib.hid (HE4.out.below hb HE4.out.lt)
          have HZ5 := Lib.hid (HZ4.out.below hb HZ4.out.lt)
          have HF5 := Lib.hid (hv)
          go_wp2_with fail
          refine hK.out _ _ K5.out (fun hHeld => ?_)
          clear hK K hHeld hb K4 HV4 HU4 HE4 HZ4
          simp only [Act.put, List.setIfInBounds_toArray, List.set_cons_zero, List.set_cons_succ]
          have lz := HZ5.out.lt
          have z0 := HZ5.out.cell (i := 0) rfl
          have z1 := HZ5.out.cell (i := 1) rfl
          have g0 := HZ5.out.frozen 0
          have g1 := HZ5.out.frozen 1
          refine wpAnyH_ready (rs := [11]) (by kernel_rfl) (by simp) (AllReadyH.cons (o := { dst := none, op := Op.store 51 (Operand.tmp 9) (Operand.tmp 43), type := 0, pos := "ref.go:33", after := #[{ on := 10, ground := Ground.data }, { on := 9, ground := Ground.data }, { on := 9, ground := Ground.chain }, { on := 0, ground := Ground.phase }, { on := 1, ground := Ground.phase }, { on := 2, ground := Ground.phase }, { on := 3, ground := Ground.phase }, { on := 4, ground := Ground.phase }, { on := 5, ground := Ground.phase }, { on := 6, ground := Ground.phase }, { on := 7, ground := Ground.phase }, { on := 8, ground := Ground.phase }, { on := 9, ground := Ground.phase }, { on := 10, ground := Ground.phase }], guard := none }) rfl (fun K hK => ?_) AllReadyH.nil)
          go_simp
          have hle := HZL.out
          have KN := Lib.hid (DK.mk (A := A) (h := h) ((K5.out.x.other (a := ⟨be, 0, none⟩) (by simp; omega) (.int .i64 fc)).other (a := ⟨be, 1, none⟩) (by simp; omega) (.slice fa fn fcap)) ((K5.out.r.other (a := ⟨be, 0, none⟩) (by simp; omega) (.int .i64 fc)).other (a := ⟨be, 1, none⟩) (by simp; omega) (.slice fa fn fcap)) ((K5.out.b.setCell (p := ⟨be, 0, none⟩) (by simp; omega) (.int .i64 fc)).setCell (p := ⟨be, 1, none⟩) (by simp; omega) (.slice fa fn fcap)))
          refine hK.out _ _ KN.out (fun hHeld => ?_)
          clear hK K hHeld
          try simp only [Act.put, List.setIfInBounds_toArray, List.set_cons_zero, List.set_cons_succ]
          refine wpAnyH_done (by kernel_rfl) ?_ _
          exact HQ.out _ _ _ _ _ _ _ _ _ _ _ _ _ _ _ _ ((HZ5.out.set 0 _).set 1 _) (HF5.out.put HZ5.out _ _) KN.out
      · go_simp
        have hb3 := (Below.refl wc2.heap.size wc2).alloc (Nat.le_refl _) (.cells #[.int .i64 0, .slice none 0 0] 51)
        have K3 := Lib.hid (K2.out.below hb3)
        have HV3 := Lib.hid (HV2.out.below hb3)
        have HU3 := Lib.hid (HU2.out.below hb3)
        have HZ3 := Lib.hid (Cells.new wc2 51 errZero)
        have HZL3 := Lib.hid (show w.heap.size + 1 < wc2.heap.size from K2.out.r.lt)
        refine hK.out _ _ K3.out (fun hHeld => ?_)
        clear hK K hHeld hb3 K2 HV2 HU2
        simp only [Act.put, List.setIfInBounds_toArray, List.set_cons_zero, List.set_cons_succ]
        obtain ⟨be, hbe⟩ : ∃ be, wc2.heap.size = be := ⟨_, rfl⟩
        obtain ⟨wa3, hwa⟩ : ∃ wa, wc2.alloc (.cells #[.int .i64 0, .slice none 0 0] 51) = wa := ⟨_, rfl⟩
        have hz := HZ3.out
        change Cells (wc2.alloc (.cells #[.int .i64 0, .slice none 0 0] 51)) _ _ _ at hz
        rw [hwa, hbe] at hz
        rw [hbe] at HZL3 ⊢
        have hx := K3.out
        rw [hwa] at hx
        clear K3
        have K3 := Lib.hid hx
        clear hx
        have hx := HV3.out
        rw [hwa] at hx
        clear HV3
        have HV3 := Lib.hid hx
        clear hx
        have hx := HU3.out
        rw [hwa] at hx
        clear HU3
        have HU3 := Lib.hid hx
        clear hx
        rw [hwa]
        clear HZ3
        have HZ3 := Lib.hid hz
        have HZL := Lib.hid HZL3.out
        clear hz HZL3 hbe hwa
        refine wpAnyH_ready (rs := [8]) (by kernel_rfl) (by simp) (AllReadyH.cons (o := { dst := some 42, op := Op.buildSlice 88 2 #[(0, Operand.tmp 36), (1, Operand.tmp 41)], type := 88, pos := "ref.go:33", after := #[{ on := 2, ground := Ground.data }, { on := 7, ground := Ground.data }], guard := none }) rfl (fun K hK => ?_) AllReadyH.nil)
        go_simp
        have hb := (Below.refl wa3.heap.size wa3).alloc (Nat.le_refl _) (.cells #[.int .i64 c1, .slice a1 n1 k1, .int .i64 c2, .slice a2 n2 k2] 51)
        have K4 := Lib.hid (K3.out.below hb)
        have HV4 := Lib.hid (HV3.out.below hb)
        have HU4 := Lib.hid (HU3.out.below hb)
        have HZ4 := Lib.hid (HZ3.out.below hb HZ3.out.lt)
        have HE4 := Lib.hid (Cells.new wa3 51 [.int .i64 c1, .slice a1 n1 k1, .int .i64 c2, .slice a2 n2 k2])
        refine hK.out _ _ K4.out (fun hHeld => ?_)
        clear hK K hHeld hb K3 HV3 HU3 HZ3
        simp only [Act.put, List.setIfInBounds_toArray, List.set_cons_zero, List.set_cons_succ]
        obtain ⟨wb4, hwb⟩ : ∃ wb, wa3.alloc (.cells #[.int .i64 c1, .slice a1 n1 k1, .int .i64 c2, .slice a2 n2 k2] 51) = wb := ⟨_, rfl⟩
        have hx := K4.out
        rw [hwb] at hx
        clear K4
        have K4 := Lib.hid hx
        clear hx
        have hx := HV4.out
        rw [hwb] at hx
        clear HV4
        have HV4 := Lib.hid hx
        clear hx
        have hx := HU4.out
        rw [hwb] at hx
        clear HU4
        have HU4 := Lib.hid hx
        clear hx
        have hx := HZ4.out
        rw [hwb] at hx
        clear HZ4
        have HZ4 := Lib.hid hx
        clear hx
        have hx := HE4.out
        change Cells (wa3.alloc (.cells #[.int .i64 c1, .slice a1 n1 k1, .int .i64 c2, .slice a2 n2 k2] 51)) _ _ _ at hx
        rw [hwb] at hx
        clear HE4
        have HE4 := Lib.hid hx
        clear hx
        rw [hwb]
        clear hwb
        refine wpAnyH_ready (rs := [9]) (by kernel_rfl) (by simp) (AllReadyH.cons (o := { dst := some 43, op := Op.call { callee := Callee.value (Operand.func 41), args := #[Operand.tmp 42], argTypes := #[88] }, type := 51, pos := "ref.go:33", after := #[{ on := 8, ground := Ground.data }, { on := 7, ground := Ground.chain }], guard := none }) rfl (fun K hK => ?_) AllReadyH.nil)
        go_simp
        refine (rfirst_lit _ _ HE4.out HV4.out HU4.out (listErr_posE _ _ _) (listErr_posE _ _ _)).mono ?_
        rintro e wc5 ⟨v, rfl, hv, hb⟩
        obtain ⟨fc, fa, fn, fcap, rfl⟩ := hv.form
        have K5 := Lib.hid (K4.out.below hb)
        have HV5 := Lib.hid (HV4.out.below hb)
        have HU5 := Lib.hid (HU4.out.below hb)
        have HZ5 := Lib.hid (HZ4.out.below hb HZ4.out.lt)
        have HE5 := Lib.hid (HE4.out.below hb HE4.out.lt)
        have HF5 := Lib.hid (hv)
        go_wp2_with fail
        refine hK.out _ _ K5.out (fun hHeld => ?_)
        clear hK K hHeld hb K4 HV4 HU4 HZ4 HE4
        simp only [Act.put, List.setIfInBounds_toArray, List.set_cons_zero, List.set_cons_succ]
        have lz := HZ5.out.lt
        have z0 := HZ5.out.cell (i := 0) rfl
        have z1 := HZ5.out.cell (i := 1) rfl
        have g0 := HZ5.out.frozen 0
        have g1 := HZ5.out.frozen 1
        refine wpAnyH_ready (rs := [11]) (by kernel_rfl) (by simp) (AllReadyH.cons (o := { dst := none, op := Op.store 51 (Operand.tmp 9) (Operand.tmp 43), type := 0, pos := "ref.go:33", after := #[{ on := 10, ground := Ground.data }, { on := 9, ground := Ground.data }, { on := 9, ground := Ground.chain }, { on := 0, ground := Ground.phase }, { on := 1, ground := Ground.phase }, { on := 2, ground := Ground.phase }, { on := 3, ground := Ground.phase }, { on := 4, ground := Ground.phase }, { on := 5, ground := Ground.phase }, { on := 6, ground := Ground.phase }, { on := 7, ground := Ground.phase }, { on := 8, ground := Ground.phase }, { on := 9, ground := Ground.phase }, { on := 10, ground := Ground.phase }], guard := none }) rfl (fun K hK => ?_) AllReadyH.nil)
        go_simp
        have hle := HZL.out
        have KN := Lib.hid (DK.mk (A := A) (h := h) ((K5.out.x.other (a := ⟨be, 0, none⟩) (by simp; omega) (.int .i64 fc)).other (a := ⟨be, 1, none⟩) (by simp; omega) (.slice fa fn fcap)) ((K5.out.r.other (a := ⟨be, 0, none⟩) (by simp; omega) (.int .i64 fc)).other (a := ⟨be, 1, none⟩) (by simp; omega) (.slice fa fn fcap)) ((K5.out.b.setCell (p := ⟨be, 0, none⟩) (by simp; omega) (.int .i64 fc)).setCell (p := ⟨be, 1, none⟩) (by simp; omega) (.slice fa fn fcap)))
        refine hK.out _ _ KN.out (fun hHeld => ?_)
        clear hK K hHeld
        try simp only [Act.put, List.setIfInBounds_toArray, List.set_cons_zero, List.set_cons_succ]
        refine wpAnyH_done (by kernel_rfl) ?_ _
        exact HQ.out _ _ _ _ _ _ _ _ _ _ _ _ _ _ _ _ ((HZ5.out.set 0 _).set 1 _) (HF5.out.put HZ5.out _ _) KN.out
    · go_simp
      have hb2 := (Below.refl wc1.heap.size wc1).alloc (Nat.le_refl _) (.cells #[.int .i64 0, .slice none 0 0] 51)
      have K2 := Lib.hid (K1.out.below hb2)
      have HV2 := Lib.hid (HV1.out.below hb2)
      have HZ2 := Lib.hid (Cells.new wc1 51 errZero)
      have HZL2 := Lib.hid (show w.heap.size + 1 < wc1.heap.size from K1.out.r.lt)
      refine hK.out _ _ K2.out (fun hHeld => ?_)
      clear hK K hHeld hb2 K1 HV1
      simp only [Act.put, List.setIfInBounds_toArray, List.set_cons_zero, List.set_cons_succ]
      obtain ⟨be, hbe⟩ : ∃ be, wc1.heap.size = be := ⟨_, rfl⟩
      obtain ⟨wa2, hwa⟩ : ∃ wa, wc1.alloc (.cells #[.int .i64 0, .slice none 0 0] 51) = wa := ⟨_, rfl⟩
      have hz := HZ2.out
      change Cells (wc1.alloc (.cells #[.int .i64 0, .slice none 0 0] 51)) _ _ _ at hz
      rw [hwa, hbe] at hz
      rw [hbe] at HZL2 ⊢
      have hx := K2.out
      rw [hwa] at hx
      clear K2
      have K2 := Lib.hid hx
      clear hx
      have hx := HV2.out
      rw [hwa] at hx
      clear HV2
      have HV2 := Lib.hid hx
      clear hx
      rw [hwa]
      clear HZ2
      have HZ2 := Lib.hid hz
      have HZL := Lib.hid HZL2.out
      clear hz HZL2 hbe hwa
      refine wpAnyH_ready (rs := [7]) (by kernel_rfl) (by simp) (AllReadyH.cons (o := { dst := some 41, op := Op.call { callee := Callee.value (Operand.func 42), args := #[Operand.tmp 37, Operand.tmp 38, Operand.tmp 40], argTypes := #[25, 40, 3] }, type := 51, pos := "ref.go:33", after := #[{ on := 3, ground := Ground.data }, { on := 4, ground := Ground.data }, { on := 6, ground := Ground.data }, { on := 2, ground := Ground.chain }], guard := none }) rfl (fun K hK => ?_) AllReadyH.nil)
      go_simp
      refine (rlist_lit A h cols ca cc rows.length cols.length _ _ (sc.below K2.out.b) rfl rfl (by omega) (by omega) hw.2).mono ?_
      rintro e wc3 ⟨v, rfl, hv, hb⟩
      obtain ⟨c2, a2, n2, k2, rfl⟩ := hv.form
      have K3 := Lib.hid (K2.out.below hb)
      have HV3 := Lib.hid (HV2.out.below hb)
      have HZ3 := Lib.hid (HZ2.out.below hb HZ2.out.lt)
      have HU3 := Lib.hid (hv)
      go_wp2_with fail
      refine hK.out _ _ K3.out (fun hHeld => ?_)
      clear hK K hHeld hb K2 HV2 HZ2
      simp only [Act.put, List.setIfInBounds_toArray, List.set_cons_zero, List.set_cons_succ]
      refine wpAnyH_ready (rs := [8]) (by kernel_rfl) (by simp) (AllReadyH.cons (o := { dst := some 42, op := Op.buildSlice 88 2 #[(0, Operand.tmp 36), (1, Operand.tmp 41)], type := 88, pos := "ref.go:33", after := #[{ on := 2, ground := Ground.data }, { on := 7, ground := Ground.data }], guard := none }) rfl (fun K hK => ?_) AllReadyH.nil)
      go_simp
      have hb := (Below.refl wc3.heap.size wc3).alloc (Nat.le_refl _) (.cells #[.int .i64 c1, .slice a1 n1 k1, .int .i64 c2, .slice a2 n2 k2] 51)
      have K4 := Lib.hid (K3.out.below hb)
      have HV4 := Lib.hid (HV3.out.below hb)
      have HZ4 := Lib.hid (HZ3.out.below hb HZ3.out.lt)
      have HU4 := Lib.hid (HU3.out.below hb)
      have HE4 := Lib.hid (Cells.new wc3 51 [.int .i64 c1, .slice a1 n1 k1, .int .i64 c2, .slice a2 n2 k2])
      refine hK.out _ _ K4.out (fun hHeld => ?_)
      clear hK K hHeld hb K3 HV3 HZ3 HU3
      simp only [Act.put, List.setIfInBounds_toArray, List.set_cons_zero, List.set_cons_succ]
      obtain ⟨wb4, hwb⟩ : ∃ wb, wc3.alloc (.cells #[.int .i64 c1, .slice a1 n1 k1, .int .i64 c2, .slice a2 n2 k2] 51) = wb := ⟨_, rfl⟩
      have hx := K4.out
      rw [hwb] at hx
      clear K4
      have K4 := Lib.hid hx
      clear hx
      have hx := HV4.out
      rw [hwb] at hx
      clear HV4
      have HV4 := Lib.hid hx
      clear hx
      have hx := HZ4.out
      rw [hwb] at hx
      clear HZ4
      have HZ4 := Lib.hid hx
      clear hx
      have hx := HU4.out
      rw [hwb] at hx
      clear HU4
      have HU4 := Lib.hid hx
      clear hx
      have hx := HE4.out
      change Cells (wc3.alloc (.cells #[.int .i64 c1, .slice a1 n1 k1, .int .i64 c2, .slice a2 n2 k2] 51)) _ _ _ at hx
      rw [hwb] at hx
      clear HE4
      have HE4 := Lib.hid hx
      clear hx
      rw [hwb]
      clear hwb
      refine wpAnyH_ready (rs := [9]) (by kernel_rfl) (by simp) (AllReadyH.cons (o := { dst := some 43, op := Op.call { callee := Callee.value (Operand.func 41), args := #[Operand.tmp 42], argTypes := #[88] }, type := 51, pos := "ref.go:33", after := #[{ on := 8, ground := Ground.data }, { on := 7, ground := Ground.chain }], guard := none }) rfl (fun K hK => ?_) AllReadyH.nil)
      go_simp
      refine (rfirst_lit _ _ HE4.out HV4.out HU4.out (listErr_posE _ _ _) (listErr_posE _ _ _)).mono ?_
      rintro e wc5 ⟨v, rfl, hv, hb⟩
      obtain ⟨fc, fa, fn, fcap, rfl⟩ := hv.form
      have K5 := Lib.hid (K4.out.below hb)
      have HV5 := Lib.hid (HV4.out.below hb)
      have HZ5 := Lib.hid (HZ4.out.below hb HZ4.out.lt)
      have HU5 := Lib.hid (HU4.out.below hb)
      have HE5 := Lib.hid (HE4.out.below hb HE4.out.lt)
      have HF5 := Lib.hid (hv)
      go_wp2_with fail
      refine hK.out _ _ K5.out (fun hHeld => ?_)
      clear hK K hHeld hb K4 HV4 HZ4 HU4 HE4
      simp only [Act.put, List.setIfInBounds_toArray, List.set_cons_zero, List.set_cons_succ]
      have lz := HZ5.out.lt
      have z0 := HZ5.out.cell (i := 0) rfl
      have z1 := HZ5.out.cell (i := 1) rfl
      have g0 := HZ5.out.frozen 0
      have g1 := HZ5.out.frozen 1
      refine wpAnyH_ready (rs := [11]) (by kernel_rfl) (by simp) (AllReadyH.cons (o := { dst := none, op := Op.store 51 (Operand.tmp 9) (Operand.tmp 43), type := 0, pos := "ref.go:33", after := #[{ on := 10, ground := Ground.data }, { on := 9, ground := Ground.data }, { on := 9, ground := Ground.chain }, { on := 0, ground := Ground.phase }, { on := 1, ground := Ground.phase }, { on := 2, ground := Ground.phase }, { on := 3, ground := Ground.phase }, { on := 4, ground := Ground.phase }, { on := 5, ground := Ground.phase }, { on := 6, ground := Ground.phase }, { on := 7, ground := Ground.phase }, { on := 8, ground := Ground.phase }, { on := 9, ground := Ground.phase }, { on := 10, ground := Ground.phase }], guard := none }) rfl (fun K hK => ?_) AllReadyH.nil)
      go_simp
      have hle := HZL.out
      have KN := Lib.hid (DK.mk (A := A) (h := h) ((K5.out.x.other (a := ⟨be, 0, none⟩) (by simp; omega) (.int .i64 fc)).other (a := ⟨be, 1, none⟩) (by simp; omega) (.slice fa fn fcap)) ((K5.out.r.other (a := ⟨be, 0, none⟩) (by simp; omega) (.int .i64 fc)).other (a := ⟨be, 1, none⟩) (by simp; omega) (.slice fa fn fcap)) ((K5.out.b.setCell (p := ⟨be, 0, none⟩) (by simp; omega) (.int .i64 fc)).setCell (p := ⟨be, 1, none⟩) (by simp; omega) (.slice fa fn fcap)))
      refine hK.out _ _ KN.out (fun hHeld => ?_)
      clear hK K hHeld
      try simp only [Act.put, List.setIfInBounds_toArray, List.set_cons_zero, List.set_cons_succ]
      refine wpAnyH_done (by kernel_rfl) ?_ _
      exact HQ.out _ _ _ _ _ _ _ _ _ _ _ _ _ _ _ _ ((HZ5.out.set 0 _).set 1 _) (HF5.out.put HZ5.out _ _) KN.out
  · go_simp
    have hb1 := (Below.refl wd.heap.size wd).alloc (Nat.le_refl _) (.cells #[.int .i64 0, .slice none 0 0] 51)
    have K1 := Lib.hid (K0.out.below hb1)
    have HZ1 := Lib.hid (Cells.new wd 51 errZero)
    have HZL1 := Lib.hid (show w.heap.size + 1 < wd.heap.size from K0.out.r.lt)
    refine hK.out _ _ K1.out (fun hHeld => ?_)
    clear hK K hHeld hb1 K0
    simp only [Act.put, List.setIfInBounds_toArray, List.set_cons_zero, List.set_cons_succ]
    obtain ⟨be, hbe⟩ : ∃ be, wd.heap.size = be := ⟨_, rfl⟩
    obtain ⟨wa1, hwa⟩ : ∃ wa, wd.alloc (.cells #[.int .i64 0, .slice none 0 0] 51) = wa := ⟨_, rfl⟩
    have hz := HZ1.out
    change Cells (wd.alloc (.cells #[.int .i64 0, .slice none 0 0] 51)) _ _ _ at hz
    rw [hwa, hbe] at hz
    rw [hbe] at HZL1 ⊢
    have hx := K1.out
    rw [hwa] at hx
    clear K1
    have K1 := Lib.hid hx
    clear hx
    rw [hwa]
    clear HZ1
    have HZ1 := Lib.hid hz
    have HZL := Lib.hid HZL1.out
    clear hz HZL1 hbe hwa
    refine wpAnyH_ready (rs := [2]) (by kernel_rfl) (by simp) (AllReadyH.cons (o := { dst := some 36, op := Op.call { callee := Callee.value (Operand.func 42), args := #[Operand.tmp 34, Operand.tmp 35, Operand.const (Value.int IntKind.i64 0)], argTypes := #[25, 40, 3] }, type := 51, pos := "ref.go:33", after := #[{ on := 0, ground := Ground.data }, { on := 1, ground := Ground.data }], guard := none }) rfl (fun K hK => ?_) AllReadyH.nil)
    go_simp
    refine (rlist_lit A h rows ra rc 0 rows.length 0 _ (sr.below K1.out.b) rfl rfl (by omega) (by omega) hw.1).mono ?_
    rintro e wc2 ⟨v, rfl, hv, hb⟩
    obtain ⟨c1, a1, n1, k1, rfl⟩ := hv.form
    have K2 := Lib.hid (K1.out.below hb)
    have HZ2 := Lib.hid (HZ1.out.below hb HZ1.out.lt)
    have HV2 := Lib.hid (hv)
    go_wp2_with fail
    refine hK.out _ _ K2.out (fun hHeld => ?_)
    clear hK K hHeld hb K1 HZ1
    simp only [Act.put, List.setIfInBounds_toArray, List.set_cons_zero, List.set_cons_succ]
    refine wpAnyH_ready (rs := [7]) (by kernel_rfl) (by simp) (AllReadyH.cons (o := { dst := some 41, op := Op.call { callee := Callee.value (Operand.func 42), args := #[Operand.tmp 37, Operand.tmp 38, Operand.tmp 40], argTypes := #[25, 40, 3] }, type := 51, pos := "ref.go:33", after := #[{ on := 3, ground := Ground.data }, { on := 4, ground := Ground.data }, { on := 6, ground := Ground.data }, { on := 2, ground := Ground.chain }], guard := none }) rfl (fun K hK => ?_) AllReadyH.nil)
    go_simp
    refine (rlist_lit A h cols ca cc rows.length cols.length _ _ (sc.below K2.out.b) rfl rfl (by omega) (by omega) hw.2).mono ?_
    rintro e wc3 ⟨v, rfl, hv, hb⟩
    obtain ⟨c2, a2, n2, k2, rfl⟩ := hv.form
    have K3 := Lib.hid (K2.out.below hb)
    have HZ3 := Lib.hid (HZ2.out.below hb HZ2.out.lt)
    have HV3 := Lib.hid (HV2.out.below hb)
    have HU3 := Lib.hid (hv)
    go_wp2_with fail
    refine hK.out _ _ K3.out (fun hHeld => ?_)
    clear hK K hHeld hb K2 HZ2 HV2
    simp only [Act.put, List.setIfInBounds_toArray, List.set_cons_zero, List.set_cons_succ]
    refine wpAnyH_ready (rs := [8]) (by kernel_rfl) (by simp) (AllReadyH.cons (o := { dst := some 42, op := Op.buildSlice 88 2 #[(0, Operand.tmp 36), (1, Operand.tmp 41)], type := 88, pos := "ref.go:33", after := #[{ on := 2, ground := Ground.data }, { on := 7, ground := Ground.data }], guard := none }) rfl (fun K hK => ?_) AllReadyH.nil)
    go_simp
    have hb := (Below.refl wc3.heap.size wc3).alloc (Nat.le_refl _) (.cells #[.int .i64 c1, .slice a1 n1 k1, .int .i64 c2, .slice a2 n2 k2] 51)
    have K4 := Lib.hid (K3.out.below hb)
    have HZ4 := Lib.hid (HZ3.out.below hb HZ3.out.lt)
    have HV4 := Lib.hid (HV3.out.below hb)
    have HU4 := Lib.hid (HU3.out.below hb)
    have HE4 := Lib.hid (Cells.new wc3 51 [.int .i64 c1, .slice a1 n1 k1, .int .i64 c2, .slice a2 n2 k2])
    refine hK.out _ _ K4.out (fun hHeld => ?_)
    clear hK K hHeld hb K3 HZ3 HV3 HU3
    simp only [Act.put, List.setIfInBounds_toArray, List.set_cons_zero, List.set_cons_succ]
    obtain ⟨wb4, hwb⟩ : ∃ wb, wc3.alloc (.cells #[.int .i64 c1, .slice a1 n1 k1, .int .i64 c2, .slice a2 n2 k2] 51) = wb := ⟨_, rfl⟩
    have hx := K4.out
    rw [hwb] at hx
    clear K4
    have K4 := Lib.hid hx
    clear hx
    have hx := HZ4.out
    rw [hwb] at hx
    clear HZ4
    have HZ4 := Lib.hid hx
    clear hx
    have hx := HV4.out
    rw [hwb] at hx
    clear HV4
    have HV4 := Lib.hid hx
    clear hx
    have hx := HU4.out
    rw [hwb] at hx
    clear HU4
    have HU4 := Lib.hid hx
    clear hx
    have hx := HE4.out
    change Cells (wc3.alloc (.cells #[.int .i64 c1, .slice a1 n1 k1, .int .i64 c2, .slice a2 n2 k2] 51)) _ _ _ at hx
    rw [hwb] at hx
    clear HE4
    have HE4 := Lib.hid hx
    clear hx
    rw [hwb]
    clear hwb
    refine wpAnyH_ready (rs := [9]) (by kernel_rfl) (by simp) (AllReadyH.cons (o := { dst := some 43, op := Op.call { callee := Callee.value (Operand.func 41), args := #[Operand.tmp 42], argTypes := #[88] }, type := 51, pos := "ref.go:33", after := #[{ on := 8, ground := Ground.data }, { on := 7, ground := Ground.chain }], guard := none }) rfl (fun K hK => ?_) AllReadyH.nil)
    go_simp
    refine (rfirst_lit _ _ HE4.out HV4.out HU4.out (listErr_posE _ _ _) (listErr_posE _ _ _)).mono ?_
    rintro e wc5 ⟨v, rfl, hv, hb⟩
    obtain ⟨fc, fa, fn, fcap, rfl⟩ := hv.form
    have K5 := Lib.hid (K4.out.below hb)
    have HZ5 := Lib.hid (HZ4.out.below hb HZ4.out.lt)
    have HV5 := Lib.hid (HV4.out.below hb)
    have HU5 := Lib.hid (HU4.out.below hb)
    have HE5 := Lib.hid (HE4.out.below hb HE4.out.lt)
    have HF5 := Lib.hid (hv)
    go_wp2_with fail
    refine hK.out _ _ K5.out (fun hHeld => ?_)
    clear hK K hHeld hb K4 HZ4 HV4 HU4 HE4
    simp only [Act.put, List.setIfInBounds_toArray, List.set_cons_zero, List.set_cons_succ]
    have lz := HZ5.out.lt
    have z0 := HZ5.out.cell (i := 0) rfl
    have z1 := HZ5.out.cell (i := 1) rfl
    have g0 := HZ5.out.frozen 0
    have g1 := HZ5.out.frozen 1
    refine wpAnyH_ready (rs := [11]) (by kernel_rfl) (by simp) (AllReadyH.cons (o := { dst := none, op := Op.store 51 (Operand.tmp 9) (Operand.tmp 43), type := 0, pos := "ref.go:33", after := #[{ on := 10, ground := Ground.data }, { on := 9, ground := Ground.data }, { on := 9, ground := Ground.chain }, { on := 0, ground := Ground.phase }, { on := 1, ground := Ground.phase }, { on := 2, ground := Ground.phase }, { on := 3, ground := Ground.phase }, { on := 4, ground := Ground.phase }, { on := 5, ground := Ground.phase }, { on := 6, ground := Ground.phase }, { on := 7, ground := Ground.phase }, { on := 8, ground := Ground.phase }, { on := 9, ground := Ground.phase }, { on := 10, ground := Ground.phase }], guard := none }) rfl (fun K hK => ?_) AllReadyH.nil)
    go_simp
    have hle := HZL.out
    have KN := Lib.hid (DK.mk (A := A) (h := h) ((K5.out.x.other (a := ⟨be, 0, none⟩) (by simp; omega) (.int .i64 fc)).other (a := ⟨be, 1, none⟩) (by simp; omega) (.slice fa fn fcap)) ((K5.out.r.other (a := ⟨be, 0, none⟩) (by simp; omega) (.int .i64 fc)).other (a := ⟨be, 1, none⟩) (by simp; omega) (.slice fa fn fcap)) ((K5.out.b.setCell (p := ⟨be, 0, none⟩) (by simp; omega) (.int .i64 fc)).setCell (p := ⟨be, 1, none⟩) (by simp; omega) (.slice fa fn fcap)))
    refine hK.out _ _ KN.out (fun hHeld => ?_)
    clear hK K hHeld
    try simp only [Act.put, List.setIfInBounds_toArray, List.set_cons_zero, List.set_cons_succ]
    refine wpAnyH_done (by kernel_rfl) ?_ _
    exact HQ.out _ _ _ _ _ _ _ _ _ _ _ _ _ _ _ _ ((HZ5.out.set 0 _).set 1 _) (HF5.out.put HZ5.out _ _) KN.out

end Go.Proofs.Ytjbphoophgbmiaa

/- The reference's DocOf. -/
namespace Go.Proofs.Ytjbphoophgbmiaa
open Go.ChangeShapes Go.WideShapes Go.ChangeAt Go.RowKit Go.Joins Go.Deep

theorem results_te2 {P : Program} {fn : Func} {p r : Tmp} {ty : TypeId} (h : fn.results = #[.tmp p, .cell r ty]) (tmps : Array Value) (w : World) (g : Nat) (t : TypeId) (cs : List Value) (d : TypeDesc)
    (hp : tmps.getD r undef = .pointer (some ⟨g, 0, none⟩)) (hg : Cells w g t cs)
    (hu : P.underlying ty = some d) (hd : (match d with | .struct _ | .array _ _ => true | _ => false) = true) (hi : (P.info? ty).map (·.size) = some cs.length) :
    (results fn tmps).run P w = .ok (.tuple #[tmps.getD p undef, .agg cs.toArray]) w := by
  have hp' : tmps[r]?.getD undef = .pointer (some ⟨g, 0, none⟩) := by simpa using hp
  have hr := run_loadVar_row (P := P) w g t ty cs.toArray (0, 0) d hg hu hd (by simpa using hi)
  simp [results, h, hp', asAddr, hr]
theorem ofErr_pos (h : HierD) (rows cols : List Int) : (ofErr h rows cols).pos := by
  unfold ofErr
  split
  · exact checkErr_pos h
  · split
    · simp [EV.pos]
    · unfold firstOf
      split
      · exact listErr_posE _ _ _
      · exact listErr_posE _ _ _
def RDocOfNew (h : HierD) (rows cols : List Int) (w : World) (e : Ending) (w' : World) : Prop := ∃ m v, e = .returned (.tuple #[m, v]) ∧ ErrV w' v (ofErr h rows cols) ∧ Below w.heap.size w w' ∧ (ofErr h rows cols ≠ .nil → m = .slice none 0 0) ∧
  (ofErr h rows cols = .nil → MSee rows.length cols.length (fun i j => tabD h (rows.getD i 0) (cols.getD j 0)) m w')
theorem rdistances_lit (A : HA) (h : HierD) (w : World) (see : HSee w A h) (hc : checkErr h = .nil) : Calls Try.prog 43 #[.agg #[.slice A.a0 h.node.length A.c0, .slice A.a1 h.upF.length A.c1, .slice A.a2 h.up.length A.c2, .slice A.a3 h.dnF.length A.c3, .slice A.a4 h.dn.length A.c4]] w (RTabNew h w) := rdistances_any A h w see hc
theorem rdoccheck_litT (A : HA) (h : HierD) (w : World) (see : HSee w A h) (hk1 : h.up.length ≤ 140737488355328) (hk2 : h.dn.length ≤ 140737488355328) (hn64 : h.node.length ≤ 140737488355328) : Calls Try.prog 38 #[.agg #[.slice A.a0 h.node.length A.c0, .slice A.a1 h.upF.length A.c1, .slice A.a2 h.up.length A.c2, .slice A.a3 h.dnF.length A.c3, .slice A.a4 h.dn.length A.c4]] w (ErrNew (checkErr h) w) := rdoccheck_any A h w see hk1 hk2 hn64
/-- What is kept where a result's block is written. -/
theorem RTRep.kept {n k : Nat} {X : Nat → Nat → Int} {base : Nat} {m : Value} {vs : Nat → Value} {w w' : World} {bs : List Nat} (t : RTRep n k X base m vs w) (o : Only bs w w') (h : ∀ b ∈ bs, b < base) : RTRep n k X base m vs w' :=
  ⟨own_kept t.own o (fun q hq hm => by have := t.bo q hq; have := h q hm; omega), fun i hi => own_kept (t.r i hi) o (fun q hq hm => by have := (t.lo i hi q hq).1; have := h q hm; omega), t.bo, t.lo⟩

set_option linter.unusedSimpArgs false in
set_option maxRecDepth 100000 in
set_option maxHeartbeats 8000000 in
theorem docof_end {s0 s4 s5 s6 s8 s9 s10 s12 s13 s14 s15 s16 s17 s18 s19 s20 s21 s22 s23 s24 s25 s26 s27 s28 s29 s30 s31 s32 s33 s34 s35 s36 s37 s38 s39 s40 s41 s42 s43 s44 s45 s46 s47 s48 s49 s50 s51 s52 s53 s54 s55 s56 s57 s58 s59 s60 s61 s62 s63 s64 s65 s66 s67 s68 s69 s70 s71 s72 s73 s74 s75 s76 s77 s78 : Value} {A : HA} {h : HierD} {rows cols : List Int} {ra ca : Option Addr} {rc cc : Nat} {w wx : World} {m : Value} {vs : Nat → Value} {base : Nat} (k : DK A h w wx) (hok : ofErr h rows cols = .nil) (ht : RTRep rows.length cols.length (fun i j => tabD h (rows.getD i 0) (cols.getD j 0)) base m vs wx) (hbase : (w.heap.size + 1) < base) : Code.wp Try.prog (tailAt 7 docOfBody) (bodyPost Try.prog Try.f18 (RDocOfNew h rows cols w)) ⟨#[s0, .slice ra rows.length rc, .slice ca cols.length cc, .pointer (some ⟨w.heap.size, 0, none⟩), s4, s5, s6, .pointer (some ⟨(w.heap.size + 1), 0, none⟩), s8, s9, s10, m, s12, s13, s14, s15, s16, s17, s18, s19, s20, s21, s22, s23, s24, s25, s26, s27, s28, s29, s30, s31, s32, s33, s34, s35, s36, s37, s38, s39, s40, s41, s42, s43, s44, s45, s46, s47, s48, s49, s50, s51, s52, s53, s54, s55, s56, s57, s58, s59, s60, s61, s62, s63, s64, s65, s66, s67, s68, s69, s70, s71, s72, s73, s74, s75, s76, s77, s78], []⟩ wx := by
  have K := Lib.hid k
  have HOK := Lib.hid hok
  have HT := Lib.hid ht
  have z0 : wx.cell? ⟨(w.heap.size + 1), 0, none⟩ = some (.int .i64 0) := k.r.cell rfl
  have z1 : wx.cell? ⟨(w.heap.size + 1), 1, none⟩ = some (.slice none 0 0) := k.r.cell rfl
  have g0 := k.r.frozen 0
  have g1 := k.r.frozen 1
  have lr := k.r.lt
  clear k hok ht
  conv => arg 2; whnf
  go_wp2
  refine bodyPost_ret (results_te2 rfl _ _ ((w.heap.size + 1)) 51 [.int .i64 0, .slice none 0 0] _ rfl ((K.out.r.set 0 _).set 1 _) Try.underlying51 rfl (by rw [Try.sizeErr]; rfl)) rfl ?_
  exact ⟨_, _, rfl, by rw [HOK.out]; rfl, (K.out.b.setCell (p := ⟨(w.heap.size + 1), 0, none⟩) (by simp) _).setCell (p := ⟨(w.heap.size + 1), 1, none⟩) (by simp) _, fun e => absurd HOK.out e, fun _ => (HT.out.kept (bs := [(w.heap.size + 1)]) (((Only.refl _ _).setCell (p := ⟨(w.heap.size + 1), 0, none⟩) (.inl (by simp)) _).setCell (p := ⟨(w.heap.size + 1), 1, none⟩) (.inl (by simp)) _) (fun b hb => by simp only [List.mem_singleton] at hb; omega)).see⟩

set_option linter.unusedSimpArgs false in
set_option maxRecDepth 100000 in
set_option maxHeartbeats 8000000 in
theorem docof_loop {s0 s4 s5 s6 s8 s9 s12 s13 s14 s15 s16 s17 s18 s19 s20 s21 s22 s23 s24 s25 s26 s27 s28 s29 s30 s31 s32 s33 s34 s35 s36 s37 s38 s39 s40 s41 s42 s43 s44 s45 s46 s47 s48 s49 s50 s51 s52 s53 s54 s55 s56 s57 s58 s59 s60 s61 s62 s63 s64 s65 s66 s67 s68 s69 s70 s71 s72 s73 s74 s75 s76 s77 s78 : Value} {A : HA} {h : HierD} {rows cols : List Int} {ra ca : Option Addr} {rc cc : Nat} {w wx : World} {dm : Value} (see : HSee w A h) (sr : See w ra rc memInt 1 rows) (sc : See w ca cc memInt 1 cols) (hlr : rows.length ≤ 1048576) (hlc : cols.length ≤ 1048576) (hw : WfList rows ∧ WfList cols) (k : DK A h w wx) (hok : ofErr h rows cols = .nil) (hd : MSee h.node.length h.node.length (fun i j => tabD h i j) dm wx) : Code.wp Try.prog (tailAt 6 docOfBody) (bodyPost Try.prog Try.f18 (RDocOfNew h rows cols w)) ⟨#[s0, .slice ra rows.length rc, .slice ca cols.length cc, .pointer (some ⟨w.heap.size, 0, none⟩), s4, s5, s6, .pointer (some ⟨(w.heap.size + 1), 0, none⟩), s8, s9, dm, .slice none 0 0, s12, s13, s14, s15, s16, s17, s18, s19, s20, s21, s22, s23, s24, s25, s26, s27, s28, s29, s30, s31, s32, s33, s34, s35, s36, s37, s38, s39, s40, s41, s42, s43, s44, s45, s46, s47, s48, s49, s50, s51, s52, s53, s54, s55, s56, s57, s58, s59, s60, s61, s62, s63, s64, s65, s66, s67, s68, s69, s70, s71, s72, s73, s74, s75, s76, s77, s78], []⟩ wx := by
  obtain ⟨hc, hrv, hcv⟩ := of_parts hok
  have hn := (checkErr_parts hc).1.n
  have HOK := Lib.hid hok
  have HRV := Lib.hid hrv
  have HCV := Lib.hid hcv
  have SEE := Lib.hid see
  have SR := Lib.hid sr
  have SC := Lib.hid sc
  have HW := Lib.hid hw
  have K := Lib.hid k
  clear see sr sc hw k
  obtain ⟨da, dc, ro, rn, rfl, hd1, hd2⟩ := hd.ex
  have HD1 := Lib.hid hd1
  have HD2 := Lib.hid hd2
  clear hc hok hrv hcv hd hd1 hd2
  conv => arg 2; whnf
  apply wp_seq_k
  intro KK hK
  have HKK := Lib.hid hK
  clear hK
  go_wp2_with fail
  go_loopg [51, 11] rows.length (fun gg vi vm wr => ∃ (i : Nat) (mo : Option Addr) (mc : Nat) (vs : Nat → Value), vi = .int .i64 (i : Int) ∧ i ≤ rows.length ∧ gg = rows.length - i ∧ vm = .slice mo i mc ∧ RTRep i cols.length (fun i j => tabD h (rows.getD i 0) (cols.getD j 0)) wx.heap.size (.slice mo i mc) vs wr ∧ Below wx.heap.size wx wr)
  case atStart => exact ⟨0, none, 0, fun _ => .nilIface, rfl, Nat.zero_le _, rfl, rfl, RTRep.nil _ _ _ _ _, Below.refl _ _⟩
  case round =>
    obtain ⟨i, mo, mc, vs, rfl, hi, hgi, rfl, ht, hb⟩ := hrel
    obtain ⟨wo, rfl⟩ : ∃ wo : World, wo = wr := ⟨_, rfl⟩
    have HGI := Lib.hid hgi
    have HT := Lib.hid ht
    have HB := Lib.hid hb
    clear hgi ht hb
    by_cases hil : i < rows.length
    · obtain ⟨v, hv⟩ : ∃ v, rows[i]? = some v := ⟨_, List.getElem?_eq_getElem hil⟩
      obtain ⟨hv0, hvn⟩ := HRV.out v (List.mem_of_getElem? hv)
      obtain ⟨x, rfl⟩ : ∃ x : Nat, v = x := ⟨v.toNat, by omega⟩
      have HGD := Lib.hid (show rows.getD i 0 = (x : Int) by rw [List.getD_eq_getElem?_getD, hv]; rfl)
      obtain ⟨b1, o1, ea1, cc1⟩ := (SR.out.below (K.out.b.trans (HB.out.mono K.out.b.size))).cell i _ hv
      have e0 := cc1 0 _ rfl
      rw [Nat.add_zero, Nat.mul_one] at e0
      have EA := Lib.hid ea1
      have hxn : x < h.node.length := by omega
      clear cc1 ea1 hv
      rw [EA.out]
      go_wp2_with fail
      clear e0
      rw [← EA.out]
      obtain ⟨G, hG⟩ : ∃ G : Nat → Int, ((fun i j => tabD h (rows.getD i 0) (cols.getD j 0)) i) = G := ⟨_, rfl⟩
      have HG := Lib.hid hG
      clear hG
      go_loopg [57, 14] cols.length (fun gg vj vr wr => ∃ (j : Nat) (so : Option Addr) (sn : Nat), vj = .int .i64 (j : Int) ∧ j ≤ cols.length ∧ gg = cols.length - j ∧ vr = .slice so j sn ∧ wr.ownsRow 0 33 1 (.slice so j sn) j (rowCells j G) ∧ (∀ q, (Value.slice so j sn).ownBlock = some q → wo.heap.size ≤ q) ∧ Below wo.heap.size wo wr)
      case atStart => exact ⟨0, none, 0, rfl, Nat.zero_le _, rfl, rfl, World.ownsRow_nil _ _ _ _, fun q hq => by simp [Value.ownBlock] at hq, Below.refl _ _⟩
      case round =>
        obtain ⟨j, so, sn, rfl, hj, hgj, rfl, hown, hnew, hb⟩ := hrel
        obtain ⟨wp, rfl⟩ : ∃ wp : World, wp = wr := ⟨_, rfl⟩
        have HGJ := Lib.hid hgj
        have HOWN := Lib.hid hown
        have HNEW := Lib.hid hnew
        have HBL := Lib.hid hb
        have HB2 := Lib.hid (HB.out.trans (hb.mono HB.out.size))
        clear hgj hown hnew hb
        by_cases hjl : j < cols.length
        · obtain ⟨u, hu⟩ : ∃ u, cols[j]? = some u := ⟨_, List.getElem?_eq_getElem hjl⟩
          obtain ⟨hu0, hun⟩ := HCV.out u (List.mem_of_getElem? hu)
          obtain ⟨y, rfl⟩ : ∃ y : Nat, u = y := ⟨u.toNat, by omega⟩
          have HGU := Lib.hid (show cols.getD j 0 = (y : Int) by rw [List.getD_eq_getElem?_getD, hu]; rfl)
          obtain ⟨b2, o2, ea2, cc2⟩ := (SC.out.below (K.out.b.trans (HB2.out.mono K.out.b.size))).cell j _ hu
          have e0 := cc2 0 _ rfl
          rw [Nat.add_zero, Nat.mul_one] at e0
          have EB := Lib.hid ea2
          have hyn : y < h.node.length := by omega
          obtain ⟨b3, o3, ea3, cc3⟩ := (HD1.out.below HB2.out).cell x (.slice (ro x) h.node.length (rn x)) (by simp [hxn])
          have c3 := cc3 0 _ rfl
          rw [Nat.add_zero, Nat.mul_one] at c3
          obtain ⟨b4, o4, ea4, cc4⟩ := ((HD2.out x hxn).below HB2.out).cell y (tabD h x y) (by simp [hyn])
          have c4 := cc4 0 _ rfl
          rw [Nat.add_zero, Nat.mul_one] at c4
          rw [ea4] at c3
          have EC := Lib.hid ea3
          obtain ⟨dd, hdd⟩ : ∃ dd, tabD h x y = dd := ⟨_, rfl⟩
          rw [hdd] at c4
          have HDD := Lib.hid hdd
          clear cc2 ea2 cc3 ea3 cc4 ea4 hu hdd
          have how := HOWN.out
          rw [EB.out, EC.out]
          go_wp2_with (at_builtin; refine wpList_app _ rfl _ _ 48 rfl 33 (.int .u64 0) 1 8 Try.underlying48 Try.infoU64 rfl (by decide) (.slice so j sn) j (rowCells j G) rfl ?owA ⟨wp.heap.size, 0, none⟩ 1 1 [.int .u64 dd] rfl rfl ?pA1 ?pA2 ?pA3 ?pA4 ?_)
          case owA => exact own_kept (bs := []) how ((Only.refl _ _).alloc _) (fun q _ => by simp)
          case pA2 => first | rfl | (intro u hu; simp at hu; rcases hu with rfl; rfl)
          case pA3 => unfold maxLen; omega
          case pA4 => omega
          intro ao5 cap5 w5 hown5 ho5 hk5
          have hall : Only (Value.slice so j sn).ownBlock.toList wp w5 := ((Only.refl _ _).alloc _).trans ho5 (fun x hx => .inl hx)
          have HON := Lib.hid (show w5.ownsRow 0 33 1 (.slice ao5 (j + 1) cap5) (j + 1) (rowCells (j + 1) G) from by
            have hGj : G j = dd := by rw [← HG.out]; simp only [HGD.out, HGU.out, HDD.out]
            rw [rowCells_succ, hGj]
            exact hown5)
          have HNN := Lib.hid (show ∀ q, (Value.slice ao5 (j + 1) cap5).ownBlock = some q → wo.heap.size ≤ q from fun q hq => by
            rcases hk5 q hq with h1 | h1
            · exact HNEW.out q h1
            · exact Nat.le_trans HBL.out.size (Nat.le_trans (by simp) h1))
          have HBN := Lib.hid (HBL.out.trans (hall.below HBL.out.size (fun q hq => HNEW.out q (by simpa using hq))))
          clear hown5 ho5 hk5 hall how c3 c4 e0
          go_wp2_with fail
          rw [← EB.out, ← EC.out]
          go_roundg (cols.length - (j + 1))
          case measure => rw [HGJ.out]; omega
          case rel => exact ⟨j + 1, ao5, cap5, by go_num, by omega, rfl, rfl, HON.out, HNN.out, HBN.out⟩
        · obtain rfl : j = cols.length := by omega
          have HT2 := Lib.hid (HT.out.below HBL.out)
          have HOL := Lib.hid (fun q (hq : (Value.slice mo i mc).ownBlock = some q) => ownRow_lt HT.out.own hq)
          have how := HT2.out.own
          go_wp2_with (at_builtin; refine wpList_app _ rfl _ _ 43 rfl 48 (.slice none 0 0) 1 24 Try.underlying43 Try.infoRow rfl (by decide) (.slice mo i mc) i ((List.range i).map vs) rfl ?owB ⟨wp.heap.size, 0, none⟩ 1 1 [.slice so cols.length sn] rfl rfl ?pB1 ?pB2 ?pB3 ?pB4 ?_)
          case owB => exact own_kept (bs := []) how ((Only.refl _ _).alloc _) (fun q _ => by simp)
          case pB2 => first | rfl | (intro u hu; simp at hu; rcases hu with rfl; rfl)
          case pB3 => unfold maxLen; omega
          case pB4 => omega
          intro ao5 cap5 w5 hown5 ho5 hk5
          have hall : Only (Value.slice mo i mc).ownBlock.toList wp w5 := ((Only.refl _ _).alloc _).trans ho5 (fun x hx => .inl hx)
          have HTN := Lib.hid (HT2.out.app (by rw [HG.out]; exact HOWN.out) (fun q hq => ⟨Nat.le_trans HB.out.size (HNEW.out q hq), fun e => by have := HOL.out q e; have := HNEW.out q hq; omega⟩) hown5 hall (fun q hq => (hk5 q hq).imp id (fun h => Nat.le_trans (by simp) h)) HB2.out.size)
          have HBN := Lib.hid (HB2.out.trans (hall.below HB2.out.size (fun q hq => HT2.out.bo q (by simpa using hq))))
          clear hown5 ho5 hk5 hall how
          go_wp2_with fail
          go_roundg (rows.length - (i + 1))
          case measure => rw [HGI.out]; omega
          case rel => exact ⟨i + 1, ao5, cap5, _, by go_num, by omega, rfl, rfl, HTN.out, HBN.out⟩
    · obtain rfl : i = rows.length := by omega
      go_wp2_with fail
      refine HKK.out _ _ ?_
      change Code.wp _ (tailAt 7 docOfBody) _ _ _
      exact docof_end (K.out.below HB.out) HOK.out HT.out K.out.r.lt

set_option linter.unusedSimpArgs false in
set_option maxRecDepth 100000 in
set_option maxHeartbeats 8000000 in
theorem docof_dist {s0 s4 s5 s6 s8 s9 s10 s11 s12 s13 s14 s15 s16 s17 s18 s19 s20 s21 s22 s23 s24 s25 s26 s27 s28 s29 s30 s31 s32 s33 s34 s35 s36 s37 s38 s39 s40 s41 s42 s43 s44 s45 s46 s47 s48 s49 s50 s51 s52 s53 s54 s55 s56 s57 s58 s59 s60 s61 s62 s63 s64 s65 s66 s67 s68 s69 s70 s71 s72 s73 s74 s75 s76 s77 s78 : Value} {A : HA} {h : HierD} {rows cols : List Int} {ra ca : Option Addr} {rc cc : Nat} {w wx : World} (see : HSee w A h) (sr : See w ra rc memInt 1 rows) (sc : See w ca cc memInt 1 cols) (hlr : rows.length ≤ 1048576) (hlc : cols.length ≤ 1048576) (hw : WfList rows ∧ WfList cols) (k : DK A h w wx) (hok : ofErr h rows cols = .nil) : Code.wp Try.prog (tailAt 4 docOfBody) (bodyPost Try.prog Try.f18 (RDocOfNew h rows cols w)) ⟨#[s0, .slice ra rows.length rc, .slice ca cols.length cc, .pointer (some ⟨w.heap.size, 0, none⟩), s4, s5, s6, .pointer (some ⟨(w.heap.size + 1), 0, none⟩), s8, s9, s10, s11, s12, s13, s14, s15, s16, s17, s18, s19, s20, s21, s22, s23, s24, s25, s26, s27, s28, s29, s30, s31, s32, s33, s34, s35, s36, s37, s38, s39, s40, s41, s42, s43, s44, s45, s46, s47, s48, s49, s50, s51, s52, s53, s54, s55, s56, s57, s58, s59, s60, s61, s62, s63, s64, s65, s66, s67, s68, s69, s70, s71, s72, s73, s74, s75, s76, s77, s78], []⟩ wx := by
  have HC := Lib.hid (of_parts hok).1
  have HOK := Lib.hid hok
  have SEE := Lib.hid see
  have SR := Lib.hid sr
  have SC := Lib.hid sc
  have HW := Lib.hid hw
  have K := Lib.hid k
  clear see sr sc hw k
  obtain ⟨k0, k1, k2, k3, k4⟩ := hier_five K.out.x
  clear hok
  conv => arg 2; whnf
  apply wp_seq_k
  intro KK hK
  have HKK := Lib.hid hK
  clear hK
  go_wp2_with fail
  refine (rdistances_lit A h _ (SEE.out.below K.out.b) HC.out).mono ?_
  rintro e w1 ⟨dm, rfl, hd, hb1⟩
  have K1 := Lib.hid (K.out.below hb1)
  have HD := Lib.hid hd
  clear hd hb1 K k0 k1 k2 k3 k4
  go_wp2_with fail
  refine HKK.out _ _ ?_
  clear HKK KK
  conv => arg 2; whnf
  apply wp_seq_k
  intro K5 hK
  have HK5 := Lib.hid hK
  clear hK
  go_wp2_with fail
  refine HK5.out _ _ ?_
  change Code.wp _ (tailAt 6 docOfBody) _ _ _
  exact docof_loop SEE.out SR.out SC.out hlr hlc HW.out K1.out HOK.out HD.out
set_option linter.unusedSimpArgs false in
set_option maxRecDepth 100000 in
set_option maxHeartbeats 8000000 in
theorem docof_lists {s0 s4 s5 s6 s8 s9 s10 s11 s12 s13 s14 s15 s16 s17 s18 s19 s20 s21 s22 s23 s24 s25 s26 s27 s28 s29 s30 s31 s32 s33 s34 s35 s36 s37 s38 s39 s40 s41 s42 s43 s44 s45 s46 s47 s48 s49 s50 s51 s52 s53 s54 s55 s56 s57 s58 s59 s60 s61 s62 s63 s64 s65 s66 s67 s68 s69 s70 s71 s72 s73 s74 s75 s76 s77 s78 : Value} {A : HA} {h : HierD} {rows cols : List Int} {ra ca : Option Addr} {rc cc : Nat} {w wx : World} (see : HSee w A h) (sr : See w ra rc memInt 1 rows) (sc : See w ca cc memInt 1 cols) (hlr : rows.length ≤ 1048576) (hlc : cols.length ≤ 1048576) (hw : WfList rows ∧ WfList cols) (k : DK A h w wx) (hc : checkErr h = .nil) (hlim : ¬ (0 < rows.length ∧ 1048576 / rows.length < cols.length)) : Code.wp Try.prog (tailAt 3 docOfBody) (bodyPost Try.prog Try.f18 (RDocOfNew h rows cols w)) ⟨#[s0, .slice ra rows.length rc, .slice ca cols.length cc, .pointer (some ⟨w.heap.size, 0, none⟩), s4, s5, s6, .pointer (some ⟨(w.heap.size + 1), 0, none⟩), s8, s9, s10, s11, s12, s13, s14, s15, s16, s17, s18, s19, s20, s21, s22, s23, s24, s25, s26, s27, s28, s29, s30, s31, s32, s33, s34, s35, s36, s37, s38, s39, s40, s41, s42, s43, s44, s45, s46, s47, s48, s49, s50, s51, s52, s53, s54, s55, s56, s57, s58, s59, s60, s61, s62, s63, s64, s65, s66, s67, s68, s69, s70, s71, s72, s73, s74, s75, s76, s77, s78], []⟩ wx := by
  have HOF := Lib.hid (show ofErr h rows cols = firstOf (listErr h.node.length rows 0) (listErr h.node.length cols rows.length) by unfold ofErr; rw [if_neg (fun e => e hc), if_neg hlim])
  have SEE := Lib.hid see
  have SR := Lib.hid sr
  have SC := Lib.hid sc
  have HW := Lib.hid hw
  have K := Lib.hid k
  clear see sr sc hw k
  clear hc hlim
  conv => arg 2; whnf
  apply wp_seq_k
  intro KK hK
  have HKK := Lib.hid hK
  clear hK
  go_upto_region 6 with fail
  change Code.wp _ ((regionAt 6 docOfBody).getD .skip) _ _ _
  refine reg6_o SR.out SC.out hlr hlc HW.out _ (fun _ _ t _ _ hq => by cases t <;> exact hq) K.out SEE.out ?_
  intro be uc ua un ucap t34 t35 t36 t37 t38 t39 t40 t41 t42 t43 w1 he hv hk1
  have K1 := Lib.hid hk1
  have HE := Lib.hid he
  have HV := Lib.hid hv
  have y0 : w1.cell? ⟨be, 0, none⟩ = some (.int .i64 uc) := he.cell rfl
  have y1 : w1.cell? ⟨be, 1, none⟩ = some (.slice ua un ucap) := he.cell rfl
  have HP := Lib.hid (show (firstOf (listErr h.node.length rows 0) (listErr h.node.length cols rows.length)).pos from by rw [← HOF.out]; exact ofErr_pos _ _ _)
  clear he hv hk1 K
  go_wp2_with fail
  refine (bad_any _ (firstOf (listErr h.node.length rows 0) (listErr h.node.length cols rows.length)) _ HV.out HP.out).mono ?_
  rintro e w2 ⟨rfl, hb⟩
  have K2 := Lib.hid (K1.out.below hb)
  have HV2 := Lib.hid (HV.out.below hb)
  have HE2 := Lib.hid (HE.out.below hb HE.out.lt)
  clear hb K1 HV HE y0 y1
  cases hnil : (firstOf (listErr h.node.length rows 0) (listErr h.node.length cols rows.length)).isNil
  · have HNE := Lib.hid (show firstOf (listErr h.node.length rows 0) (listErr h.node.length cols rows.length) ≠ .nil from fun e => by rw [e] at hnil; simp [EV.isNil] at hnil)
    have y0 : w2.cell? ⟨be, 0, none⟩ = some (.int .i64 uc) := HE2.out.cell rfl
    have y1 : w2.cell? ⟨be, 1, none⟩ = some (.slice ua un ucap) := HE2.out.cell rfl
    have z0 : w2.cell? ⟨(w.heap.size + 1), 0, none⟩ = some (.int .i64 0) := K2.out.r.cell rfl
    have z1 : w2.cell? ⟨(w.heap.size + 1), 1, none⟩ = some (.slice none 0 0) := K2.out.r.cell rfl
    have g0 := K2.out.r.frozen 0
    have g1 := K2.out.r.frozen 1
    have lr := K2.out.r.lt
    clear hnil
    go_wp2_with fail
    go_region
    all_goals (try dsimp only [Exit.then])
    all_goals go_wp2_with fail
    all_goals refine bodyPost_ret (results_te2 rfl _ _ ((w.heap.size + 1)) 51 [.int .i64 uc, .slice ua un ucap] _ rfl ((K2.out.r.drew.set 0 _).set 1 _) Try.underlying51 rfl (by rw [Try.sizeErr]; rfl)) rfl ?_
    all_goals exact ⟨_, _, rfl, by rw [HOF.out]; exact (HV2.out.below (Below.refl _ _).drew).put K2.out.r.drew _ _, ((K2.out.b.drew).setCell (p := ⟨(w.heap.size + 1), 0, none⟩) (by simp) _).setCell (p := ⟨(w.heap.size + 1), 1, none⟩) (by simp) _, fun _ => rfl, fun e => absurd (HOF.out.symm.trans e) HNE.out⟩
  · have HOK := Lib.hid (HOF.out.trans (EV.isNil_iff.1 hnil))
    clear hnil HV2 HP
    go_wp2_with fail
    refine HKK.out _ _ ?_
    change Code.wp _ (tailAt 4 docOfBody) _ _ _
    exact docof_dist SEE.out SR.out SC.out hlr hlc HW.out K2.out HOK.out
set_option linter.unusedSimpArgs false in
set_option maxRecDepth 100000 in
set_option maxHeartbeats 8000000 in
theorem docof_lim {s0 s4 s5 s6 s8 s9 s10 s11 s12 s13 s14 s15 s16 s17 s18 s19 s20 s21 s22 s23 s24 s25 s26 s27 s28 s29 s30 s31 s32 s33 s34 s35 s36 s37 s38 s39 s40 s41 s42 s43 s44 s45 s46 s47 s48 s49 s50 s51 s52 s53 s54 s55 s56 s57 s58 s59 s60 s61 s62 s63 s64 s65 s66 s67 s68 s69 s70 s71 s72 s73 s74 s75 s76 s77 s78 : Value} {A : HA} {h : HierD} {rows cols : List Int} {ra ca : Option Addr} {rc cc : Nat} {w wx : World} (see : HSee w A h) (sr : See w ra rc memInt 1 rows) (sc : See w ca cc memInt 1 cols) (hlr : rows.length ≤ 1048576) (hlc : cols.length ≤ 1048576) (hw : WfList rows ∧ WfList cols) (k : DK A h w wx) (hc : checkErr h = .nil) : Code.wp Try.prog (tailAt 2 docOfBody) (bodyPost Try.prog Try.f18 (RDocOfNew h rows cols w)) ⟨#[s0, .slice ra rows.length rc, .slice ca cols.length cc, .pointer (some ⟨w.heap.size, 0, none⟩), s4, s5, s6, .pointer (some ⟨(w.heap.size + 1), 0, none⟩), s8, s9, s10, s11, s12, s13, s14, s15, s16, s17, s18, s19, s20, s21, s22, s23, s24, s25, s26, s27, s28, s29, s30, s31, s32, s33, s34, s35, s36, s37, s38, s39, s40, s41, s42, s43, s44, s45, s46, s47, s48, s49, s50, s51, s52, s53, s54, s55, s56, s57, s58, s59, s60, s61, s62, s63, s64, s65, s66, s67, s68, s69, s70, s71, s72, s73, s74, s75, s76, s77, s78], []⟩ wx := by
  have HC := Lib.hid hc
  have SEE := Lib.hid see
  have SR := Lib.hid sr
  have SC := Lib.hid sc
  have HW := Lib.hid hw
  have K := Lib.hid k
  clear see sr sc hw k
  clear hc
  conv => arg 2; whnf
  apply wp_seq_k
  intro KK hK
  have HKK := Lib.hid hK
  clear hK
  by_cases h0 : 0 < rows.length
  · have t0 : decide (0 < rows.length) = true := by simpa using h0
    have hdiv : (1048576 : Int) / (rows.length : Int) = ((1048576 / rows.length : Nat) : Int) := by rw [Int.natCast_ediv]; rfl
    by_cases hq : 1048576 / rows.length < cols.length
    · have t1 : decide ((1048576 : Int) / (rows.length : Int) < (cols.length : Int)) = true := by rw [hdiv]; simp only [decide_eq_true_eq]; omega
      have HE := Lib.hid (show ofErr h rows cols = .code 9 by unfold ofErr; rw [if_neg (fun e => e HC.out), if_pos ⟨h0, hq⟩])
      clear hq hdiv
      go_wp2_with fail
      refine (e_any 9 _).mono ?_
      rintro e w1 ⟨u, rfl, hu, hb⟩
      obtain rfl : u = _ := hu
      have K1 := Lib.hid (K.out.below hb)
      clear hb K
      have z0 : w1.cell? ⟨(w.heap.size + 1), 0, none⟩ = some (.int .i64 0) := K1.out.r.cell rfl
      have z1 : w1.cell? ⟨(w.heap.size + 1), 1, none⟩ = some (.slice none 0 0) := K1.out.r.cell rfl
      have g0 := K1.out.r.frozen 0
      have g1 := K1.out.r.frozen 1
      have lr := K1.out.r.lt
      go_wp2
      refine bodyPost_ret (results_te2 rfl _ _ ((w.heap.size + 1)) 51 [.int .i64 9, .slice none 0 0] _ rfl ((K1.out.r.set 0 _).set 1 _) Try.underlying51 rfl (by rw [Try.sizeErr]; rfl)) rfl ?_
      exact ⟨_, _, rfl, by rw [HE.out]; rfl, (K1.out.b.setCell (p := ⟨(w.heap.size + 1), 0, none⟩) (by simp) _).setCell (p := ⟨(w.heap.size + 1), 1, none⟩) (by simp) _, fun _ => rfl, fun e => (by rw [HE.out] at e; cases e)⟩
    · have t1 : decide ((1048576 : Int) / (rows.length : Int) < (cols.length : Int)) = false := by rw [hdiv]; simp only [decide_eq_false_iff_not]; omega
      have HL := Lib.hid (show ¬ (0 < rows.length ∧ 1048576 / rows.length < cols.length) from fun e => hq e.2)
      clear hq hdiv
      go_wp2_with fail
      refine HKK.out _ _ ?_
      change Code.wp _ (tailAt 3 docOfBody) _ _ _
      exact docof_lists SEE.out SR.out SC.out hlr hlc HW.out K.out HC.out HL.out
  · have t0 : decide (0 < rows.length) = false := by simpa using h0
    have HL := Lib.hid (show ¬ (0 < rows.length ∧ 1048576 / rows.length < cols.length) from fun e => h0 e.1)
    clear h0
    go_wp2_with fail
    refine HKK.out _ _ ?_
    change Code.wp _ (tailAt 3 docOfBody) _ _ _
    exact docof_lists SEE.out SR.out SC.out hlr hlc HW.out K.out HC.out HL.out
set_option linter.unusedSimpArgs false in
set_option maxRecDepth 100000 in
set_option maxHeartbeats 8000000 in
theorem docof_head {s0 s4 s5 s6 s8 s9 s10 s11 s12 s13 s14 s15 s16 s17 s18 s19 s20 s21 s22 s23 s24 s25 s26 s27 s28 s29 s30 s31 s32 s33 s34 s35 s36 s37 s38 s39 s40 s41 s42 s43 s44 s45 s46 s47 s48 s49 s50 s51 s52 s53 s54 s55 s56 s57 s58 s59 s60 s61 s62 s63 s64 s65 s66 s67 s68 s69 s70 s71 s72 s73 s74 s75 s76 s77 s78 : Value} {A : HA} {h : HierD} {rows cols : List Int} {ra ca : Option Addr} {rc cc : Nat} {w wx : World} (see : HSee w A h) (sr : See w ra rc memInt 1 rows) (sc : See w ca cc memInt 1 cols) (hlr : rows.length ≤ 1048576) (hlc : cols.length ≤ 1048576) (hw : WfList rows ∧ WfList cols) (k : DK A h w wx) (hk1 : h.up.length ≤ 140737488355328) (hk2 : h.dn.length ≤ 140737488355328) (hn64 : h.node.length ≤ 140737488355328) : Code.wp Try.prog (tailAt 1 docOfBody) (bodyPost Try.prog Try.f18 (RDocOfNew h rows cols w)) ⟨#[s0, .slice ra rows.length rc, .slice ca cols.length cc, .pointer (some ⟨w.heap.size, 0, none⟩), s4, s5, s6, .pointer (some ⟨(w.heap.size + 1), 0, none⟩), s8, s9, s10, s11, s12, s13, s14, s15, s16, s17, s18, s19, s20, s21, s22, s23, s24, s25, s26, s27, s28, s29, s30, s31, s32, s33, s34, s35, s36, s37, s38, s39, s40, s41, s42, s43, s44, s45, s46, s47, s48, s49, s50, s51, s52, s53, s54, s55, s56, s57, s58, s59, s60, s61, s62, s63, s64, s65, s66, s67, s68, s69, s70, s71, s72, s73, s74, s75, s76, s77, s78], []⟩ wx := by
  have SEE := Lib.hid see
  have SR := Lib.hid sr
  have SC := Lib.hid sc
  have HW := Lib.hid hw
  have K := Lib.hid k
  clear see sr sc hw k
  obtain ⟨k0, k1, k2, k3, k4⟩ := hier_five K.out.x
  conv => arg 2; whnf
  apply wp_seq_k
  intro KK hK
  have HKK := Lib.hid hK
  clear hK
  go_wp2_with fail
  refine (rdoccheck_litT A h _ (SEE.out.below K.out.b) hk1 hk2 hn64).mono ?_
  rintro e w1 ⟨v, rfl, hv, hb⟩
  obtain ⟨uc, ua, un, ucap, rfl⟩ := hv.form
  have ho := (Below.refl w1.heap.size w1).alloc (Nat.le_refl _) (.cells #[.int .i64 uc, .slice ua un ucap] 51)
  have K1 := Lib.hid ((K.out.below hb).below ho)
  have HV1 := Lib.hid (hv.below ho)
  have HC1 := Lib.hid (Cells.new w1 51 [.int .i64 uc, .slice ua un ucap])
  clear K hb hv k0 k1 k2 k3 k4 ho
  go_wp2_with fail
  refine (bad_any _ (checkErr h) _ HV1.out (checkErr_pos h)).mono ?_
  rintro e w2 ⟨rfl, hb⟩
  have K2 := Lib.hid (K1.out.below hb)
  have HV2 := Lib.hid (HV1.out.below hb)
  have HC2 := Lib.hid (HC1.out.below hb HC1.out.lt)
  obtain ⟨b9, hb9⟩ : ∃ b9, w1.heap.size = b9 := ⟨_, rfl⟩
  rw [hb9] at HC2 ⊢
  clear K1 HV1 HC1 hb hb9
  cases hnil : (checkErr h).isNil
  · have HNE := Lib.hid (show checkErr h ≠ .nil from fun e => by rw [e] at hnil; simp [EV.isNil] at hnil)
    have HOF := Lib.hid (show ofErr h rows cols = checkErr h by unfold ofErr; rw [if_pos HNE.out])
    have y0 : w2.cell? ⟨b9, 0, none⟩ = some (.int .i64 uc) := HC2.out.cell rfl
    have y1 : w2.cell? ⟨b9, 1, none⟩ = some (.slice ua un ucap) := HC2.out.cell rfl
    have z0 : w2.cell? ⟨(w.heap.size + 1), 0, none⟩ = some (.int .i64 0) := K2.out.r.cell rfl
    have z1 : w2.cell? ⟨(w.heap.size + 1), 1, none⟩ = some (.slice none 0 0) := K2.out.r.cell rfl
    have g0 := K2.out.r.frozen 0
    have g1 := K2.out.r.frozen 1
    have lr := K2.out.r.lt
    clear hnil
    go_wp2_with fail
    go_region
    all_goals (try dsimp only [Exit.then])
    all_goals go_wp2_with fail
    all_goals refine bodyPost_ret (results_te2 rfl _ _ ((w.heap.size + 1)) 51 [.int .i64 uc, .slice ua un ucap] _ rfl ((K2.out.r.drew.set 0 _).set 1 _) Try.underlying51 rfl (by rw [Try.sizeErr]; rfl)) rfl ?_
    all_goals exact ⟨_, _, rfl, by rw [HOF.out]; exact (HV2.out.below (Below.refl _ _).drew).put K2.out.r.drew _ _, ((K2.out.b.drew).setCell (p := ⟨(w.heap.size + 1), 0, none⟩) (by simp) _).setCell (p := ⟨(w.heap.size + 1), 1, none⟩) (by simp) _, fun _ => rfl, fun e => absurd (HOF.out.symm.trans e) HNE.out⟩
  · have HN := Lib.hid (EV.isNil_iff.1 hnil)
    clear hnil
    go_wp2_with fail
    refine HKK.out _ _ ?_
    change Code.wp _ (tailAt 2 docOfBody) _ _ _
    exact docof_lim SEE.out SR.out SC.out hlr hlc HW.out K2.out HN.out
set_option linter.unusedSimpArgs false in
set_option maxRecDepth 100000 in
set_option maxHeartbeats 8000000 in
/-- **The reference's DocOf.** -/
theorem rdocof_any (A : HA) (h : HierD) (rows cols : List Int) (ra ca : Option Addr) (rc cc : Nat) (w : World) (see : HSee w A h) (sr : See w ra rc memInt 1 rows) (sc : See w ca cc memInt 1 cols) (hlr : rows.length ≤ 1048576) (hlc : cols.length ≤ 1048576) (hw : WfList rows ∧ WfList cols) (hk1 : h.up.length ≤ 140737488355328) (hk2 : h.dn.length ≤ 140737488355328) (hn64 : h.node.length ≤ 140737488355328) :
    Calls Try.prog 18 #[hierVal A h, .slice ra rows.length rc, .slice ca cols.length cc] w (RDocOfNew h rows cols w) := by
  have SEE := Lib.hid see
  have SR := Lib.hid sr
  have SC := Lib.hid sc
  have HW := Lib.hid hw
  have hb0 := ((Below.refl w.heap.size w).alloc (Nat.le_refl _) (.cells (hierCells A h).toArray 25)).alloc (by simp) (.cells errZero.toArray 51)
  have K := Lib.hid (DK.mk (A := A) (h := h) ((Cells.new w 25 (hierCells A h)).alloc (.cells errZero.toArray 51)) (cells_at (by simp) 51 errZero) hb0)
  clear see sr sc hw hb0
  unfold hierVal
  go_enter Try.func18, Try.ntmps18
  apply wp_seq_k
  intro K1 hK
  have HK1 := Lib.hid hK
  clear hK
  go_wp2_with fail
  refine HK1.out _ _ ?_
  change Code.wp _ (tailAt 1 docOfBody) _ _ _
  exact docof_head SEE.out SR.out SC.out hlr hlc HW.out K.out hk1 hk2 hn64
end Go.Proofs.Ytjbphoophgbmiaa
