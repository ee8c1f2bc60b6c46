/- The reference's DocOf. -/
import Derived.Test.YtjbphoophgbmiaaGreatDoorT5
namespace Go.Proofs.YtjbphoophgbmiaaGreatDoor
open Go.ChangeShapes Go.WideShapes Go.ChangeAt Go.RowKit Go.Joins Go.Deep

theorem results_te2 {P : Program} {fn : Func} {p r : Tmp} {ty : TypeId} (h : fn.results = #[.tmp p, .cell r ty]) (tmps : Array Value) (w : World) (g : Nat) (t : TypeId) (cs : List Value) (d : TypeDesc)
    (hp : tmps.getD r undef = .pointer (some ⟨g, 0, none⟩)) (hg : Cells w g t cs)
    (hu : P.underlying ty = some d) (hd : (match d with | .struct _ | .array _ _ => true | _ => false) = true) (hi : (P.info? ty).map (·.size) = some cs.length) :
    (results fn tmps).run P w = .ok (.tuple #[tmps.getD p undef, .agg cs.toArray]) w := by
  have hp' : tmps[r]?.getD undef = .pointer (some ⟨g, 0, none⟩) := by simpa using hp
  have hr := run_loadVar_row (P := P) w g t ty cs.toArray (0, 0) d hg hu hd (by simpa using hi)
  simp [results, h, hp', asAddr, hr]
theorem ofErr_pos (h : HierD) (rows cols : List Int) : (ofErr h rows cols).pos := by
  unfold ofErr
  split
  · exact checkErr_pos h
  · split
    · simp [EV.pos]
    · unfold firstOf
      split
      · exact listErr_posE _ _ _
      · exact listErr_posE _ _ _
def RDocOfNew (h : HierD) (rows cols : List Int) (w : World) (e : Ending) (w' : World) : Prop := ∃ m v, e = .returned (.tuple #[m, v]) ∧ ErrV w' v (ofErr h rows cols) ∧ Below w.heap.size w w' ∧ (ofErr h rows cols ≠ .nil → m = .slice none 0 0) ∧
  (ofErr h rows cols = .nil → MSee rows.length cols.length (fun i j => tabD h (rows.getD i 0) (cols.getD j 0)) m w')
theorem rdistances_lit (A : HA) (h : HierD) (w : World) (see : HSee w A h) (hc : checkErr h = .nil) : Calls Tryz.prog 29 #[.agg #[.slice A.a0 h.node.length A.c0, .slice A.a1 h.upF.length A.c1, .slice A.a2 h.up.length A.c2, .slice A.a3 h.dnF.length A.c3, .slice A.a4 h.dn.length A.c4]] w (RTabNew h w) := rdistances_any A h w see hc
theorem rdoccheck_litT (A : HA) (h : HierD) (w : World) (see : HSee w A h) (hk1 : h.up.length ≤ 140737488355328) (hk2 : h.dn.length ≤ 140737488355328) (hn64 : h.node.length ≤ 140737488355328) : Calls Tryz.prog 24 #[.agg #[.slice A.a0 h.node.length A.c0, .slice A.a1 h.upF.length A.c1, .slice A.a2 h.up.length A.c2, .slice A.a3 h.dnF.length A.c3, .slice A.a4 h.dn.length A.c4]] w (ErrNew (checkErr h) w) := rdoccheck_any A h w see hk1 hk2 hn64
/-- What is kept where a result's block is written. -/
theorem RTRep.kept {n k : Nat} {X : Nat → Nat → Int} {base : Nat} {m : Value} {vs : Nat → Value} {w w' : World} {bs : List Nat} (t : RTRep n k X base m vs w) (o : Only bs w w') (h : ∀ b ∈ bs, b < base) : RTRep n k X base m vs w' :=
  ⟨own_kept t.own o (fun q hq hm => by have := t.bo q hq; have := h q hm; omega), fun i hi => own_kept (t.r i hi) o (fun q hq hm => by have := (t.lo i hi q hq).1; have := h q hm; omega), t.bo, t.lo⟩

set_option linter.unusedSimpArgs false in
set_option maxRecDepth 100000 in
set_option maxHeartbeats 8000000 in
theorem docof_end {s0 s4 s5 s6 s8 s9 s10 s12 s13 s14 s15 s16 s17 s18 s19 s20 s21 s22 s23 s24 s25 s26 s27 s28 s29 s30 s31 s32 s33 s34 s35 s36 s37 s38 s39 s40 s41 s42 s43 s44 s45 s46 s47 s48 s49 s50 s51 s52 s53 s54 s55 s56 s57 s58 s59 s60 s61 s62 s63 s64 s65 s66 s67 s68 s69 s70 s71 s72 s73 s74 s75 s76 s77 s78 : Value} {A : HA} {h : HierD} {rows cols : List Int} {ra ca : Option Addr} {rc cc : Nat} {w wx : World} {m : Value} {vs : Nat → Value} {base : Nat} (k : DK A h w wx) (hok : ofErr h rows cols = .nil) (ht : RTRep rows.length cols.length (fun i j => tabD h (rows.getD i 0) (cols.getD j 0)) base m vs wx) (hbase : (w.heap.size + 1) < base) : Code.wp Tryz.prog (tailAt 7 docOfBody) (bodyPost Tryz.prog Tryz.f10 (RDocOfNew h rows cols w)) ⟨#[s0, .slice ra rows.length rc, .slice ca cols.length cc, .pointer (some ⟨w.heap.size, 0, none⟩), s4, s5, s6, .pointer (some ⟨(w.heap.size + 1), 0, none⟩), s8, s9, s10, m, s12, s13, s14, s15, s16, s17, s18, s19, s20, s21, s22, s23, s24, s25, s26, s27, s28, s29, s30, s31, s32, s33, s34, s35, s36, s37, s38, s39, s40, s41, s42, s43, s44, s45, s46, s47, s48, s49, s50, s51, s52, s53, s54, s55, s56, s57, s58, s59, s60, s61, s62, s63, s64, s65, s66, s67, s68, s69, s70, s71, s72, s73, s74, s75, s76, s77, s78], []⟩ wx := by
  have K := Lib.hid k
  have HOK := Lib.hid hok
  have HT := Lib.hid ht
  have z0 : wx.cell? ⟨(w.heap.size + 1), 0, none⟩ = some (.int .i64 0) := k.r.cell rfl
  have z1 : wx.cell? ⟨(w.heap.size + 1), 1, none⟩ = some (.slice none 0 0) := k.r.cell rfl
  have g0 := k.r.frozen 0
  have g1 := k.r.frozen 1
  have lr := k.r.lt
  clear k hok ht
  conv => arg 2; whnf
  go_wp2
  refine bodyPost_ret (results_te2 rfl _ _ ((w.heap.size + 1)) 38 [.int .i64 0, .slice none 0 0] _ rfl ((K.out.r.set 0 _).set 1 _) Tryz.underlying38 rfl (by rw [Tryz.sizeErr]; rfl)) rfl ?_
  exact ⟨_, _, rfl, by rw [HOK.out]; rfl, (K.out.b.setCell (p := ⟨(w.heap.size + 1), 0, none⟩) (by simp) _).setCell (p := ⟨(w.heap.size + 1), 1, none⟩) (by simp) _, fun e => absurd HOK.out e, fun _ => (HT.out.kept (bs := [(w.heap.size + 1)]) (((Only.refl _ _).setCell (p := ⟨(w.heap.size + 1), 0, none⟩) (.inl (by simp)) _).setCell (p := ⟨(w.heap.size + 1), 1, none⟩) (.inl (by simp)) _) (fun b hb => by simp only [List.mem_singleton] at hb; omega)).see⟩

set_option linter.unusedSimpArgs false in
set_option maxRecDepth 100000 in
set_option maxHeartbeats 8000000 in
theorem docof_loop {s0 s4 s5 s6 s8 s9 s12 s13 s14 s15 s16 s17 s18 s19 s20 s21 s22 s23 s24 s25 s26 s27 s28 s29 s30 s31 s32 s33 s34 s35 s36 s37 s38 s39 s40 s41 s42 s43 s44 s45 s46 s47 s48 s49 s50 s51 s52 s53 s54 s55 s56 s57 s58 s59 s60 s61 s62 s63 s64 s65 s66 s67 s68 s69 s70 s71 s72 s73 s74 s75 s76 s77 s78 : Value} {A : HA} {h : HierD} {rows cols : List Int} {ra ca : Option Addr} {rc cc : Nat} {w wx : World} {dm : Value} (see : HSee w A h) (sr : See w ra rc memInt 1 rows) (sc : See w ca cc memInt 1 cols) (hlr : rows.length ≤ 1048576) (hlc : cols.length ≤ 1048576) (hw : WfList rows ∧ WfList cols) (k : DK A h w wx) (hok : ofErr h rows cols = .nil) (hd : MSee h.node.length h.node.length (fun i j => tabD h i j) dm wx) : Code.wp Tryz.prog (tailAt 6 docOfBody) (bodyPost Tryz.prog Tryz.f10 (RDocOfNew h rows cols w)) ⟨#[s0, .slice ra rows.length rc, .slice ca cols.length cc, .pointer (some ⟨w.heap.size, 0, none⟩), s4, s5, s6, .pointer (some ⟨(w.heap.size + 1), 0, none⟩), s8, s9, dm, .slice none 0 0, s12, s13, s14, s15, s16, s17, s18, s19, s20, s21, s22, s23, s24, s25, s26, s27, s28, s29, s30, s31, s32, s33, s34, s35, s36, s37, s38, s39, s40, s41, s42, s43, s44, s45, s46, s47, s48, s49, s50, s51, s52, s53, s54, s55, s56, s57, s58, s59, s60, s61, s62, s63, s64, s65, s66, s67, s68, s69, s70, s71, s72, s73, s74, s75, s76, s77, s78], []⟩ wx := by
  obtain ⟨hc, hrv, hcv⟩ := of_parts hok
  have hn := (checkErr_parts hc).1.n
  have HOK := Lib.hid hok
  have HRV := Lib.hid hrv
  have HCV := Lib.hid hcv
  have SEE := Lib.hid see
  have SR := Lib.hid sr
  have SC := Lib.hid sc
  have HW := Lib.hid hw
  have K := Lib.hid k
  clear see sr sc hw k
  obtain ⟨da, dc, ro, rn, rfl, hd1, hd2⟩ := hd.ex
  have HD1 := Lib.hid hd1
  have HD2 := Lib.hid hd2
  clear hc hok hrv hcv hd hd1 hd2
  conv => arg 2; whnf
  apply wp_seq_k
  intro KK hK
  have HKK := Lib.hid hK
  clear hK
  go_wp2_with fail
  go_loopg [51, 11] rows.length (fun gg vi vm wr => ∃ (i : Nat) (mo : Option Addr) (mc : Nat) (vs : Nat → Value), vi = .int .i64 (i : Int) ∧ i ≤ rows.length ∧ gg = rows.length - i ∧ vm = .slice mo i mc ∧ RTRep i cols.length (fun i j => tabD h (rows.getD i 0) (cols.getD j 0)) wx.heap.size (.slice mo i mc) vs wr ∧ Below wx.heap.size wx wr)
  case atStart => exact ⟨0, none, 0, fun _ => .nilIface, rfl, Nat.zero_le _, rfl, rfl, RTRep.nil _ _ _ _ _, Below.refl _ _⟩
  case round =>
    obtain ⟨i, mo, mc, vs, rfl, hi, hgi, rfl, ht, hb⟩ := hrel
    obtain ⟨wo, rfl⟩ : ∃ wo : World, wo = wr := ⟨_, rfl⟩
    have HGI := Lib.hid hgi
    have HT := Lib.hid ht
    have HB := Lib.hid hb
    clear hgi ht hb
    by_cases hil : i < rows.length
    · obtain ⟨v, hv⟩ : ∃ v, rows[i]? = some v := ⟨_, List.getElem?_eq_getElem hil⟩
      obtain ⟨hv0, hvn⟩ := HRV.out v (List.mem_of_getElem? hv)
      obtain ⟨x, rfl⟩ : ∃ x : Nat, v = x := ⟨v.toNat, by omega⟩
      have HGD := Lib.hid (show rows.getD i 0 = (x : Int) by rw [List.getD_eq_getElem?_getD, hv]; rfl)
      obtain ⟨b1, o1, ea1, cc1⟩ := (SR.out.below (K.out.b.trans (HB.out.mono K.out.b.size))).cell i _ hv
      have e0 := cc1 0 _ rfl
      rw [Nat.add_zero, Nat.mul_one] at e0
      have EA := Lib.hid ea1
      have hxn : x < h.node.length := by omega
      clear cc1 ea1 hv
      rw [EA.out]
      go_wp2_with fail
      clear e0
      rw [← EA.out]
      obtain ⟨G, hG⟩ : ∃ G : Nat → Int, ((fun i j => tabD h (rows.getD i 0) (cols.getD j 0)) i) = G := ⟨_, rfl⟩
      have HG := Lib.hid hG
      clear hG
      go_loopg [57, 14] cols.length (fun gg vj vr wr => ∃ (j : Nat) (so : Option Addr) (sn : Nat), vj = .int .i64 (j : Int) ∧ j ≤ cols.length ∧ gg = cols.length - j ∧ vr = .slice so j sn ∧ wr.ownsRow 0 43 1 (.slice so j sn) j (rowCells j G) ∧ (∀ q, (Value.slice so j sn).ownBlock = some q → wo.heap.size ≤ q) ∧ Below wo.heap.size wo wr)
      case atStart => exact ⟨0, none, 0, rfl, Nat.zero_le _, rfl, rfl, World.ownsRow_nil _ _ _ _, fun q hq => by simp [Value.ownBlock] at hq, Below.refl _ _⟩
      case round =>
        obtain ⟨j, so, sn, rfl, hj, hgj, rfl, hown, hnew, hb⟩ := hrel
        obtain ⟨wp, rfl⟩ : ∃ wp : World, wp = wr := ⟨_, rfl⟩
        have HGJ := Lib.hid hgj
        have HOWN := Lib.hid hown
        have HNEW := Lib.hid hnew
        have HBL := Lib.hid hb
        have HB2 := Lib.hid (HB.out.trans (hb.mono HB.out.size))
        clear hgj hown hnew hb
        by_cases hjl : j < cols.length
        · obtain ⟨u, hu⟩ : ∃ u, cols[j]? = some u := ⟨_, List.getElem?_eq_getElem hjl⟩
          obtain ⟨hu0, hun⟩ := HCV.out u (List.mem_of_getElem? hu)
          obtain ⟨y, rfl⟩ : ∃ y : Nat, u = y := ⟨u.toNat, by omega⟩
          have HGU := Lib.hid (show cols.getD j 0 = (y : Int) by rw [List.getD_eq_getElem?_getD, hu]; rfl)
          obtain ⟨b2, o2, ea2, cc2⟩ := (SC.out.below (K.out.b.trans (HB2.out.mono K.out.b.size))).cell j _ hu
          have e0 := cc2 0 _ rfl
          rw [Nat.add_zero, Nat.mul_one] at e0
          have EB := Lib.hid ea2
          have hyn : y < h.node.length := by omega
          obtain ⟨b3, o3, ea3, cc3⟩ := (HD1.out.below HB2.out).cell x (.slice (ro x) h.node.length (rn x)) (by simp [hxn])
          have c3 := cc3 0 _ rfl
          rw [Nat.add_zero, Nat.mul_one] at c3
          obtain ⟨b4, o4, ea4, cc4⟩ := ((HD2.out x hxn).below HB2.out).cell y (tabD h x y) (by simp [hyn])
          have c4 := cc4 0 _ rfl
          rw [Nat.add_zero, Nat.mul_one] at c4
          rw [ea4] at c3
          have EC := Lib.hid ea3
          obtain ⟨dd, hdd⟩ : ∃ dd, tabD h x y = dd := ⟨_, rfl⟩
          rw [hdd] at c4
          have HDD := Lib.hid hdd
          clear cc2 ea2 cc3 ea3 cc4 ea4 hu hdd
          have how := HOWN.out
          rw [EB.out, EC.out]
          go_wp2_with (at_builtin; refine wpList_app _ rfl _ _ 50 rfl 43 (.int .u64 0) 1 8 Tryz.underlying50 Tryz.infoU64 rfl (by decide) (.slice so j sn) j (rowCells j G) rfl ?owA ⟨wp.heap.size, 0, none⟩ 1 1 [.int .u64 dd] rfl rfl ?pA1 ?pA2 ?pA3 ?pA4 ?_)
          case owA => exact own_kept (bs := []) how ((Only.refl _ _).alloc _) (fun q _ => by simp)
          case pA2 => first | rfl | (intro u hu; simp at hu; rcases hu with rfl; rfl)
          case pA3 => unfold maxLen; omega
          case pA4 => omega
          intro ao5 cap5 w5 hown5 ho5 hk5
          have hall : Only (Value.slice so j sn).ownBlock.toList wp w5 := ((Only.refl _ _).alloc _).trans ho5 (fun x hx => .inl hx)
          have HON := Lib.hid (show w5.ownsRow 0 43 1 (.slice ao5 (j + 1) cap5) (j + 1) (rowCells (j + 1) G) from by
            have hGj : G j = dd := by rw [← HG.out]; simp only [HGD.out, HGU.out, HDD.out]
            rw [rowCells_succ, hGj]
            exact hown5)
          have HNN := Lib.hid (show ∀ q, (Value.slice ao5 (j + 1) cap5).ownBlock = some q → wo.heap.size ≤ q from fun q hq => by
            rcases hk5 q hq with h1 | h1
            · exact HNEW.out q h1
            · exact Nat.le_trans HBL.out.size (Nat.le_trans (by simp) h1))
          have HBN := Lib.hid (HBL.out.trans (hall.below HBL.out.size (fun q hq => HNEW.out q (by simpa using hq))))
          clear hown5 ho5 hk5 hall how c3 c4 e0
          go_wp2_with fail
          rw [← EB.out, ← EC.out]
          go_roundg (cols.length - (j + 1))
          case measure => rw [HGJ.out]; omega
          case rel => exact ⟨j + 1, ao5, cap5, by go_num, by omega, rfl, rfl, HON.out, HNN.out, HBN.out⟩
        · obtain rfl : j = cols.length := by omega
          have HT2 := Lib.hid (HT.out.below HBL.out)
          have HOL := Lib.hid (fun q (hq : (Value.slice mo i mc).ownBlock = some q) => ownRow_lt HT.out.own hq)
          have how := HT2.out.own
          go_wp2_with (at_builtin; refine wpList_app _ rfl _ _ 29 rfl 50 (.slice none 0 0) 1 24 Tryz.underlying29 Tryz.infoRow rfl (by decide) (.slice mo i mc) i ((List.range i).map vs) rfl ?owB ⟨wp.heap.size, 0, none⟩ 1 1 [.slice so cols.length sn] rfl rfl ?pB1 ?pB2 ?pB3 ?pB4 ?_)
          case owB => exact own_kept (bs := []) how ((Only.refl _ _).alloc _) (fun q _ => by simp)
          case pB2 => first | rfl | (intro u hu; simp at hu; rcases hu with rfl; rfl)
          case pB3 => unfold maxLen; omega
          case pB4 => omega
          intro ao5 cap5 w5 hown5 ho5 hk5
          have hall : Only (Value.slice mo i mc).ownBlock.toList wp w5 := ((Only.refl _ _).alloc _).trans ho5 (fun x hx => .inl hx)
          have HTN := Lib.hid (HT2.out.app (by rw [HG.out]; exact HOWN.out) (fun q hq => ⟨Nat.le_trans HB.out.size (HNEW.out q hq), fun e => by have := HOL.out q e; have := HNEW.out q hq; omega⟩) hown5 hall (fun q hq => (hk5 q hq).imp id (fun h => Nat.le_trans (by simp) h)) HB2.out.size)
          have HBN := Lib.hid (HB2.out.trans (hall.below HB2.out.size (fun q hq => HT2.out.bo q (by simpa using hq))))
          clear hown5 ho5 hk5 hall how
          go_wp2_with fail
          go_roundg (rows.length - (i + 1))
          case measure => rw [HGI.out]; omega
          case rel => exact ⟨i + 1, ao5, cap5, _, by go_num, by omega, rfl, rfl, HTN.out, HBN.out⟩
    · obtain rfl : i = rows.length := by omega
      go_wp2_with fail
      refine HKK.out _ _ ?_
      change Code.wp _ (tailAt 7 docOfBody) _ _ _
      exact docof_end (K.out.below HB.out) HOK.out HT.out K.out.r.lt

set_option linter.unusedSimpArgs false in
set_option maxRecDepth 100000 in
set_option maxHeartbeats 8000000 in
theorem docof_dist {s0 s4 s5 s6 s8 s9 s10 s11 s12 s13 s14 s15 s16 s17 s18 s19 s20 s21 s22 s23 s24 s25 s26 s27 s28 s29 s30 s31 s32 s33 s34 s35 s36 s37 s38 s39 s40 s41 s42 s43 s44 s45 s46 s47 s48 s49 s50 s51 s52 s53 s54 s55 s56 s57 s58 s59 s60 s61 s62 s63 s64 s65 s66 s67 s68 s69 s70 s71 s72 s73 s74 s75 s76 s77 s78 : Value} {A : HA} {h : HierD} {rows cols : List Int} {ra ca : Option Addr} {rc cc : Nat} {w wx : World} (see : HSee w A h) (sr : See w ra rc memInt 1 rows) (sc : See w ca cc memInt 1 cols) (hlr : rows.length ≤ 1048576) (hlc : cols.length ≤ 1048576) (hw : WfList rows ∧ WfList cols) (k : DK A h w wx) (hok : ofErr h rows cols = .nil) : Code.wp Tryz.prog (tailAt 4 docOfBody) (bodyPost Tryz.prog Tryz.f10 (RDocOfNew h rows cols w)) ⟨#[s0, .slice ra rows.length rc, .slice ca cols.length cc, .pointer (some ⟨w.heap.size, 0, none⟩), s4, s5, s6, .pointer (some ⟨(w.heap.size + 1), 0, none⟩), s8, s9, s10, s11, s12, s13, s14, s15, s16, s17, s18, s19, s20, s21, s22, s23, s24, s25, s26, s27, s28, s29, s30, s31, s32, s33, s34, s35, s36, s37, s38, s39, s40, s41, s42, s43, s44, s45, s46, s47, s48, s49, s50, s51, s52, s53, s54, s55, s56, s57, s58, s59, s60, s61, s62, s63, s64, s65, s66, s67, s68, s69, s70, s71, s72, s73, s74, s75, s76, s77, s78], []⟩ wx := by
  have HC := Lib.hid (of_parts hok).1
  have HOK := Lib.hid hok
  have SEE := Lib.hid see
  have SR := Lib.hid sr
  have SC := Lib.hid sc
  have HW := Lib.hid hw
  have K := Lib.hid k
  clear see sr sc hw k
  obtain ⟨k0, k1, k2, k3, k4⟩ := hier_five K.out.x
  clear hok
  conv => arg 2; whnf
  apply wp_seq_k
  intro KK hK
  have HKK := Lib.hid hK
  clear hK
  go_wp2_with fail
  refine (rdistances_lit A h _ (SEE.out.below K.out.b) HC.out).mono ?_
  rintro e w1 ⟨dm, rfl, hd, hb1⟩
  have K1 := Lib.hid (K.out.below hb1)
  have HD := Lib.hid hd
  clear hd hb1 K k0 k1 k2 k3 k4
  go_wp2_with fail
  refine HKK.out _ _ ?_
  clear HKK KK
  conv => arg 2; whnf
  apply wp_seq_k
  intro K5 hK
  have HK5 := Lib.hid hK
  clear hK
  go_wp2_with fail
  refine HK5.out _ _ ?_
  change Code.wp _ (tailAt 6 docOfBody) _ _ _
  exact docof_loop SEE.out SR.out SC.out hlr hlc HW.out K1.out HOK.out HD.out
set_option linter.unusedSimpArgs false in
set_option maxRecDepth 100000 in
set_option maxHeartbeats 8000000 in
theorem docof_lists {s0 s4 s5 s6 s8 s9 s10 s11 s12 s13 s14 s15 s16 s17 s18 s19 s20 s21 s22 s23 s24 s25 s26 s27 s28 s29 s30 s31 s32 s33 s34 s35 s36 s37 s38 s39 s40 s41 s42 s43 s44 s45 s46 s47 s48 s49 s50 s51 s52 s53 s54 s55 s56 s57 s58 s59 s60 s61 s62 s63 s64 s65 s66 s67 s68 s69 s70 s71 s72 s73 s74 s75 s76 s77 s78 : Value} {A : HA} {h : HierD} {rows cols : List Int} {ra ca : Option Addr} {rc cc : Nat} {w wx : World} (see : HSee w A h) (sr : See w ra rc memInt 1 rows) (sc : See w ca cc memInt 1 cols) (hlr : rows.length ≤ 1048576) (hlc : cols.length ≤ 1048576) (hw : WfList rows ∧ WfList cols) (k : DK A h w wx) (hc : checkErr h = .nil) (hlim : ¬ (0 < rows.length ∧ 1048576 / rows.length < cols.length)) : Code.wp Tryz.prog (tailAt 3 docOfBody) (bodyPost Tryz.prog Tryz.f10 (RDocOfNew h rows cols w)) ⟨#[s0, .slice ra rows.length rc, .slice ca cols.length cc, .pointer (some ⟨w.heap.size, 0, none⟩), s4, s5, s6, .pointer (some ⟨(w.heap.size + 1), 0, none⟩), s8, s9, s10, s11, s12, s13, s14, s15, s16, s17, s18, s19, s20, s21, s22, s23, s24, s25, s26, s27, s28, s29, s30, s31, s32, s33, s34, s35, s36, s37, s38, s39, s40, s41, s42, s43, s44, s45, s46, s47, s48, s49, s50, s51, s52, s53, s54, s55, s56, s57, s58, s59, s60, s61, s62, s63, s64, s65, s66, s67, s68, s69, s70, s71, s72, s73, s74, s75, s76, s77, s78], []⟩ wx := by
  have HOF := Lib.hid (show ofErr h rows cols = firstOf (listErr h.node.length rows 0) (listErr h.node.length cols rows.length) by unfold ofErr; rw [if_neg (fun e => e hc), if_neg hlim])
  have SEE := Lib.hid see
  have SR := Lib.hid sr
  have SC := Lib.hid sc
  have HW := Lib.hid hw
  have K := Lib.hid k
  clear see sr sc hw k
  clear hc hlim
  conv => arg 2; whnf
  apply wp_seq_k
  intro KK hK
  have HKK := Lib.hid hK
  clear hK
  go_upto_region 6 with fail
  change Code.wp _ ((regionAt 6 docOfBody).getD .skip) _ _ _
  refine reg6_o SR.out SC.out hlr hlc HW.out _ (fun _ _ t _ _ hq => by cases t <;> exact hq) K.out SEE.out ?_
  intro be uc ua un ucap t34 t35 t36 t37 t38 t39 t40 t41 t42 t43 w1 he hv hk1
  have K1 := Lib.hid hk1
  have HE := Lib.hid he
  have HV := Lib.hid hv
  have y0 : w1.cell? ⟨be, 0, none⟩ = some (.int .i64 uc) := he.cell rfl
  have y1 : w1.cell? ⟨be, 1, none⟩ = some (.slice ua un ucap) := he.cell rfl
  have HP := Lib.hid (show (firstOf (listErr h.node.length rows 0) (listErr h.node.length cols rows.length)).pos from by rw [← HOF.out]; exact ofErr_pos _ _ _)
  clear he hv hk1 K
  go_wp2_with fail
  refine (bad_any _ (firstOf (listErr h.node.length rows 0) (listErr h.node.length cols rows.length)) _ HV.out HP.out).mono ?_
  rintro e w2 ⟨rfl, hb⟩
  have K2 := Lib.hid (K1.out.below hb)
  have HV2 := Lib.hid (HV.out.below hb)
  have HE2 := Lib.hid (HE.out.below hb HE.out.lt)
  clear hb K1 HV HE y0 y1
  cases hnil : (firstOf (listErr h.node.length rows 0) (listErr h.node.length cols rows.length)).isNil
  · have HNE := Lib.hid (show firstOf (listErr h.node.length rows 0) (listErr h.node.length cols rows.length) ≠ .nil from fun e => by rw [e] at hnil; simp [EV.isNil] at hnil)
    have y0 : w2.cell? ⟨be, 0, none⟩ = some (.int .i64 uc) := HE2.out.cell rfl
    have y1 : w2.cell? ⟨be, 1, none⟩ = some (.slice ua un ucap) := HE2.out.cell rfl
    have z0 : w2.cell? ⟨(w.heap.size + 1), 0, none⟩ = some (.int .i64 0) := K2.out.r.cell rfl
    have z1 : w2.cell? ⟨(w.heap.size + 1), 1, none⟩ = some (.slice none 0 0) := K2.out.r.cell rfl
    have g0 := K2.out.r.frozen 0
    have g1 := K2.out.r.frozen 1
    have lr := K2.out.r.lt
    clear hnil
    go_wp2_with fail
    go_region
    all_goals (try dsimp only [Exit.then])
    all_goals go_wp2_with fail
    all_goals refine bodyPost_ret (results_te2 rfl _ _ ((w.heap.size + 1)) 38 [.int .i64 uc, .slice ua un ucap] _ rfl ((K2.out.r.drew.set 0 _).set 1 _) Tryz.underlying38 rfl (by rw [Tryz.sizeErr]; rfl)) rfl ?_
    all_goals exact ⟨_, _, rfl, by rw [HOF.out]; exact (HV2.out.below (Below.refl _ _).drew).put K2.out.r.drew _ _, ((K2.out.b.drew).setCell (p := ⟨(w.heap.size + 1), 0, none⟩) (by simp) _).setCell (p := ⟨(w.heap.size + 1), 1, none⟩) (by simp) _, fun _ => rfl, fun e => absurd (HOF.out.symm.trans e) HNE.out⟩
  · have HOK := Lib.hid (HOF.out.trans (EV.isNil_iff.1 hnil))
    clear hnil HV2 HP
    go_wp2_with fail
    refine HKK.out _ _ ?_
    change Code.wp _ (tailAt 4 docOfBody) _ _ _
    exact docof_dist SEE.out SR.out SC.out hlr hlc HW.out K2.out HOK.out
set_option linter.unusedSimpArgs false in
set_option maxRecDepth 100000 in
set_option maxHeartbeats 8000000 in
theorem docof_lim {s0 s4 s5 s6 s8 s9 s10 s11 s12 s13 s14 s15 s16 s17 s18 s19 s20 s21 s22 s23 s24 s25 s26 s27 s28 s29 s30 s31 s32 s33 s34 s35 s36 s37 s38 s39 s40 s41 s42 s43 s44 s45 s46 s47 s48 s49 s50 s51 s52 s53 s54 s55 s56 s57 s58 s59 s60 s61 s62 s63 s64 s65 s66 s67 s68 s69 s70 s71 s72 s73 s74 s75 s76 s77 s78 : Value} {A : HA} {h : HierD} {rows cols : List Int} {ra ca : Option Addr} {rc cc : Nat} {w wx : World} (see : HSee w A h) (sr : See w ra rc memInt 1 rows) (sc : See w ca cc memInt 1 cols) (hlr : rows.length ≤ 1048576) (hlc : cols.length ≤ 1048576) (hw : WfList rows ∧ WfList cols) (k : DK A h w wx) (hc : checkErr h = .nil) : Code.wp Tryz.prog (tailAt 2 docOfBody) (bodyPost Tryz.prog Tryz.f10 (RDocOfNew h rows cols w)) ⟨#[s0, .slice ra rows.length rc, .slice ca cols.length cc, .pointer (some ⟨w.heap.size, 0, none⟩), s4, s5, s6, .pointer (some ⟨(w.heap.size + 1), 0, none⟩), s8, s9, s10, s11, s12, s13, s14, s15, s16, s17, s18, s19, s20, s21, s22, s23, s24, s25, s26, s27, s28, s29, s30, s31, s32, s33, s34, s35, s36, s37, s38, s39, s40, s41, s42, s43, s44, s45, s46, s47, s48, s49, s50, s51, s52, s53, s54, s55, s56, s57, s58, s59, s60, s61, s62, s63, s64, s65, s66, s67, s68, s69, s70, s71, s72, s73, s74, s75, s76, s77, s78], []⟩ wx := by
  have HC := Lib.hid hc
  have SEE := Lib.hid see
  have SR := Lib.hid sr
  have SC := Lib.hid sc
  have HW := Lib.hid hw
  have K := Lib.hid k
  clear see sr sc hw k
  clear hc
  conv => arg 2; whnf
  apply wp_seq_k
  intro KK hK
  have HKK := Lib.hid hK
  clear hK
  by_cases h0 : 0 < rows.length
  · have t0 : decide (0 < rows.length) = true := by simpa using h0
    have hdiv : (1048576 : Int) / (rows.length : Int) = ((1048576 / rows.length : Nat) : Int) := by rw [Int.natCast_ediv]; rfl
    by_cases hq : 1048576 / rows.length < cols.length
    · have t1 : decide ((1048576 : Int) / (rows.length : Int) < (cols.length : Int)) = true := by rw [hdiv]; simp only [decide_eq_true_eq]; omega
      have HE := Lib.hid (show ofErr h rows cols = .code 9 by unfold ofErr; rw [if_neg (fun e => e HC.out), if_pos ⟨h0, hq⟩])
      clear hq hdiv
      go_wp2_with fail
      refine (e_any 9 _).mono ?_
      rintro e w1 ⟨u, rfl, hu, hb⟩
      obtain rfl : u = _ := hu
      have K1 := Lib.hid (K.out.below hb)
      clear hb K
      have z0 : w1.cell? ⟨(w.heap.size + 1), 0, none⟩ = some (.int .i64 0) := K1.out.r.cell rfl
      have z1 : w1.cell? ⟨(w.heap.size + 1), 1, none⟩ = some (.slice none 0 0) := K1.out.r.cell rfl
      have g0 := K1.out.r.frozen 0
      have g1 := K1.out.r.frozen 1
      have lr := K1.out.r.lt
      go_wp2
      refine bodyPost_ret (results_te2 rfl _ _ ((w.heap.size + 1)) 38 [.int .i64 9, .slice none 0 0] _ rfl ((K1.out.r.set 0 _).set 1 _) Tryz.underlying38 rfl (by rw [Tryz.sizeErr]; rfl)) rfl ?_
      exact ⟨_, _, rfl, by rw [HE.out]; rfl, (K1.out.b.setCell (p := ⟨(w.heap.size + 1), 0, none⟩) (by simp) _).setCell (p := ⟨(w.heap.size + 1), 1, none⟩) (by simp) _, fun _ => rfl, fun e => (by rw [HE.out] at e; cases e)⟩
    · have t1 : decide ((1048576 : Int) / (rows.length : Int) < (cols.length : Int)) = false := by rw [hdiv]; simp only [decide_eq_false_iff_not]; omega
      have HL := Lib.hid (show ¬ (0 < rows.length ∧ 1048576 / rows.length < cols.length) from fun e => hq e.2)
      clear hq hdiv
      go_wp2_with fail
      refine HKK.out _ _ ?_
      change Code.wp _ (tailAt 3 docOfBody) _ _ _
      exact docof_lists SEE.out SR.out SC.out hlr hlc HW.out K.out HC.out HL.out
  · have t0 : decide (0 < rows.length) = false := by simpa using h0
    have HL := Lib.hid (show ¬ (0 < rows.length ∧ 1048576 / rows.length < cols.length) from fun e => h0 e.1)
    clear h0
    go_wp2_with fail
    refine HKK.out _ _ ?_
    change Code.wp _ (tailAt 3 docOfBody) _ _ _
    exact docof_lists SEE.out SR.out SC.out hlr hlc HW.out K.out HC.out HL.out
set_option linter.unusedSimpArgs false in
set_option maxRecDepth 100000 in
set_option maxHeartbeats 8000000 in
theorem docof_head {s0 s4 s5 s6 s8 s9 s10 s11 s12 s13 s14 s15 s16 s17 s18 s19 s20 s21 s22 s23 s24 s25 s26 s27 s28 s29 s30 s31 s32 s33 s34 s35 s36 s37 s38 s39 s40 s41 s42 s43 s44 s45 s46 s47 s48 s49 s50 s51 s52 s53 s54 s55 s56 s57 s58 s59 s60 s61 s62 s63 s64 s65 s66 s67 s68 s69 s70 s71 s72 s73 s74 s75 s76 s77 s78 : Value} {A : HA} {h : HierD} {rows cols : List Int} {ra ca : Option Addr} {rc cc : Nat} {w wx : World} (see : HSee w A h) (sr : See w ra rc memInt 1 rows) (sc : See w ca cc memInt 1 cols) (hlr : rows.length ≤ 1048576) (hlc : cols.length ≤ 1048576) (hw : WfList rows ∧ WfList cols) (k : DK A h w wx) (hk1 : h.up.length ≤ 140737488355328) (hk2 : h.dn.length ≤ 140737488355328) (hn64 : h.node.length ≤ 140737488355328) : Code.wp Tryz.prog (tailAt 1 docOfBody) (bodyPost Tryz.prog Tryz.f10 (RDocOfNew h rows cols w)) ⟨#[s0, .slice ra rows.length rc, .slice ca cols.length cc, .pointer (some ⟨w.heap.size, 0, none⟩), s4, s5, s6, .pointer (some ⟨(w.heap.size + 1), 0, none⟩), s8, s9, s10, s11, s12, s13, s14, s15, s16, s17, s18, s19, s20, s21, s22, s23, s24, s25, s26, s27, s28, s29, s30, s31, s32, s33, s34, s35, s36, s37, s38, s39, s40, s41, s42, s43, s44, s45, s46, s47, s48, s49, s50, s51, s52, s53, s54, s55, s56, s57, s58, s59, s60, s61, s62, s63, s64, s65, s66, s67, s68, s69, s70, s71, s72, s73, s74, s75, s76, s77, s78], []⟩ wx := by
  have SEE := Lib.hid see
  have SR := Lib.hid sr
  have SC := Lib.hid sc
  have HW := Lib.hid hw
  have K := Lib.hid k
  clear see sr sc hw k
  obtain ⟨k0, k1, k2, k3, k4⟩ := hier_five K.out.x
  conv => arg 2; whnf
  apply wp_seq_k
  intro KK hK
  have HKK := Lib.hid hK
  clear hK
  go_wp2_with fail
  refine (rdoccheck_litT A h _ (SEE.out.below K.out.b) hk1 hk2 hn64).mono ?_
  rintro e w1 ⟨v, rfl, hv, hb⟩
  obtain ⟨uc, ua, un, ucap, rfl⟩ := hv.form
  have ho := (Below.refl w1.heap.size w1).alloc (Nat.le_refl _) (.cells #[.int .i64 uc, .slice ua un ucap] 38)
  have K1 := Lib.hid ((K.out.below hb).below ho)
  have HV1 := Lib.hid (hv.below ho)
  have HC1 := Lib.hid (Cells.new w1 38 [.int .i64 uc, .slice ua un ucap])
  clear K hb hv k0 k1 k2 k3 k4 ho
  go_wp2_with fail
  refine (bad_any _ (checkErr h) _ HV1.out (checkErr_pos h)).mono ?_
  rintro e w2 ⟨rfl, hb⟩
  have K2 := Lib.hid (K1.out.below hb)
  have HV2 := Lib.hid (HV1.out.below hb)
  have HC2 := Lib.hid (HC1.out.below hb HC1.out.lt)
  obtain ⟨b9, hb9⟩ : ∃ b9, w1.heap.size = b9 := ⟨_, rfl⟩
  rw [hb9] at HC2 ⊢
  clear K1 HV1 HC1 hb hb9
  cases hnil : (checkErr h).isNil
  · have HNE := Lib.hid (show checkErr h ≠ .nil from fun e => by rw [e] at hnil; simp [EV.isNil] at hnil)
    have HOF := Lib.hid (show ofErr h rows cols = checkErr h by unfold ofErr; rw [if_pos HNE.out])
    have y0 : w2.cell? ⟨b9, 0, none⟩ = some (.int .i64 uc) := HC2.out.cell rfl
    have y1 : w2.cell? ⟨b9, 1, none⟩ = some (.slice ua un ucap) := HC2.out.cell rfl
    have z0 : w2.cell? ⟨(w.heap.size + 1), 0, none⟩ = some (.int .i64 0) := K2.out.r.cell rfl
    have z1 : w2.cell? ⟨(w.heap.size + 1), 1, none⟩ = some (.slice none 0 0) := K2.out.r.cell rfl
    have g0 := K2.out.r.frozen 0
    have g1 := K2.out.r.frozen 1
    have lr := K2.out.r.lt
    clear hnil
    go_wp2_with fail
    go_region
    all_goals (try dsimp only [Exit.then])
    all_goals go_wp2_with fail
    all_goals refine bodyPost_ret (results_te2 rfl _ _ ((w.heap.size + 1)) 38 [.int .i64 uc, .slice ua un ucap] _ rfl ((K2.out.r.drew.set 0 _).set 1 _) Tryz.underlying38 rfl (by rw [Tryz.sizeErr]; rfl)) rfl ?_
    all_goals exact ⟨_, _, rfl, by rw [HOF.out]; exact (HV2.out.below (Below.refl _ _).drew).put K2.out.r.drew _ _, ((K2.out.b.drew).setCell (p := ⟨(w.heap.size + 1), 0, none⟩) (by simp) _).setCell (p := ⟨(w.heap.size + 1), 1, none⟩) (by simp) _, fun _ => rfl, fun e => absurd (HOF.out.symm.trans e) HNE.out⟩
  · have HN := Lib.hid (EV.isNil_iff.1 hnil)
    clear hnil
    go_wp2_with fail
    refine HKK.out _ _ ?_
    change Code.wp _ (tailAt 2 docOfBody) _ _ _
    exact docof_lim SEE.out SR.out SC.out hlr hlc HW.out K2.out HN.out
set_option linter.unusedSimpArgs false in
set_option maxRecDepth 100000 in
set_option maxHeartbeats 8000000 in
/-- **The reference's DocOf.** -/
theorem rdocof_any (A : HA) (h : HierD) (rows cols : List Int) (ra ca : Option Addr) (rc cc : Nat) (w : World) (see : HSee w A h) (sr : See w ra rc memInt 1 rows) (sc : See w ca cc memInt 1 cols) (hlr : rows.length ≤ 1048576) (hlc : cols.length ≤ 1048576) (hw : WfList rows ∧ WfList cols) (hk1 : h.up.length ≤ 140737488355328) (hk2 : h.dn.length ≤ 140737488355328) (hn64 : h.node.length ≤ 140737488355328) :
    Calls Tryz.prog 10 #[hierVal A h, .slice ra rows.length rc, .slice ca cols.length cc] w (RDocOfNew h rows cols w) := by
  have SEE := Lib.hid see
  have SR := Lib.hid sr
  have SC := Lib.hid sc
  have HW := Lib.hid hw
  have hb0 := ((Below.refl w.heap.size w).alloc (Nat.le_refl _) (.cells (hierCells A h).toArray 25)).alloc (by simp) (.cells errZero.toArray 38)
  have K := Lib.hid (DK.mk (A := A) (h := h) ((Cells.new w 25 (hierCells A h)).alloc (.cells errZero.toArray 38)) (cells_at (by simp) 38 errZero) hb0)
  clear see sr sc hw hb0
  unfold hierVal
  go_enter Tryz.func10, Tryz.ntmps10
  apply wp_seq_k
  intro K1 hK
  have HK1 := Lib.hid hK
  clear hK
  go_wp2_with fail
  refine HK1.out _ _ ?_
  change Code.wp _ (tailAt 1 docOfBody) _ _ _
  exact docof_head SEE.out SR.out SC.out hlr hlc HW.out K.out hk1 hk2 hn64
end Go.Proofs.YtjbphoophgbmiaaGreatDoor
