/- The law TableTurns: its walk. -/
import Derived.Test.YtjbphoophgbmiaaTabM
import Derived.Test.YtjbphoophgbmiaaTurn4
import Derived.Deep.RegionHeld3
import Derived.BigQuiet
import Derived.IntWalk
namespace Go.Proofs.Ytjbphoophgbmiaa
open Go.ChangeShapes Go.WideShapes Go.ChangeAt Go.RowKit Go.Joins Go.Deep

noncomputable def ttBody : Code := Try.f5.body.getD .skip
theorem of_lenT (A : HA) (h : HierD) (rows cols : List Int) (nr nc : Nat) (hnr : rows.length = nr) (hnc : cols.length = nc) (ra ca : Option Addr) (rc cc : Nat) (w : World) (see : HSee w A h) (sr : See w ra rc memInt 1 rows) (sc : See w ca cc memInt 1 cols) (hlr : nr ≤ 24) (hlc : nc ≤ 24) (hw : WfList rows ∧ WfList cols) :
    Calls Try.prog 15 #[.agg #[.slice A.a0 h.node.length A.c0, .slice A.a1 h.upF.length A.c1, .slice A.a2 h.up.length A.c2, .slice A.a3 h.dnF.length A.c3, .slice A.a4 h.dn.length A.c4], .slice ra nr rc, .slice ca nc cc] w (OfNew h rows cols w) := by
  subst hnr; subst hnc
  exact of_any A h rows cols ra ca rc cc w see sr sc (by omega) (by omega) hw
theorem few23_litT (A : HA) (h : HierD) (ra ca : Option Addr) (nr nc rc cc : Nat) (w : World) : Calls Try.prog 13 #[.agg #[.slice A.a0 h.node.length A.c0, .slice A.a1 h.upF.length A.c1, .slice A.a2 h.up.length A.c2, .slice A.a3 h.dnF.length A.c3, .slice A.a4 h.dn.length A.c4], .slice ra nr rc, .slice ca nc cc] w (FewTab h nr nc w) := few23_any A h ra ca nr nc rc cc w
theorem turn_litT (A : HA) (h : HierD) (w : World) (see : HSee w A h) (form : HForm A) : Calls Try.prog 8 #[.agg #[.slice A.a0 h.node.length A.c0, .slice A.a1 h.upF.length A.c1, .slice A.a2 h.up.length A.c2, .slice A.a3 h.dnF.length A.c3, .slice A.a4 h.dn.length A.c4]] w (TurnPost h w) := turn_any A h w see form
theorem listErr_okT {n : Nat} : ∀ {l : List Int} {k : Nat}, (∀ v ∈ l, 0 ≤ v ∧ v < n) → listErr n l k = .nil := by
  intro l
  induction l with
  | nil => intro k _; rfl
  | cons x l ih =>
    intro k hv
    have := hv x (by simp)
    rw [listErr_cons_ok (by omega)]
    exact ih fun v hm => hv v (by simp [hm])
theorem ofErr_okT {h : HierD} {rows cols : List Int} (hc : checkErr h = .nil) (hlr : rows.length ≤ 24) (hlc : cols.length ≤ 24) (hr : ∀ v ∈ rows, 0 ≤ v ∧ v < h.node.length) (hl : ∀ v ∈ cols, 0 ≤ v ∧ v < h.node.length) : ofErr h rows cols = .nil := by
  unfold ofErr
  rw [if_neg (fun e => e hc), if_neg, listErr_okT hr, listErr_okT hl]
  · rfl
  · rintro ⟨h1, h2⟩
    have h3 : 1048576 / 24 ≤ 1048576 / rows.length := Nat.div_le_div_left hlr h1
    omega
/-- Turned about, the table is turned about. -/
theorem tab_turn {h : HierD} {s t : Int} (hc : checkErr h = .nil) (hc' : checkErr (turnD h) = .nil) (hs : 0 ≤ s ∧ s < h.node.length) (ht : 0 ≤ t ∧ t < h.node.length) : tabD (turnD h) t s = tabD h s t := by
  obtain ⟨f, -, -, ho, -⟩ := checkErr_parts hc
  have ok := order_nil ho
  have i1 : h.node.idxOf s.toNat < h.node.length := List.idxOf_lt_length_iff.2 (ok.mem _ (by omega))
  have i2 : h.node.idxOf t.toNat < h.node.length := List.idxOf_lt_length_iff.2 (ok.mem _ (by omega))
  have hD := dists_isD (half_up hc') i2
  have hE := dists_isD (half_dn hc') i1
  have h1 : IsD h.node.length h.dnF h.dn (h.node.idxOf t.toNat) _ := (IsD.turn (turnLink h.up.length h.dn.length) (fun _ => rfl) (fun _ => rfl)).1 hD
  have h2 : IsD h.node.length h.upF h.up (h.node.idxOf s.toNat) _ := (IsD.turn (turnLink h.up.length h.dn.length) (fun _ => rfl) (fun _ => rfl)).1 hE
  rw [← tab_cell hc hs ht h2 h1, ← meetTo_swap]
  rfl
def IntsOwn (l : List Int) (w : World) (e : Ending) (w' : World) : Prop := ∃ ao cap, e = .returned (.slice ao l.length cap) ∧ w'.ownsRow 0 3 1 (.slice ao l.length cap) l.length (l.flatMap memInt) ∧ (∀ b, (Value.slice ao l.length cap).ownBlock = some b → w.heap.size ≤ b) ∧ Below w.heap.size w w'
set_option maxRecDepth 100000 in
theorem twinown_any (l : List Int) (ao : Option Addr) (cap : Nat) (w : World) (see : See w ao cap memInt 1 l) (hl : l.length * 8 ≤ 140737488355328) :
    Calls Try.prog 20 #[.slice ao l.length cap] w (IntsOwn l w) := by
  have SEE := Lib.hid see
  clear see
  go_enter Try.func20, Try.ntmps20
  go_wp2_with fail
  go_loopg [3, 8] l.length (fun g vm vi wr => ∃ (k : Nat) (ao2 : Option Addr) (cap2 : Nat), vi = .int .i64 k ∧ k ≤ l.length ∧ g = l.length - k ∧ vm = .slice ao2 k cap2 ∧
    wr.ownsRow 0 3 1 (.slice ao2 k cap2) k ((l.take k).flatMap memInt) ∧ (∀ b, (Value.slice ao2 k cap2).ownBlock = some b → w.heap.size ≤ b) ∧ Below w.heap.size w wr)
  case atStart => exact ⟨0, none, 0, rfl, Nat.zero_le _, rfl, rfl, World.ownsRow_nil _ _ _ _, by simp [Value.ownBlock], Below.refl _ _⟩
  case round =>
    obtain ⟨k, ao2, cap2, rfl, hk, hg, rfl, hown, hnew, hbl⟩ := hrel
    have HG := Lib.hid hg
    have HOWN := Lib.hid hown
    have HNEW := Lib.hid hnew
    have HBL := Lib.hid hbl
    have hz := hbl.size
    clear hg hown hnew hbl
    by_cases hkl : k < l.length
    · obtain ⟨x, hx⟩ : ∃ x, l[k]? = some x := ⟨_, List.getElem?_eq_getElem hkl⟩
      obtain ⟨b, o, ea, cc⟩ := (SEE.out.below HBL.out).cell k x hx
      have e0 := cc 0 _ rfl
      rw [Nat.mul_one, Nat.add_zero] at e0
      have lb := block_lt e0
      have EA := Lib.hid ea
      have HX := Lib.hid hx
      clear ea cc hx
      rw [EA.out]
      go_wp2_with (at_builtin; refine wpList_app _ rfl _ _ 40 rfl 3 (.int .i64 0) 1 8 Try.underlying40 Try.infoInt rfl (by decide) (.slice ao2 k cap2) k ((l.take k).flatMap memInt) rfl ?own ⟨wr.heap.size, 0, none⟩ 1 1 (memInt x) rfl rfl ?c1 ?c2 ?c3 ?c4 ?_)
      case own => exact own_kept (bs := []) HOWN.out ((Only.refl _ wr).alloc _) (fun q _ => by simp)
      case c1 => exact cells_new wr 3 (memInt x)
      case c2 => intro u hu; simp [memInt] at hu; subst hu; rfl
      case c3 => unfold maxLen; omega
      case c4 => omega
      intro ao5 cap5 w5 hown5 ho5 hk5
      have hbw := HBL.out.alloc hz (.cells #[.int .i64 x] 3)
      have hnew5 : ∀ x, (Value.slice ao5 (k + 1) cap5).ownBlock = some x → w.heap.size ≤ x := by
        intro x hx
        rcases hk5 x hx with h1 | h1
        · exact HNEW.out x h1
        · have := hbw.size; omega
      have hbl5 : Below w.heap.size w w5 := hbw.trans (ho5.below hbw.size (fun q hq => HNEW.out q (by simpa using hq)))
      have hf5 : (l.take k).flatMap memInt ++ memInt x = (l.take (k + 1)).flatMap memInt := by
        rw [List.take_add_one, HX.out, List.flatMap_append]
        simp
      rw [hf5] at hown5
      have O5 := Lib.hid hown5
      have N5 := Lib.hid hnew5
      have B5 := Lib.hid hbl5
      clear hown5 ho5 hk5 hnew5 hbl5 hf5 hbw
      go_wp2_with fail
      rw [← EA.out]
      go_roundg (l.length - (k + 1))
      case measure => rw [HG.out]; omega
      case rel => exact ⟨k + 1, ao5, cap5, by go_num, by omega, rfl, rfl, O5.out, N5.out, B5.out⟩
    · obtain rfl : k = l.length := by omega
      go_wp2
      go_returns
      have hO := HOWN.out
      rw [List.take_length] at hO
      exact ⟨ao2, cap2, rfl, hO, HNEW.out, HBL.out⟩

set_option linter.unusedSimpArgs false in
set_option maxRecDepth 100000 in
set_option maxHeartbeats 8000000 in
theorem tt_loop {s0 s4 s5 s6 s8 s9 s10 s12 s14 s15 s16 s17 s18 s19 s20 s21 s22 s23 s24 s25 s26 s27 s28 s29 s30 s31 s32 s33 s34 s35 s36 s37 s38 s39 s40 s41 s42 s43 s44 s45 s46 s47 s48 s49 s50 s51 s52 s53 s54 s55 s56 s57 s58 s59 s60 s61 s62 s63 s64 s65 s66 s67 s68 s69 s70 s71 s72 s73 s74 s75 s76 s77 s78 s79 s80 s81 s82 s83 s84 s85 s86 s87 s88 s89 s90 s91 s92 s93 s94 s95 s96 s97 s98 s99 s100 s101 s102 s103 s104 s105 s106 s107 s108 s109 s110 s111 s112 s113 s114 s115 s116 s117 s118 s119 s120 s121 s122 s123 s124 s125 s126 s127 s128 s129 s130 s131 s132 s133 s134 s135 s136 s137 s138 s139 s140 s141 s142 s143 s144 s145 s146 s147 s148 s149 s150 s151 s152 s153 s154 s155 s156 s157 s158 s159 s160 s161 s162 s163 s164 s165 s166 s167 s168 s169 s170 s171 s172 s173 s174 s175 s176 s177 s178 s179 s180 s181 s182 s183 s184 s185 s186 s187 s188 s189 s190 s191 s192 s193 s194 s195 s196 s197 : Value} {A : HA} {h : HierD} {rows cols : List Int} {ra ca : Option Addr} {rc cc : Nat} {w wx : World} {mo bo twa : Option Addr} {mc bc tc : Nat} {ro rb : Nat → Option Addr} {rn rbn : Nat → Nat} (see : HSee w A h) (form : HForm A) (sr : See w ra rc memInt 1 rows) (sc : See w ca cc memInt 1 cols) (hw : WfList rows ∧ WfList cols) (hlr : rows.length ≤ 12) (hlc : cols.length ≤ 12) (hx : Cells wx w.heap.size 25 (hierCells A h)) (hb : Below w.heap.size w wx) (hc : checkErr h = .nil) (hc' : checkErr (turnD h) = .nil) (hrv : ∀ v ∈ rows, 0 ≤ v ∧ v < h.node.length) (hcv : ∀ v ∈ cols, 0 ≤ v ∧ v < h.node.length) (hm : See wx mo mc valC 1 ((List.range rows.length).map fun i => .slice (ro i) cols.length (rn i))) (hm2 : ∀ i, i < rows.length → See wx (ro i) (rn i) u64C 1 ((List.range cols.length).map fun j => tabD h (rows.getD i 0) (cols.getD j 0))) (hk : See wx bo bc valC 1 ((List.range cols.length).map fun j => .slice (rb j) rows.length (rbn j))) (hk2 : ∀ j, j < cols.length → See wx (rb j) (rbn j) u64C 1 ((List.range rows.length).map fun i => tabD (turnD h) (cols.getD j 0) (rows.getD i 0))) (ht : See wx twa tc memInt 1 (cols ++ cols)) : Code.wp Try.prog (tailAt 10 ttBody) (bodyPost Try.prog Try.f5 (BoolIs true w)) ⟨#[s0, .slice ra rows.length rc, .slice ca cols.length cc, .pointer (some ⟨w.heap.size, 0, none⟩), s4, s5, s6, .slice mo rows.length mc, s8, s9, s10, .slice bo cols.length bc, s12, .slice twa (cols.length + cols.length : Nat) tc, s14, s15, s16, s17, s18, s19, s20, s21, s22, s23, s24, s25, s26, s27, s28, s29, s30, s31, s32, s33, s34, s35, s36, s37, s38, s39, s40, s41, s42, s43, s44, s45, s46, s47, s48, s49, s50, s51, s52, s53, s54, s55, s56, s57, s58, s59, s60, s61, s62, s63, s64, s65, s66, s67, s68, s69, s70, s71, s72, s73, s74, s75, s76, s77, s78, s79, s80, s81, s82, s83, s84, s85, s86, s87, s88, s89, s90, s91, s92, s93, s94, s95, s96, s97, s98, s99, s100, s101, s102, s103, s104, s105, s106, s107, s108, s109, s110, s111, s112, s113, s114, s115, s116, s117, s118, s119, s120, s121, s122, s123, s124, s125, s126, s127, s128, s129, s130, s131, s132, s133, s134, s135, s136, s137, s138, s139, s140, s141, s142, s143, s144, s145, s146, s147, s148, s149, s150, s151, s152, s153, s154, s155, s156, s157, s158, s159, s160, s161, s162, s163, s164, s165, s166, s167, s168, s169, s170, s171, s172, s173, s174, s175, s176, s177, s178, s179, s180, s181, s182, s183, s184, s185, s186, s187, s188, s189, s190, s191, s192, s193, s194, s195, s196, s197], []⟩ wx := by
  have l1 : rows.length ≤ 12 := hlr
  have l2 : cols.length ≤ 12 := hlc
  have SEE := Lib.hid see
  have FORM := Lib.hid form
  have SR := Lib.hid sr
  have SC := Lib.hid sc
  have HW := Lib.hid hw
  have HX := Lib.hid hx
  have HB := Lib.hid hb
  have HLR := Lib.hid hlr
  have HLC := Lib.hid hlc
  clear see form sr sc hw hx hb hlr hlc
  have HC := Lib.hid hc
  have HC' := Lib.hid hc'
  have HRV := Lib.hid hrv
  have HCV := Lib.hid hcv
  have HM := Lib.hid hm
  have HM2 := Lib.hid hm2
  have HK := Lib.hid hk
  have HK2 := Lib.hid hk2
  clear hc hc' hrv hcv hm hm2 hk hk2
  have HT := Lib.hid ht
  clear ht
  conv => arg 2; whnf
  apply wp_seq_k
  intro KK hK
  have HKK := Lib.hid hK
  clear hK
  go_wp2_with fail
  go_loopg [91] rows.length (fun gg vi wr => ∃ (i : Nat), vi = .int .i64 (i : Int) ∧ i ≤ rows.length ∧ gg = rows.length - i ∧ Below wx.heap.size wx wr)
  case atStart => exact ⟨0, rfl, Nat.zero_le _, rfl, Below.refl _ _⟩
  case round =>
    obtain ⟨i, rfl, hi, hgi, hb⟩ := hrel
    obtain ⟨wo, rfl⟩ : ∃ wo : World, wo = wr := ⟨_, rfl⟩
    have HGI := Lib.hid hgi
    have HBO := Lib.hid hb
    have HXO := Lib.hid (HX.out.below hb HX.out.lt)
    clear hgi hb
    by_cases hil : i < rows.length
    · obtain ⟨v, hv⟩ : ∃ v, rows[i]? = some v := ⟨_, List.getElem?_eq_getElem hil⟩
      have HV := Lib.hid (show (0 ≤ v ∧ v < h.node.length) ∧ v ≤ 9223372036854775807 from ⟨HRV.out v (List.mem_of_getElem? hv), HW.out.1 v (List.mem_of_getElem? hv)⟩)
      have HGD := Lib.hid (show rows.getD i 0 = v by rw [List.getD_eq_getElem?_getD, hv]; rfl)
      obtain ⟨b1, o1, ea1, cc1⟩ := (SR.out.below (HB.out.trans (HBO.out.mono HB.out.size))).cell i _ hv
      have e0 := cc1 0 _ rfl
      rw [Nat.add_zero, Nat.mul_one] at e0
      have EA := Lib.hid ea1
      obtain ⟨k0, k1, k2, k3, k4⟩ := hier_five HXO.out
      clear cc1 ea1 hv
      rw [EA.out]
      go_wp2_with fail
      clear e0
      rw [← EA.out]
      have ho := (Below.refl wo.heap.size wo).alloc (Nat.le_refl _) (.cells #[.int .i64 v] 3)
      have cl := Cells.new wo 3 ([v].flatMap memInt)
      have HBA := Lib.hid (HBO.out.trans (ho.mono HBO.out.size))
      refine (of_lenT A h [v] (cols ++ cols) 1 (cols.length + cols.length) rfl List.length_append _ _ 1 _ _ (SEE.out.below (HB.out.trans (HBA.out.mono HB.out.size))) (See.of_cells memInt_len cl (by simp [maxLen])) (HT.out.below HBA.out) (by omega) (by omega) ⟨fun x hx => by simp only [List.mem_singleton] at hx; subst hx; exact HV.out.2, fun x hx => by
        rw [List.mem_append] at hx
        exact hx.elim (HW.out.2 x) (HW.out.2 x)⟩).mono ?_
      have hok : ofErr h [v] (cols ++ cols) = .nil := ofErr_okT HC.out (by simp) (by rw [List.length_append]; omega) (fun x hx => by simp only [List.mem_singleton] at hx; subst hx; exact HV.out.1) (fun x hx => by
        rw [List.mem_append] at hx
        exact hx.elim (HCV.out x) (HCV.out x))
      rintro e w1 ⟨m1, v1, rfl, hv1, hb1, -, hm1⟩
      rw [hok] at hv1
      obtain rfl := hv1.nilv rfl
      obtain ⟨rbb, hm1⟩ := hm1 hok
      have hs1 := hm1.see (by rw [List.length_append]; unfold maxLen; omega)
      obtain ⟨oo, oc, os, on, hm1e, hs2, hs3⟩ := hs1.ex
      rw [show [v].length = 1 from rfl] at hm1e hs2 hs3
      subst hm1e
      rw [List.length_append] at hs2 hs3
      have HB1 := Lib.hid (HBA.out.trans (hb1.mono HBA.out.size))
      obtain ⟨b2, o2, ea2, cc2⟩ := hs2.cell 0 (.slice (os 0) (cols.length + cols.length : Nat) (on 0)) (by simp)
      have c2 : w1.cell? ⟨b2, o2, none⟩ = some (.slice (os 0) (cols.length + cols.length : Nat) (on 0)) := cc2 0 _ rfl
      rw [ea2]
      have HO3 := Lib.hid (hs3 0 (by omega))
      have EO := Lib.hid ea2
      have HO2 := Lib.hid hs2
      clear hok hv1 hb1 hm1 hs1 hs2 hs3 cc2 ea2 ho cl k0 k1 k2 k3 k4
      obtain ⟨b3, o3, ea3, cc3⟩ := (HM.out.below HB1.out).cell i (.slice (ro i) cols.length (rn i)) (by simp [hil])
      have c3 := cc3 0 _ rfl
      rw [Nat.add_zero, Nat.mul_one] at c3
      have EC := Lib.hid ea3
      rw [EC.out]
      have t0 : ((cols.length : Int) != (cols.length : Int)) = false := by simp
      have t1 : (((cols.length + cols.length : Nat) : Int) != 2 * (cols.length : Int)) = false := by simp; omega
      have t2 : ((cols.length : Int) + (cols.length : Int) != 2 * (cols.length : Int)) = false := by simp; omega
      clear cc3 ea3
      go_wp2_with fail
      have C2 := Lib.hid c2
      clear t1 t2 c2 c3
      clear t0
      go_loopg [133] cols.length (fun gg vj wr => ∃ (j : Nat), vj = .int .i64 (j : Int) ∧ j ≤ cols.length ∧ gg = cols.length - j ∧ Below w1.heap.size w1 wr)
      case atStart => exact ⟨0, rfl, Nat.zero_le _, rfl, Below.refl _ _⟩
      case round =>
        obtain ⟨j, rfl, hj, hgj, hb⟩ := hrel
        obtain ⟨wp, rfl⟩ : ∃ wp : World, wp = wr := ⟨_, rfl⟩
        have HGJ := Lib.hid hgj
        have HBP := Lib.hid hb
        have HBX := Lib.hid (HB1.out.trans (hb.mono HB1.out.size))
        clear hgj hb
        by_cases hjl : j < cols.length
        · obtain ⟨u, hu⟩ : ∃ u, cols[j]? = some u := ⟨_, List.getElem?_eq_getElem hjl⟩
          have hur := HCV.out u (List.mem_of_getElem? hu)
          have hgu : cols.getD j 0 = u := by rw [List.getD_eq_getElem?_getD, hu]; rfl
          obtain ⟨dd, hdd⟩ : ∃ dd, tabD h v u = dd := ⟨_, rfl⟩
          obtain ⟨b5, o5, ea5, cc5⟩ := (HK.out.below HBX.out).cell j (.slice (rb j) rows.length (rbn j)) (by simp [hjl])
          have c5 := cc5 0 _ rfl
          rw [Nat.add_zero, Nat.mul_one] at c5
          obtain ⟨b6, o6, ea6, cc6⟩ := ((HK2.out j hjl).below HBX.out).cell i dd (by
            simp only [List.getElem?_map, List.getElem?_range hil, Option.map_some]
            rw [hgu, HGD.out, tab_turn HC.out HC'.out HV.out.1 hur, hdd])
          have c6 := cc6 0 _ rfl
          rw [Nat.add_zero, Nat.mul_one] at c6
          obtain ⟨b7, o7, ea7, cc7⟩ := ((HM2.out i hil).below HBX.out).cell j dd (by
            simp only [List.getElem?_map, List.getElem?_range hjl, Option.map_some]
            rw [hgu, HGD.out, hdd])
          have c7 := cc7 0 _ rfl
          rw [Nat.add_zero, Nat.mul_one] at c7
          obtain ⟨b4, o4, ea4, cc4⟩ := (HM.out.below HBX.out).cell i (.slice (ro i) cols.length (rn i)) (by simp [hil])
          have c3 := cc4 0 _ rfl
          rw [Nat.add_zero, Nat.mul_one] at c3
          obtain rfl : b4 = b3 := by have := ea4.symm.trans EC.out; simp at this; exact this.1
          obtain rfl : o4 = o3 := by have := ea4.symm.trans EC.out; simp at this; exact this
          obtain ⟨b8, o8, ea8, cc8⟩ := (HO3.out.below HBP.out).cell j dd (by
            have hj2 : j < cols.length + cols.length := by omega
            simp only [List.getElem?_map, List.getElem?_range hj2, Option.map_some]
            rw [List.getD_eq_getElem?_getD (l := cols ++ cols), List.getElem?_append_left hjl, hu]
            exact congrArg some hdd)
          have c8 := cc8 0 _ rfl
          rw [Nat.add_zero, Nat.mul_one] at c8
          obtain ⟨b9, o9, ea9, cc9⟩ := (HO3.out.below HBP.out).cell (cols.length + j) dd (by
            have hj2 : cols.length + j < cols.length + cols.length := by omega
            simp only [List.getElem?_map, List.getElem?_range hj2, Option.map_some]
            rw [List.getD_eq_getElem?_getD (l := cols ++ cols), List.getElem?_append_right (by omega), Nat.add_sub_cancel_left, hu]
            exact congrArg some hdd)
          have c9 := cc9 0 _ rfl
          rw [Nat.add_zero, Nat.mul_one] at c9
          obtain rfl : b9 = b8 := by have := ea9.symm.trans ea8; simp at this; exact this.1
          obtain rfl : o9 = o8 := by have := ea9.symm.trans ea8; simp at this; exact this
          have c2' := ck HBP.out C2.out
          rw [ea6] at c5
          rw [ea7] at c3
          rw [ea8] at c2'
          have EK := Lib.hid ea5
          have t3 : (dd != dd) = false := by simp
          have t4 : ((rows.length : Int) != (rows.length : Int)) = false := by simp
          have q1 : IntKind.i64.wrap ((cols.length : Int) + (j : Int)) = (cols.length : Int) + (j : Int) := IntWalk.i64_in _ (by omega)
          have q2 : 0 ≤ (cols.length : Int) + (j : Int) := by omega
          have q3 : ((cols.length : Int) + (j : Int)).toNat = cols.length + j := by omega
          clear cc4 cc5 cc6 cc7 cc8 cc9 ea4 ea5 ea6 ea7 ea8 ea9 hu hur hgu hdd
          rw [EK.out]
          go_wp2_with fail
          go_quiet (fail)
          go_wp2_with fail
          rw [← EK.out]
          clear t3 t4 q1 q2 q3 c2' c3 c5 c6 c7 c8 c9
          go_roundg (cols.length - (j + 1))
          case measure => rw [HGJ.out]; omega
          case rel => exact ⟨j + 1, by go_num, by omega, rfl, below_drewN HBP.out _⟩
        · obtain rfl : j = cols.length := by omega
          go_wp2_with fail
          rw [← EC.out]
          go_roundg (rows.length - (i + 1))
          case measure => rw [HGI.out]; omega
          case rel => exact ⟨i + 1, by go_num, by omega, rfl, HBX.out⟩
    · obtain rfl : i = rows.length := by omega
      go_wp2_with fail
      refine HKK.out _ _ ?_
      clear HKK
      conv => arg 2; whnf
      go_wp2
      go_returns
      exact ⟨rfl, HB.out.trans (HBO.out.mono HB.out.size)⟩

set_option linter.unusedSimpArgs false in
set_option maxRecDepth 100000 in
set_option maxHeartbeats 8000000 in
theorem tt_twice {s0 s4 s5 s6 s8 s9 s10 s12 s13 s14 s15 s16 s17 s18 s19 s20 s21 s22 s23 s24 s25 s26 s27 s28 s29 s30 s31 s32 s33 s34 s35 s36 s37 s38 s39 s40 s41 s42 s43 s44 s45 s46 s47 s48 s49 s50 s51 s52 s53 s54 s55 s56 s57 s58 s59 s60 s61 s62 s63 s64 s65 s66 s67 s68 s69 s70 s71 s72 s73 s74 s75 s76 s77 s78 s79 s80 s81 s82 s83 s84 s85 s86 s87 s88 s89 s90 s91 s92 s93 s94 s95 s96 s97 s98 s99 s100 s101 s102 s103 s104 s105 s106 s107 s108 s109 s110 s111 s112 s113 s114 s115 s116 s117 s118 s119 s120 s121 s122 s123 s124 s125 s126 s127 s128 s129 s130 s131 s132 s133 s134 s135 s136 s137 s138 s139 s140 s141 s142 s143 s144 s145 s146 s147 s148 s149 s150 s151 s152 s153 s154 s155 s156 s157 s158 s159 s160 s161 s162 s163 s164 s165 s166 s167 s168 s169 s170 s171 s172 s173 s174 s175 s176 s177 s178 s179 s180 s181 s182 s183 s184 s185 s186 s187 s188 s189 s190 s191 s192 s193 s194 s195 s196 s197 : Value} {A : HA} {h : HierD} {rows cols : List Int} {ra ca : Option Addr} {rc cc : Nat} {w wx : World} {m bk : Value} (see : HSee w A h) (form : HForm A) (sr : See w ra rc memInt 1 rows) (sc : See w ca cc memInt 1 cols) (hw : WfList rows ∧ WfList cols) (hlr : rows.length ≤ 12) (hlc : cols.length ≤ 12) (hx : Cells wx w.heap.size 25 (hierCells A h)) (hb : Below w.heap.size w wx) (hc : checkErr h = .nil) (hc' : checkErr (turnD h) = .nil) (hrv : ∀ v ∈ rows, 0 ≤ v ∧ v < h.node.length) (hcv : ∀ v ∈ cols, 0 ≤ v ∧ v < h.node.length) (hm : MSee rows.length cols.length (fun i j => tabD h (rows.getD i 0) (cols.getD j 0)) m wx) (hk : MSee cols.length rows.length (fun j i => tabD (turnD h) (cols.getD j 0) (rows.getD i 0)) bk wx) : Code.wp Try.prog (tailAt 8 ttBody) (bodyPost Try.prog Try.f5 (BoolIs true w)) ⟨#[s0, .slice ra rows.length rc, .slice ca cols.length cc, .pointer (some ⟨w.heap.size, 0, none⟩), s4, s5, s6, m, s8, s9, s10, bk, s12, s13, s14, s15, s16, s17, s18, s19, s20, s21, s22, s23, s24, s25, s26, s27, s28, s29, s30, s31, s32, s33, s34, s35, s36, s37, s38, s39, s40, s41, s42, s43, s44, s45, s46, s47, s48, s49, s50, s51, s52, s53, s54, s55, s56, s57, s58, s59, s60, s61, s62, s63, s64, s65, s66, s67, s68, s69, s70, s71, s72, s73, s74, s75, s76, s77, s78, s79, s80, s81, s82, s83, s84, s85, s86, s87, s88, s89, s90, s91, s92, s93, s94, s95, s96, s97, s98, s99, s100, s101, s102, s103, s104, s105, s106, s107, s108, s109, s110, s111, s112, s113, s114, s115, s116, s117, s118, s119, s120, s121, s122, s123, s124, s125, s126, s127, s128, s129, s130, s131, s132, s133, s134, s135, s136, s137, s138, s139, s140, s141, s142, s143, s144, s145, s146, s147, s148, s149, s150, s151, s152, s153, s154, s155, s156, s157, s158, s159, s160, s161, s162, s163, s164, s165, s166, s167, s168, s169, s170, s171, s172, s173, s174, s175, s176, s177, s178, s179, s180, s181, s182, s183, s184, s185, s186, s187, s188, s189, s190, s191, s192, s193, s194, s195, s196, s197], []⟩ wx := by
  have l1 : rows.length ≤ 12 := hlr
  have l2 : cols.length ≤ 12 := hlc
  have SEE := Lib.hid see
  have FORM := Lib.hid form
  have SR := Lib.hid sr
  have SC := Lib.hid sc
  have HW := Lib.hid hw
  have HX := Lib.hid hx
  have HB := Lib.hid hb
  have HLR := Lib.hid hlr
  have HLC := Lib.hid hlc
  clear see form sr sc hw hx hb hlr hlc
  have HC := Lib.hid hc
  have HC' := Lib.hid hc'
  have HRV := Lib.hid hrv
  have HCV := Lib.hid hcv
  have HM := Lib.hid hm
  have HK := Lib.hid hk
  clear hc hc' hrv hcv hm hk
  conv => arg 2; whnf
  apply wp_seq_k
  intro KK hK
  have HKK := Lib.hid hK
  clear hK
  go_wp2_with fail
  refine (twinown_any cols ca cc _ (SC.out.below HB.out) (by omega)).mono ?_
  rintro e w1 ⟨t9, c9, rfl, hown, hnew, hb⟩
  have HOWN := Lib.hid hown
  have HNEW := Lib.hid hnew
  have HBZ := Lib.hid hb
  have HSC := Lib.hid (SC.out.below (HB.out.trans (hb.mono HB.out.size)))
  clear hown hnew hb
  go_wp2_with fail
  refine HKK.out _ _ ?_
  clear HKK KK
  conv => arg 2; whnf
  apply wp_seq_k
  intro KK hK
  have HKK := Lib.hid hK
  clear hK
  obtain ⟨ao, cap, w2, hr, hown2, ho2, -⟩ := app_see (P := Try.prog) (t := 40) 40 Try.underlying40 Try.infoInt rfl HOWN.out HSC.out (by unfold maxLen; omega) (by omega)
  have HB2 := Lib.hid (show Below wx.heap.size wx w2 from HBZ.out.trans (ho2.below HBZ.out.size (fun q hq => HNEW.out q (by simpa using hq))))
  rw [← List.flatMap_append] at hown2
  have HT := Lib.hid (See.of_own memInt_len hown2 (by omega)).1
  clear hown2 ho2
  go_wp2_with (at_builtin; refine wpList_appR rfl _ _ 40 rfl _ _ _ _ rfl rfl hr ?_)
  clear hr
  go_wp2_with fail
  refine HKK.out _ _ ?_
  change Code.wp _ (tailAt 10 ttBody) _ _ _
  obtain ⟨mo, mc, ro, rn, rfl, hm1, hm2⟩ := HM.out.ex
  obtain ⟨bo, bc, rb, rbn, rfl, hk1, hk2⟩ := HK.out.ex
  exact tt_loop SEE.out FORM.out SR.out SC.out HW.out HLR.out HLC.out (HX.out.below HB2.out HX.out.lt) (HB.out.trans (HB2.out.mono HB.out.size)) HC.out HC'.out HRV.out HCV.out (hm1.below HB2.out) (fun i hi => (hm2 i hi).below HB2.out) (hk1.below HB2.out) (fun j hj => (hk2 j hj).below HB2.out) HT.out

set_option linter.unusedSimpArgs false in
set_option maxRecDepth 100000 in
set_option maxHeartbeats 8000000 in
theorem tt_back {s0 s4 s5 s6 s8 s11 s12 s13 s14 s15 s16 s17 s18 s19 s20 s21 s22 s23 s24 s25 s26 s27 s28 s29 s30 s31 s32 s33 s34 s35 s36 s37 s38 s39 s40 s41 s42 s43 s44 s45 s46 s47 s48 s49 s50 s51 s52 s53 s54 s55 s56 s57 s58 s59 s60 s61 s62 s63 s64 s65 s66 s67 s68 s69 s70 s71 s72 s73 s74 s75 s76 s77 s78 s79 s80 s81 s82 s83 s84 s85 s86 s87 s88 s89 s90 s91 s92 s93 s94 s95 s96 s97 s98 s99 s100 s101 s102 s103 s104 s105 s106 s107 s108 s109 s110 s111 s112 s113 s114 s115 s116 s117 s118 s119 s120 s121 s122 s123 s124 s125 s126 s127 s128 s129 s130 s131 s132 s133 s134 s135 s136 s137 s138 s139 s140 s141 s142 s143 s144 s145 s146 s147 s148 s149 s150 s151 s152 s153 s154 s155 s156 s157 s158 s159 s160 s161 s162 s163 s164 s165 s166 s167 s168 s169 s170 s171 s172 s173 s174 s175 s176 s177 s178 s179 s180 s181 s182 s183 s184 s185 s186 s187 s188 s189 s190 s191 s192 s193 s194 s195 s196 s197 : Value} {A : HA} {h : HierD} {rows cols : List Int} {ra ca : Option Addr} {rc cc : Nat} {w wx : World} {m : Value} {b9 : Nat} {B : HA} (see : HSee w A h) (form : HForm A) (sr : See w ra rc memInt 1 rows) (sc : See w ca cc memInt 1 cols) (hw : WfList rows ∧ WfList cols) (hlr : rows.length ≤ 12) (hlc : cols.length ≤ 12) (hx : Cells wx w.heap.size 25 (hierCells A h)) (hb : Below w.heap.size w wx) (hc : checkErr h = .nil) (hc' : checkErr (turnD h) = .nil) (hrv : ∀ v ∈ rows, 0 ≤ v ∧ v < h.node.length) (hcv : ∀ v ∈ cols, 0 ≤ v ∧ v < h.node.length) (hm : MSee rows.length cols.length (fun i j => tabD h (rows.getD i 0) (cols.getD j 0)) m wx) (c9 : Cells wx b9 25 (hierCells B (turnD h))) (s9 : HSee wx B (turnD h)) : Code.wp Try.prog (tailAt 6 ttBody) (bodyPost Try.prog Try.f5 (BoolIs true w)) ⟨#[s0, .slice ra rows.length rc, .slice ca cols.length cc, .pointer (some ⟨w.heap.size, 0, none⟩), s4, s5, s6, m, s8, .pointer (some ⟨b9, 0, none⟩), .nilIface, s11, s12, s13, s14, s15, s16, s17, s18, s19, s20, s21, s22, s23, s24, s25, s26, s27, s28, s29, s30, s31, s32, s33, s34, s35, s36, s37, s38, s39, s40, s41, s42, s43, s44, s45, s46, s47, s48, s49, s50, s51, s52, s53, s54, s55, s56, s57, s58, s59, s60, s61, s62, s63, s64, s65, s66, s67, s68, s69, s70, s71, s72, s73, s74, s75, s76, s77, s78, s79, s80, s81, s82, s83, s84, s85, s86, s87, s88, s89, s90, s91, s92, s93, s94, s95, s96, s97, s98, s99, s100, s101, s102, s103, s104, s105, s106, s107, s108, s109, s110, s111, s112, s113, s114, s115, s116, s117, s118, s119, s120, s121, s122, s123, s124, s125, s126, s127, s128, s129, s130, s131, s132, s133, s134, s135, s136, s137, s138, s139, s140, s141, s142, s143, s144, s145, s146, s147, s148, s149, s150, s151, s152, s153, s154, s155, s156, s157, s158, s159, s160, s161, s162, s163, s164, s165, s166, s167, s168, s169, s170, s171, s172, s173, s174, s175, s176, s177, s178, s179, s180, s181, s182, s183, s184, s185, s186, s187, s188, s189, s190, s191, s192, s193, s194, s195, s196, s197], []⟩ wx := by
  have l1 : rows.length ≤ 12 := hlr
  have l2 : cols.length ≤ 12 := hlc
  have SEE := Lib.hid see
  have FORM := Lib.hid form
  have SR := Lib.hid sr
  have SC := Lib.hid sc
  have HW := Lib.hid hw
  have HX := Lib.hid hx
  have HB := Lib.hid hb
  have HLR := Lib.hid hlr
  have HLC := Lib.hid hlc
  clear see form sr sc hw hx hb hlr hlc
  have HC := Lib.hid hc
  have HC' := Lib.hid hc'
  have HRV := Lib.hid hrv
  have HCV := Lib.hid hcv
  have HM := Lib.hid hm
  clear hc hc' hrv hcv hm
  have S9 := Lib.hid s9
  have L4 := Lib.hid (show rows.length * 8 ≤ 140737488355328 by omega)
  have L5 := Lib.hid (show cols.length * 8 ≤ 140737488355328 by omega)
  have L6 := Lib.hid (show rows.length ≤ 24 by omega)
  have L7 := Lib.hid (show cols.length ≤ 24 by omega)
  have HOK := Lib.hid (show ofErr (turnD h) cols rows = .nil from ofErr_okT HC'.out L7.out L6.out HCV.out HRV.out)
  obtain ⟨k0, k1, k2, k3, k4⟩ := hier_five c9
  clear s9 c9
  conv => arg 2; whnf
  apply wp_seq_k
  intro KK hK
  have HKK := Lib.hid hK
  clear hK
  go_wp2_with fail
  go_region_held3 (fun W => W.cell? ⟨b9, 0, none⟩ = some (.slice B.a0 (turnD h).node.length B.c0) ∧ W.cell? ⟨b9, 1, none⟩ = some (.slice B.a1 (turnD h).upF.length B.c1) ∧ W.cell? ⟨b9, 2, none⟩ = some (.slice B.a2 (turnD h).up.length B.c2) ∧ W.cell? ⟨b9, 3, none⟩ = some (.slice B.a3 (turnD h).dnF.length B.c3) ∧ W.cell? ⟨b9, 4, none⟩ = some (.slice B.a4 (turnD h).dn.length B.c4)) (go_keep)
    (first
    | (go_at_call 20; (with_reducible refine (twinints_any cols ca cc _ ?_ L5.out).mono ?_); exact (SC.out.below (HB.out.drew)); rintro e w1 ⟨o7, c7, rfl, s1, -, hb⟩; (have hb1 := (HB.out.drew).trans (hb.mono (HB.out.drew).size)); (have hx1 : Below wx.heap.size wx w1 := ((Below.refl wx.heap.size wx).drew).trans (hb.mono (Nat.le_refl _))); (have m0 := ck hx1 k0); (have m1 := ck hx1 k1); (have m2 := ck hx1 k2); (have m3 := ck hx1 k3); (have m4 := ck hx1 k4); (have HB1 := Lib.hid hb1); (have HX1 := Lib.hid hx1); (have RS1 := Lib.hid s1); (clear hb hb1 hx1 s1))
    | (go_at_call 20; (with_reducible refine (twinints_any rows ra rc _ ?_ L4.out).mono ?_); exact (SR.out.below HB1.out); rintro e w2 ⟨o8, c8, rfl, s2, -, hb⟩; (have n0 := ck hb m0); (have n1 := ck hb m1); (have n2 := ck hb m2); (have n3 := ck hb m3); (have n4 := ck hb m4); (have HB2 := Lib.hid (HB1.out.trans (hb.mono HB1.out.size))); (have HX2 := Lib.hid (HX1.out.trans (hb.mono HX1.out.size))); (have RS2 := Lib.hid (RS1.out.below hb)); (have CS2 := Lib.hid s2); (clear hb s2))
    | (go_at_call 15; (with_reducible refine (of_lenT B (turnD h) cols rows cols.length rows.length rfl rfl _ _ _ _ _ ?_ RS2.out CS2.out L7.out L6.out ⟨HW.out.2, HW.out.1⟩).mono ?_); exact (S9.out.below HX2.out); rintro e w3 ⟨bk, ev, rfl, hv, hb, -, hm1⟩; (have p0 := ck hb n0); (have p1 := ck hb n1); (have p2 := ck hb n2); (have p3 := ck hb n3); (have p4 := ck hb n4); (have HB3 := Lib.hid (HB2.out.trans (hb.mono HB2.out.size))); (have HX3 := Lib.hid (HX2.out.trans (hb.mono HX2.out.size))); (have HV := Lib.hid hv); (have HM1 := Lib.hid hm1); (clear hb hv hm1)))
  clear k0 k1 k2 k3 k4 m0 m1 m2 m3 m4 n0 n1 n2 n3 n4 p0 p1 p2 p3 p4
  have hv := HV.out
  rw [HOK.out] at hv
  obtain rfl := hv.nilv rfl
  obtain ⟨rb, ht⟩ := HM1.out HOK.out
  have hs := ht.see (by unfold maxLen; omega)
  obtain ⟨bo, bc, rb', rbn, rfl, hk1, hk2⟩ := hs.ex
  obtain ⟨mo, mc, ro, rn, rfl, hm1, hm2⟩ := HM.out.ex
  have HK1 := Lib.hid hk1
  have HK2 := Lib.hid hk2
  have HM1' := Lib.hid hm1
  have HM2' := Lib.hid hm2
  have t0 : ((rows.length : Int) != (rows.length : Int)) = false := by simp
  have t1 : ((cols.length : Int) != (cols.length : Int)) = false := by simp
  clear hv ht hs hk1 hk2 hm1 hm2
  refine HKK.out _ _ ?_
  clear HKK KK
  conv => arg 2; whnf
  apply wp_seq_k
  intro KK hK
  have HKK := Lib.hid hK
  clear hK
  go_wp2_with fail
  refine HKK.out _ _ ?_
  change Code.wp _ (tailAt 8 ttBody) _ _ _
  exact tt_twice SEE.out FORM.out SR.out SC.out HW.out HLR.out HLC.out (HX.out.below HX3.out HX.out.lt) HB3.out HC.out HC'.out HRV.out HCV.out ⟨mo, mc, ro, rn, rfl, HM1'.out.below HX3.out, fun i hi => (HM2'.out i hi).below HX3.out⟩ ⟨bo, bc, rb', rbn, rfl, HK1.out, HK2.out⟩

set_option linter.unusedSimpArgs false in
set_option maxRecDepth 100000 in
set_option maxHeartbeats 8000000 in
theorem tt_turn {s0 s4 s5 s6 s9 s10 s11 s12 s13 s14 s15 s16 s17 s18 s19 s20 s21 s22 s23 s24 s25 s26 s27 s28 s29 s30 s31 s32 s33 s34 s35 s36 s37 s38 s39 s40 s41 s42 s43 s44 s45 s46 s47 s48 s49 s50 s51 s52 s53 s54 s55 s56 s57 s58 s59 s60 s61 s62 s63 s64 s65 s66 s67 s68 s69 s70 s71 s72 s73 s74 s75 s76 s77 s78 s79 s80 s81 s82 s83 s84 s85 s86 s87 s88 s89 s90 s91 s92 s93 s94 s95 s96 s97 s98 s99 s100 s101 s102 s103 s104 s105 s106 s107 s108 s109 s110 s111 s112 s113 s114 s115 s116 s117 s118 s119 s120 s121 s122 s123 s124 s125 s126 s127 s128 s129 s130 s131 s132 s133 s134 s135 s136 s137 s138 s139 s140 s141 s142 s143 s144 s145 s146 s147 s148 s149 s150 s151 s152 s153 s154 s155 s156 s157 s158 s159 s160 s161 s162 s163 s164 s165 s166 s167 s168 s169 s170 s171 s172 s173 s174 s175 s176 s177 s178 s179 s180 s181 s182 s183 s184 s185 s186 s187 s188 s189 s190 s191 s192 s193 s194 s195 s196 s197 : Value} {A : HA} {h : HierD} {rows cols : List Int} {ra ca : Option Addr} {rc cc : Nat} {w wx : World} {m v : Value} (see : HSee w A h) (form : HForm A) (sr : See w ra rc memInt 1 rows) (sc : See w ca cc memInt 1 cols) (hw : WfList rows ∧ WfList cols) (hlr : rows.length ≤ 12) (hlc : cols.length ≤ 12) (hx : Cells wx w.heap.size 25 (hierCells A h)) (hb : Below w.heap.size w wx) (hv : ErrIs wx v (ofErr h rows cols)) (hm0 : ofErr h rows cols ≠ .nil → m = .slice none 0 0) (hm1 : ofErr h rows cols = .nil → MSee rows.length cols.length (fun i j => tabD h (rows.getD i 0) (cols.getD j 0)) m wx) : Code.wp Try.prog (tailAt 4 ttBody) (bodyPost Try.prog Try.f5 (BoolIs true w)) ⟨#[s0, .slice ra rows.length rc, .slice ca cols.length cc, .pointer (some ⟨w.heap.size, 0, none⟩), s4, s5, s6, m, v, s9, s10, s11, s12, s13, s14, s15, s16, s17, s18, s19, s20, s21, s22, s23, s24, s25, s26, s27, s28, s29, s30, s31, s32, s33, s34, s35, s36, s37, s38, s39, s40, s41, s42, s43, s44, s45, s46, s47, s48, s49, s50, s51, s52, s53, s54, s55, s56, s57, s58, s59, s60, s61, s62, s63, s64, s65, s66, s67, s68, s69, s70, s71, s72, s73, s74, s75, s76, s77, s78, s79, s80, s81, s82, s83, s84, s85, s86, s87, s88, s89, s90, s91, s92, s93, s94, s95, s96, s97, s98, s99, s100, s101, s102, s103, s104, s105, s106, s107, s108, s109, s110, s111, s112, s113, s114, s115, s116, s117, s118, s119, s120, s121, s122, s123, s124, s125, s126, s127, s128, s129, s130, s131, s132, s133, s134, s135, s136, s137, s138, s139, s140, s141, s142, s143, s144, s145, s146, s147, s148, s149, s150, s151, s152, s153, s154, s155, s156, s157, s158, s159, s160, s161, s162, s163, s164, s165, s166, s167, s168, s169, s170, s171, s172, s173, s174, s175, s176, s177, s178, s179, s180, s181, s182, s183, s184, s185, s186, s187, s188, s189, s190, s191, s192, s193, s194, s195, s196, s197], []⟩ wx := by
  have SEE := Lib.hid see
  have FORM := Lib.hid form
  have SR := Lib.hid sr
  have SC := Lib.hid sc
  have HW := Lib.hid hw
  have HX := Lib.hid hx
  have HB := Lib.hid hb
  have HLR := Lib.hid hlr
  have HLC := Lib.hid hlc
  clear see form sr sc hw hx hb hlr hlc
  by_cases hok : ofErr h rows cols = .nil
  · have HM := Lib.hid (hm1 hok)
    obtain ⟨hc, hrv, hcv⟩ := of_parts hok
    have hc' : checkErr (turnD h) = .nil := turn_ok hc (by
      obtain ⟨f, e1, e2, -, -⟩ := checkErr_parts hc
      exact f.total SEE.out (firsts_nil f.u e1) (firsts_nil f.d e2))
    rw [hok] at hv
    obtain rfl := hv.nilv rfl
    have HC := Lib.hid hc
    have HC' := Lib.hid hc'
    have HRV := Lib.hid hrv
    have HCV := Lib.hid hcv
    clear hok hv hm0 hm1 hc hc' hrv hcv
    conv => arg 2; whnf
    apply wp_seq_k
    intro KK hK
    have HKK := Lib.hid hK
    clear hK
    go_wp2_with fail
    refine HKK.out _ _ ?_
    clear HKK KK
    obtain ⟨k0, k1, k2, k3, k4⟩ := hier_five HX.out
    conv => arg 2; whnf
    apply wp_seq_k
    intro KK hK
    have HKK := Lib.hid hK
    clear hK
    go_wp2_with fail
    refine (turn_litT A h _ (SEE.out.below HB.out) FORM.out).mono ?_
    rintro e w1 (⟨x, rfl, -, hne, -⟩ | ⟨B, rfl, -, sb, -, hb⟩)
    · exact absurd HC.out hne
    · have ho := (Below.refl w1.heap.size w1).alloc (Nat.le_refl _) (.cells (hierCells B (turnD h)).toArray 25)
      have hb1 := hb.trans (ho.mono hb.size)
      have HX1 := Lib.hid (HX.out.below hb1 HX.out.lt)
      have HB1 := Lib.hid (HB.out.trans (hb1.mono HB.out.size))
      have HM1 := Lib.hid (HM.out.below hb1)
      have S9 := Lib.hid (sb.below ho)
      clear sb hb ho hb1 HX HB HM k0 k1 k2 k3 k4
      unfold hierVal
      go_wp2_with fail
      refine HKK.out _ _ ?_
      change Code.wp _ (tailAt 6 ttBody) _ _ _
      exact tt_back SEE.out FORM.out SR.out SC.out HW.out HLR.out HLC.out HX1.out HB1.out HC.out HC'.out HRV.out HCV.out HM1.out (Cells.new w1 25 (hierCells B (turnD h))) S9.out
  · obtain rfl := hm0 hok
    have hne : v ≠ .nilIface := fun e => hok (by
      subst e
      revert hv
      cases ofErr h rows cols with
      | nil => intro _; rfl
      | code n => intro h; cases h
      | «at» k i n => rintro ⟨b, h, -⟩; cases h)
    obtain ⟨t, u, rfl⟩ := hv.shape.resolve_left hne
    clear hok hv hm0 hm1 hne
    conv => arg 2; whnf
    go_wp2
    go_returns
    exact ⟨rfl, HB.out⟩
set_option linter.unusedSimpArgs false in
set_option maxRecDepth 100000 in
set_option maxHeartbeats 8000000 in
theorem tt_call {s0 s4 s5 s6 s7 s8 s9 s10 s11 s12 s13 s14 s15 s16 s17 s18 s19 s20 s21 s22 s23 s24 s25 s26 s27 s28 s29 s30 s31 s32 s33 s34 s35 s36 s37 s38 s39 s40 s41 s42 s43 s44 s45 s46 s47 s48 s49 s50 s51 s52 s53 s54 s55 s56 s57 s58 s59 s60 s61 s62 s63 s64 s65 s66 s67 s68 s69 s70 s71 s72 s73 s74 s75 s76 s77 s78 s79 s80 s81 s82 s83 s84 s85 s86 s87 s88 s89 s90 s91 s92 s93 s94 s95 s96 s97 s98 s99 s100 s101 s102 s103 s104 s105 s106 s107 s108 s109 s110 s111 s112 s113 s114 s115 s116 s117 s118 s119 s120 s121 s122 s123 s124 s125 s126 s127 s128 s129 s130 s131 s132 s133 s134 s135 s136 s137 s138 s139 s140 s141 s142 s143 s144 s145 s146 s147 s148 s149 s150 s151 s152 s153 s154 s155 s156 s157 s158 s159 s160 s161 s162 s163 s164 s165 s166 s167 s168 s169 s170 s171 s172 s173 s174 s175 s176 s177 s178 s179 s180 s181 s182 s183 s184 s185 s186 s187 s188 s189 s190 s191 s192 s193 s194 s195 s196 s197 : Value} {A : HA} {h : HierD} {rows cols : List Int} {ra ca : Option Addr} {rc cc : Nat} {w wx : World} (see : HSee w A h) (form : HForm A) (sr : See w ra rc memInt 1 rows) (sc : See w ca cc memInt 1 cols) (hw : WfList rows ∧ WfList cols) (hlr : rows.length ≤ 12) (hlc : cols.length ≤ 12) (hx : Cells wx w.heap.size 25 (hierCells A h)) (hb : Below w.heap.size w wx) : Code.wp Try.prog (tailAt 3 ttBody) (bodyPost Try.prog Try.f5 (BoolIs true w)) ⟨#[s0, .slice ra rows.length rc, .slice ca cols.length cc, .pointer (some ⟨w.heap.size, 0, none⟩), s4, s5, s6, s7, s8, s9, s10, s11, s12, s13, s14, s15, s16, s17, s18, s19, s20, s21, s22, s23, s24, s25, s26, s27, s28, s29, s30, s31, s32, s33, s34, s35, s36, s37, s38, s39, s40, s41, s42, s43, s44, s45, s46, s47, s48, s49, s50, s51, s52, s53, s54, s55, s56, s57, s58, s59, s60, s61, s62, s63, s64, s65, s66, s67, s68, s69, s70, s71, s72, s73, s74, s75, s76, s77, s78, s79, s80, s81, s82, s83, s84, s85, s86, s87, s88, s89, s90, s91, s92, s93, s94, s95, s96, s97, s98, s99, s100, s101, s102, s103, s104, s105, s106, s107, s108, s109, s110, s111, s112, s113, s114, s115, s116, s117, s118, s119, s120, s121, s122, s123, s124, s125, s126, s127, s128, s129, s130, s131, s132, s133, s134, s135, s136, s137, s138, s139, s140, s141, s142, s143, s144, s145, s146, s147, s148, s149, s150, s151, s152, s153, s154, s155, s156, s157, s158, s159, s160, s161, s162, s163, s164, s165, s166, s167, s168, s169, s170, s171, s172, s173, s174, s175, s176, s177, s178, s179, s180, s181, s182, s183, s184, s185, s186, s187, s188, s189, s190, s191, s192, s193, s194, s195, s196, s197], []⟩ wx := by
  have l1 : rows.length ≤ 12 := hlr
  have l2 : cols.length ≤ 12 := hlc
  have SEE := Lib.hid see
  have FORM := Lib.hid form
  have SR := Lib.hid sr
  have SC := Lib.hid sc
  have HW := Lib.hid hw
  have HX := Lib.hid hx
  have HB := Lib.hid hb
  have HLR := Lib.hid hlr
  have HLC := Lib.hid hlc
  clear see form sr sc hw hx hb hlr hlc
  have L4 := Lib.hid (show rows.length * 8 ≤ 140737488355328 by omega)
  have L5 := Lib.hid (show cols.length * 8 ≤ 140737488355328 by omega)
  have L6 := Lib.hid (show rows.length ≤ 24 by omega)
  have L7 := Lib.hid (show cols.length ≤ 24 by omega)
  obtain ⟨k0, k1, k2, k3, k4⟩ := hier_five HX.out
  conv => arg 2; whnf
  apply wp_seq_k
  intro KK hK
  have HKK := Lib.hid hK
  clear hK
  go_wp2_with fail
  go_region_held3 (fun W => W.cell? ⟨w.heap.size, 0, none⟩ = some (.slice A.a0 h.node.length A.c0) ∧ W.cell? ⟨w.heap.size, 1, none⟩ = some (.slice A.a1 h.upF.length A.c1) ∧ W.cell? ⟨w.heap.size, 2, none⟩ = some (.slice A.a2 h.up.length A.c2) ∧ W.cell? ⟨w.heap.size, 3, none⟩ = some (.slice A.a3 h.dnF.length A.c3) ∧ W.cell? ⟨w.heap.size, 4, none⟩ = some (.slice A.a4 h.dn.length A.c4)) (go_keep)
    (first
    | (go_at_call 20; (with_reducible refine (twinints_any rows ra rc _ ?_ L4.out).mono ?_); exact (SR.out.below (HB.out.drew)); rintro e w1 ⟨o7, c7, rfl, s1, -, hb⟩; (have hb1 := (HB.out.drew).trans (hb.mono (HB.out.drew).size)); (have hx1 : Below wx.heap.size wx w1 := ((Below.refl wx.heap.size wx).drew).trans (hb.mono (Nat.le_refl _))); (have m0 := ck hx1 k0); (have m1 := ck hx1 k1); (have m2 := ck hx1 k2); (have m3 := ck hx1 k3); (have m4 := ck hx1 k4); (have HB1 := Lib.hid hb1); (have HX1 := Lib.hid hx1); (have RS1 := Lib.hid s1); (clear hb hb1 hx1 s1))
    | (go_at_call 20; (with_reducible refine (twinints_any cols ca cc _ ?_ L5.out).mono ?_); exact (SC.out.below HB1.out); rintro e w2 ⟨o8, c8, rfl, s2, -, hb⟩; (have n0 := ck hb m0); (have n1 := ck hb m1); (have n2 := ck hb m2); (have n3 := ck hb m3); (have n4 := ck hb m4); (have HB2 := Lib.hid (HB1.out.trans (hb.mono HB1.out.size))); (have HX2 := Lib.hid (HX1.out.trans (hb.mono HX1.out.size))); (have RS2 := Lib.hid (RS1.out.below hb)); (have CS2 := Lib.hid s2); (clear hb s2))
    | (go_at_call 15; (with_reducible refine (of_lenT A h rows cols rows.length cols.length rfl rfl _ _ _ _ _ ?_ RS2.out CS2.out L6.out L7.out HW.out).mono ?_); exact (SEE.out.below HB2.out); rintro e w3 ⟨mv, ev, rfl, hv, hb, hm0, hm1⟩; (have p0 := ck hb n0); (have p1 := ck hb n1); (have p2 := ck hb n2); (have p3 := ck hb n3); (have p4 := ck hb n4); (have HB3 := Lib.hid (HB2.out.trans (hb.mono HB2.out.size))); (have HX3 := Lib.hid (HX2.out.trans (hb.mono HX2.out.size))); (have HV := Lib.hid hv); (have HM0 := Lib.hid hm0); (have HM1 := Lib.hid hm1); (clear hb hv hm0 hm1)))
  refine HKK.out _ _ ?_
  change Code.wp _ (tailAt 4 ttBody) _ _ _
  exact tt_turn SEE.out FORM.out SR.out SC.out HW.out HLR.out HLC.out (HX.out.below HX3.out HX.out.lt) HB3.out HV.out HM0.out (fun e => by
    obtain ⟨rb, ht⟩ := HM1.out e
    exact ht.see (by have := HLC.out; unfold maxLen; omega))
set_option linter.unusedSimpArgs false in
set_option maxRecDepth 100000 in
set_option maxHeartbeats 8000000 in
theorem tt_few {s0 s4 s5 s6 s7 s8 s9 s10 s11 s12 s13 s14 s15 s16 s17 s18 s19 s20 s21 s22 s23 s24 s25 s26 s27 s28 s29 s30 s31 s32 s33 s34 s35 s36 s37 s38 s39 s40 s41 s42 s43 s44 s45 s46 s47 s48 s49 s50 s51 s52 s53 s54 s55 s56 s57 s58 s59 s60 s61 s62 s63 s64 s65 s66 s67 s68 s69 s70 s71 s72 s73 s74 s75 s76 s77 s78 s79 s80 s81 s82 s83 s84 s85 s86 s87 s88 s89 s90 s91 s92 s93 s94 s95 s96 s97 s98 s99 s100 s101 s102 s103 s104 s105 s106 s107 s108 s109 s110 s111 s112 s113 s114 s115 s116 s117 s118 s119 s120 s121 s122 s123 s124 s125 s126 s127 s128 s129 s130 s131 s132 s133 s134 s135 s136 s137 s138 s139 s140 s141 s142 s143 s144 s145 s146 s147 s148 s149 s150 s151 s152 s153 s154 s155 s156 s157 s158 s159 s160 s161 s162 s163 s164 s165 s166 s167 s168 s169 s170 s171 s172 s173 s174 s175 s176 s177 s178 s179 s180 s181 s182 s183 s184 s185 s186 s187 s188 s189 s190 s191 s192 s193 s194 s195 s196 s197 : Value} {A : HA} {h : HierD} {rows cols : List Int} {ra ca : Option Addr} {rc cc : Nat} {w wx : World} (see : HSee w A h) (form : HForm A) (sr : See w ra rc memInt 1 rows) (sc : See w ca cc memInt 1 cols) (hw : WfList rows ∧ WfList cols) (hx : Cells wx w.heap.size 25 (hierCells A h)) (hb : Below w.heap.size w wx) : Code.wp Try.prog (tailAt 2 ttBody) (bodyPost Try.prog Try.f5 (BoolIs true w)) ⟨#[s0, .slice ra rows.length rc, .slice ca cols.length cc, .pointer (some ⟨w.heap.size, 0, none⟩), s4, s5, s6, s7, s8, s9, s10, s11, s12, s13, s14, s15, s16, s17, s18, s19, s20, s21, s22, s23, s24, s25, s26, s27, s28, s29, s30, s31, s32, s33, s34, s35, s36, s37, s38, s39, s40, s41, s42, s43, s44, s45, s46, s47, s48, s49, s50, s51, s52, s53, s54, s55, s56, s57, s58, s59, s60, s61, s62, s63, s64, s65, s66, s67, s68, s69, s70, s71, s72, s73, s74, s75, s76, s77, s78, s79, s80, s81, s82, s83, s84, s85, s86, s87, s88, s89, s90, s91, s92, s93, s94, s95, s96, s97, s98, s99, s100, s101, s102, s103, s104, s105, s106, s107, s108, s109, s110, s111, s112, s113, s114, s115, s116, s117, s118, s119, s120, s121, s122, s123, s124, s125, s126, s127, s128, s129, s130, s131, s132, s133, s134, s135, s136, s137, s138, s139, s140, s141, s142, s143, s144, s145, s146, s147, s148, s149, s150, s151, s152, s153, s154, s155, s156, s157, s158, s159, s160, s161, s162, s163, s164, s165, s166, s167, s168, s169, s170, s171, s172, s173, s174, s175, s176, s177, s178, s179, s180, s181, s182, s183, s184, s185, s186, s187, s188, s189, s190, s191, s192, s193, s194, s195, s196, s197], []⟩ wx := by
  have SEE := Lib.hid see
  have FORM := Lib.hid form
  have SR := Lib.hid sr
  have SC := Lib.hid sc
  have HW := Lib.hid hw
  have HX := Lib.hid hx
  have HB := Lib.hid hb
  clear see form sr sc hw hx hb
  obtain ⟨k0, k1, k2, k3, k4⟩ := hier_five HX.out
  conv => arg 2; whnf
  apply wp_seq_k
  intro KK hK
  have HKK := Lib.hid hK
  clear hK
  go_wp2_with fail
  refine (few23_litT A h ra ca rows.length cols.length rc cc _).mono ?_
  rintro e w1 ⟨b, rfl, -, hb1⟩
  have HX1 := Lib.hid (HX.out.below hb1 HX.out.lt)
  have HB1 := Lib.hid (HB.out.trans (hb1.mono HB.out.size))
  clear hb1 HX HB k0 k1 k2 k3 k4
  cases b
  · go_wp2
    go_returns
    exact ⟨rfl, HB1.out⟩
  · by_cases hlr : rows.length ≤ 12
    · have t1 : decide ((12 : Int) < (rows.length : Int)) = false := by simp; omega
      have HLR := Lib.hid hlr
      clear hlr
      by_cases hlc : cols.length ≤ 12
      · have t2 : decide ((12 : Int) < (cols.length : Int)) = false := by simp; omega
        have HLC := Lib.hid hlc
        clear hlc
        go_wp2_with fail
        refine HKK.out _ _ ?_
        change Code.wp _ (tailAt 3 ttBody) _ _ _
        exact tt_call SEE.out FORM.out SR.out SC.out HW.out HLR.out HLC.out HX1.out HB1.out
      · have t2 : decide ((12 : Int) < (cols.length : Int)) = true := by simp; omega
        clear hlc
        go_wp2
        go_returns
        exact ⟨rfl, HB1.out⟩
    · have t1 : decide ((12 : Int) < (rows.length : Int)) = true := by simp; omega
      clear hlr
      go_wp2
      go_returns
      exact ⟨rfl, HB1.out⟩
set_option linter.unusedSimpArgs false in
set_option maxRecDepth 100000 in
set_option maxHeartbeats 8000000 in
theorem tt_awake {s0 s4 s5 s6 s7 s8 s9 s10 s11 s12 s13 s14 s15 s16 s17 s18 s19 s20 s21 s22 s23 s24 s25 s26 s27 s28 s29 s30 s31 s32 s33 s34 s35 s36 s37 s38 s39 s40 s41 s42 s43 s44 s45 s46 s47 s48 s49 s50 s51 s52 s53 s54 s55 s56 s57 s58 s59 s60 s61 s62 s63 s64 s65 s66 s67 s68 s69 s70 s71 s72 s73 s74 s75 s76 s77 s78 s79 s80 s81 s82 s83 s84 s85 s86 s87 s88 s89 s90 s91 s92 s93 s94 s95 s96 s97 s98 s99 s100 s101 s102 s103 s104 s105 s106 s107 s108 s109 s110 s111 s112 s113 s114 s115 s116 s117 s118 s119 s120 s121 s122 s123 s124 s125 s126 s127 s128 s129 s130 s131 s132 s133 s134 s135 s136 s137 s138 s139 s140 s141 s142 s143 s144 s145 s146 s147 s148 s149 s150 s151 s152 s153 s154 s155 s156 s157 s158 s159 s160 s161 s162 s163 s164 s165 s166 s167 s168 s169 s170 s171 s172 s173 s174 s175 s176 s177 s178 s179 s180 s181 s182 s183 s184 s185 s186 s187 s188 s189 s190 s191 s192 s193 s194 s195 s196 s197 : Value} {A : HA} {h : HierD} {rows cols : List Int} {ra ca : Option Addr} {rc cc : Nat} {w wx : World} (see : HSee w A h) (form : HForm A) (sr : See w ra rc memInt 1 rows) (sc : See w ca cc memInt 1 cols) (hw : WfList rows ∧ WfList cols) (hx : Cells wx w.heap.size 25 (hierCells A h)) (hb : Below w.heap.size w wx) : Code.wp Try.prog (tailAt 1 ttBody) (bodyPost Try.prog Try.f5 (BoolIs true w)) ⟨#[s0, .slice ra rows.length rc, .slice ca cols.length cc, .pointer (some ⟨w.heap.size, 0, none⟩), s4, s5, s6, s7, s8, s9, s10, s11, s12, s13, s14, s15, s16, s17, s18, s19, s20, s21, s22, s23, s24, s25, s26, s27, s28, s29, s30, s31, s32, s33, s34, s35, s36, s37, s38, s39, s40, s41, s42, s43, s44, s45, s46, s47, s48, s49, s50, s51, s52, s53, s54, s55, s56, s57, s58, s59, s60, s61, s62, s63, s64, s65, s66, s67, s68, s69, s70, s71, s72, s73, s74, s75, s76, s77, s78, s79, s80, s81, s82, s83, s84, s85, s86, s87, s88, s89, s90, s91, s92, s93, s94, s95, s96, s97, s98, s99, s100, s101, s102, s103, s104, s105, s106, s107, s108, s109, s110, s111, s112, s113, s114, s115, s116, s117, s118, s119, s120, s121, s122, s123, s124, s125, s126, s127, s128, s129, s130, s131, s132, s133, s134, s135, s136, s137, s138, s139, s140, s141, s142, s143, s144, s145, s146, s147, s148, s149, s150, s151, s152, s153, s154, s155, s156, s157, s158, s159, s160, s161, s162, s163, s164, s165, s166, s167, s168, s169, s170, s171, s172, s173, s174, s175, s176, s177, s178, s179, s180, s181, s182, s183, s184, s185, s186, s187, s188, s189, s190, s191, s192, s193, s194, s195, s196, s197], []⟩ wx := by
  have SEE := Lib.hid see
  have FORM := Lib.hid form
  have SR := Lib.hid sr
  have SC := Lib.hid sc
  have HW := Lib.hid hw
  have HX := Lib.hid hx
  have HB := Lib.hid hb
  clear see form sr sc hw hx hb
  conv => arg 2; whnf
  apply wp_seq_k
  intro KK hK
  have HKK := Lib.hid hK
  clear hK
  go_wp2_with fail
  refine (awake23_any _).mono ?_
  rintro e w1 ⟨rfl, hb1⟩
  have HX1 := Lib.hid (HX.out.below hb1 HX.out.lt)
  have HB1 := Lib.hid (HB.out.trans (hb1.mono HB.out.size))
  clear hb1 HX HB
  go_wp2_with fail
  refine HKK.out _ _ ?_
  change Code.wp _ (tailAt 2 ttBody) _ _ _
  exact tt_few SEE.out FORM.out SR.out SC.out HW.out HX1.out HB1.out
set_option linter.unusedSimpArgs false in
set_option maxRecDepth 100000 in
set_option maxHeartbeats 8000000 in
/-- **TableTurns.** -/
theorem tableTurns_any (A : HA) (h : HierD) (rows cols : List Int) (ra ca : Option Addr) (rc cc : Nat) (w : World) (see : HSee w A h) (form : HForm A) (sr : See w ra rc memInt 1 rows) (sc : See w ca cc memInt 1 cols) (hw : WfList rows ∧ WfList cols) : Calls Try.prog 5 #[hierVal A h, .slice ra rows.length rc, .slice ca cols.length cc] w (BoolIs true w) := by
  have SEE := Lib.hid see
  have FORM := Lib.hid form
  have SR := Lib.hid sr
  have SC := Lib.hid sc
  have HW := Lib.hid hw
  clear see form sr sc hw
  unfold hierVal
  go_enter Try.func5, Try.ntmps5
  apply wp_seq_k
  intro K1 hK
  have HK1 := Lib.hid hK
  clear hK
  go_wp2_with fail
  refine HK1.out _ _ ?_
  change Code.wp _ (tailAt 1 ttBody) _ _ _
  exact tt_awake SEE.out FORM.out SR.out SC.out HW.out (Cells.new w 25 (hierCells A h)) ((Below.refl w.heap.size w).alloc (Nat.le_refl _) _)
end Go.Proofs.Ytjbphoophgbmiaa
