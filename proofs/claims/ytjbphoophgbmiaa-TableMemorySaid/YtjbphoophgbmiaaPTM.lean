/- The law TableMemory: its walk. -/
import Derived.Test.YtjbphoophgbmiaaP4
import Derived.Test.YtjbphoophgbmiaaReach
import Derived.Test.YtjbphoophgbmiaaRefQ
import Derived.Test.YtjbphoophgbmiaaP3
namespace Go.Proofs.Ytjbphoophgbmiaa
open Go.ChangeShapes Go.WideShapes Go.ChangeAt Go.RowKit Go.Joins Go.Deep

noncomputable def tmBody : Code := Try.f4.body.getD .skip
theorem twin_litM (A : HA) (h : HierD) (w : World) (see : HSee w A h) (hr : Reach5 h) : Calls Try.prog 14 #[.agg #[.slice A.a0 h.node.length A.c0, .slice A.a1 h.upF.length A.c1, .slice A.a2 h.up.length A.c2, .slice A.a3 h.dnF.length A.c3, .slice A.a4 h.dn.length A.c4]] w (HierNew h w) := twin_any A h w see hr
theorem few23_litM (A : HA) (h : HierD) (ra ca : Option Addr) (nr nc rc cc : Nat) (w : World) : Calls Try.prog 13 #[.agg #[.slice A.a0 h.node.length A.c0, .slice A.a1 h.upF.length A.c1, .slice A.a2 h.up.length A.c2, .slice A.a3 h.dnF.length A.c3, .slice A.a4 h.dn.length A.c4], .slice ra nr rc, .slice ca nc cc] w (FewTab h nr nc w) := few23_any A h ra ca nr nc rc cc w
theorem of_litM (A : HA) (h : HierD) (rows cols : List Int) (ra ca : Option Addr) (rc cc : Nat) (w : World) (see : HSee w A h) (sr : See w ra rc memInt 1 rows) (sc : See w ca cc memInt 1 cols) (hlr : rows.length ≤ 20) (hlc : cols.length ≤ 20) (hw : WfList rows ∧ WfList cols) :
    Calls Try.prog 15 #[.agg #[.slice A.a0 h.node.length A.c0, .slice A.a1 h.upF.length A.c1, .slice A.a2 h.up.length A.c2, .slice A.a3 h.dnF.length A.c3, .slice A.a4 h.dn.length A.c4], .slice ra rows.length rc, .slice ca cols.length cc] w (OfNew h rows cols w) := of_any A h rows cols ra ca rc cc w see sr sc (by omega) (by omega) hw
theorem rdocof_litM (A : HA) (h : HierD) (rows cols : List Int) (ra ca : Option Addr) (rc cc : Nat) (w : World) (see : HSee w A h) (sr : See w ra rc memInt 1 rows) (sc : See w ca cc memInt 1 cols) (hlr : rows.length ≤ 20) (hlc : cols.length ≤ 20) (hw : WfList rows ∧ WfList cols) (hk1 : h.up.length ≤ 140737488355328) (hk2 : h.dn.length ≤ 140737488355328) (hn64 : h.node.length ≤ 140737488355328) :
    Calls Try.prog 18 #[.agg #[.slice A.a0 h.node.length A.c0, .slice A.a1 h.upF.length A.c1, .slice A.a2 h.up.length A.c2, .slice A.a3 h.dnF.length A.c3, .slice A.a4 h.dn.length A.c4], .slice ra rows.length rc, .slice ca cols.length cc] w (RDocOfNew h rows cols w) := rdocof_any A h rows cols ra ca rc cc w see sr sc (by omega) (by omega) hw hk1 hk2 hn64
theorem rsame_litM (A B : HA) (h : HierD) (w : World) (sa : HSee w A h) (sb : HSee w B h) : Calls Try.prog 16 #[.agg #[.slice A.a0 h.node.length A.c0, .slice A.a1 h.upF.length A.c1, .slice A.a2 h.up.length A.c2, .slice A.a3 h.dnF.length A.c3, .slice A.a4 h.dn.length A.c4], .agg #[.slice B.a0 h.node.length B.c0, .slice B.a1 h.upF.length B.c1, .slice B.a2 h.up.length B.c2, .slice B.a3 h.dnF.length B.c3, .slice B.a4 h.dn.length B.c4]] w (BoolIs true w) := rsame_any A B h w sa sb
theorem samemat_nilM (w : World) : Calls Try.prog 19 #[.slice none 0 0, .slice none 0 0] w (BoolIs true w) :=
  samematrix_see 0 0 (fun _ _ => 0) (fun _ _ => 0) _ _ w (by omega) (by omega) ⟨none, 0, fun _ => none, fun _ => 0, rfl, See.nil w _ _, fun i hi => by omega⟩ ⟨none, 0, fun _ => none, fun _ => 0, rfl, See.nil w _ _, fun i hi => by omega⟩ (fun _ _ hv _ => by omega)
/-- What Of has answered, its blocks told. -/
structure TabB (h : HierD) (rows cols : List Int) (base : Nat) (m : Value) (w : World) : Prop where
  bad : ofErr h rows cols ≠ .nil → m = .slice none 0 0
  good : ofErr h rows cols = .nil → ∃ rb, TabRep rows.length cols.length (fun i j => tabD h (rows.getD i 0) (cols.getD j 0)) base m rb w
theorem TabB.below {h : HierD} {rows cols : List Int} {base : Nat} {m : Value} {w w' : World} (t : TabB h rows cols base m w) (o : Below w.heap.size w w') : TabB h rows cols base m w' :=
  ⟨t.bad, fun e => (t.good e).imp fun _ h => h.below o⟩
theorem TabRep.kept {n k : Nat} {X : Nat → Nat → Int} {base : Nat} {m : Value} {rb : Nat → Nat} {w w' : World} {bs : List Nat} (t : TabRep n k X base m rb w) (o : Only bs w w') (hn : ∀ b ∈ bs, b < base) : TabRep n k X base m rb w' :=
  ⟨own_kept t.own o (fun q hq hm => by have := t.bo q hq; have := hn q hm; omega), fun i hi => (t.r i hi).kept o (fun hm => by have := t.lo i hi; have := hn _ hm; omega), t.lo, t.bo, t.ne, t.inj⟩
theorem TabB.kept {h : HierD} {rows cols : List Int} {base : Nat} {m : Value} {w w' : World} {bs : List Nat} (t : TabB h rows cols base m w) (o : Only bs w w') (hn : ∀ b ∈ bs, b < base) : TabB h rows cols base m w' :=
  ⟨t.bad, fun e => (t.good e).imp fun _ h => h.kept o hn⟩
/-- Of's answer as rows of its own, no row where it answers an error. -/
theorem OfNew.tab {h : HierD} {rows cols : List Int} {m : Value} {w w' : World} (hm0 : ofErr h rows cols ≠ .nil → m = .slice none 0 0) (hm1 : ofErr h rows cols = .nil → ∃ rb, TabRep rows.length cols.length (fun i j => tabD h (rows.getD i 0) (cols.getD j 0)) w.heap.size m rb w') :
    ∃ (ao : Option Addr) (na ac : Nat) (X : Nat → Nat → Int) (rb : Nat → Nat), m = .slice ao na ac ∧ na ≤ rows.length ∧ TabRep na cols.length X w.heap.size (.slice ao na ac) rb w' := by
  by_cases e : ofErr h rows cols = .nil
  · obtain ⟨rb, ht⟩ := hm1 e
    obtain ⟨ao, ac, rfl⟩ := own_form' ht.own
    exact ⟨ao, _, ac, _, rb, rfl, Nat.le_refl _, ht⟩
  · exact ⟨none, 0, 0, fun _ _ => 0, fun _ => 0, hm0 e, Nat.zero_le _, ⟨World.ownsRow_nil _ _ _ _, fun i hi => by omega, fun i hi => by omega, fun q hq => by simp [Value.ownBlock] at hq, fun i hi => by omega, fun i j hi => by omega⟩⟩
def F77 (i j : Nat) (X : Nat → Nat → Int) (q x : Nat) : Int := if q < i ∨ (q = i ∧ x < j) then 77 else X q x
theorem f77_set (k i j : Nat) (X : Nat → Nat → Int) : (rowCells k (F77 i j X i)).set j (.int .u64 77) = rowCells k (F77 i (j + 1) X i) := by
  rw [rowCells_set]
  refine rowCells_congr fun x _ => ?_
  unfold F77
  by_cases e : x = j
  · subst e; simp
  · rw [if_neg e]
    by_cases h : x < j
    · rw [if_pos (by omega), if_pos (by omega)]
    · rw [if_neg (by omega), if_neg (by omega)]
theorem f77_other {k i j q : Nat} {X : Nat → Nat → Int} (h : q ≠ i) : rowCells k (F77 i j X q) = rowCells k (F77 i (j + 1) X q) := by
  refine rowCells_congr fun x _ => ?_
  unfold F77
  have : (q < i ∨ (q = i ∧ x < j)) ↔ (q < i ∨ (q = i ∧ x < j + 1)) := by omega
  simp only [this]
theorem f77_next {k i q : Nat} {X : Nat → Nat → Int} : rowCells k (F77 i k X q) = rowCells k (F77 (i + 1) 0 X q) := by
  refine rowCells_congr fun x hx => ?_
  unfold F77
  have : (q < i ∨ (q = i ∧ x < k)) ↔ (q < i + 1 ∨ (q = i + 1 ∧ x < 0)) := by omega
  simp only [this]
theorem f77_zero {k q : Nat} {X : Nat → Nat → Int} : rowCells k (F77 0 0 X q) = rowCells k (X q) := by
  refine rowCells_congr fun x _ => ?_
  unfold F77
  rw [if_neg (by omega)]
theorem f77_all {k n q : Nat} {X : Nat → Nat → Int} (h : q < n) : rowCells k (F77 n 0 X q) = rowCells k fun _ => 77 := by
  refine rowCells_congr fun x _ => ?_
  unfold F77
  rw [if_pos (Or.inl h)]

set_option linter.unusedSimpArgs false in
set_option maxRecDepth 100000 in
set_option maxHeartbeats 8000000 in
theorem tm_end {s0 s4 s5 s6 s7 s8 s9 s10 s11 s12 s13 s15 s16 s17 s18 s19 s20 s21 s22 s23 s24 s25 s26 s27 s28 s29 s30 s31 s32 s33 s34 s35 s36 s37 s38 s39 s40 s41 s42 s43 s44 s45 s46 s47 s48 s49 s50 s51 s52 s53 s54 s55 s56 s57 s58 s59 s60 s61 s62 s63 s64 s65 s66 s67 s68 s69 s70 s71 s72 s73 s74 s75 s76 s77 s78 s79 s80 s81 s82 s83 s84 s85 s86 s87 s88 s89 s90 s91 s92 s93 s94 s95 s96 s97 s98 s99 s100 s101 s102 s103 s104 s105 s106 s107 s108 s109 s110 s111 s112 s113 s114 s115 s116 s117 s118 s119 s120 s121 s122 s123 s124 s125 s126 s127 s128 s129 s130 s131 s132 s133 s134 s135 s136 s137 s138 s139 s140 s141 s142 s143 s144 s145 s146 s147 s148 s149 s150 s151 s152 s153 s154 s155 s156 s157 s158 s159 s160 s161 s162 s163 s164 s165 s166 s167 s168 s169 s170 s171 s172 s173 s174 s175 s176 s177 s178 s179 s180 s181 s182 s183 s184 s185 s186 s187 s188 s189 s190 s191 s192 s193 s194 s195 s196 s197 s198 s199 s200 s201 s202 s203 s204 s205 s206 s207 : Value} {A : HA} {h : HierD} {rows cols : List Int} {ra ca : Option Addr} {rc cc : Nat} {w wx : World} {m2 : Value} {base : Nat} (see : HSee w A h) (sr : See w ra rc memInt 1 rows) (sc : See w ca cc memInt 1 cols) (hw : WfList rows ∧ WfList cols) (hr : Reach5 h) (hlr : rows.length ≤ 20) (hlc : cols.length ≤ 20) (hx : Cells wx w.heap.size 25 (hierCells A h)) (hb : Below w.heap.size w wx) (ht : TabB h rows cols base m2 wx) : Code.wp Try.prog (tailAt 16 tmBody) (bodyPost Try.prog Try.f4 (BoolIs true w)) ⟨#[s0, .slice ra rows.length rc, .slice ca cols.length cc, .pointer (some ⟨w.heap.size, 0, none⟩), s4, s5, s6, s7, s8, s9, s10, s11, s12, s13, m2, s15, s16, s17, s18, s19, s20, s21, s22, s23, s24, s25, s26, s27, s28, s29, s30, s31, s32, s33, s34, s35, s36, s37, s38, s39, s40, s41, s42, s43, s44, s45, s46, s47, s48, s49, s50, s51, s52, s53, s54, s55, s56, s57, s58, s59, s60, s61, s62, s63, s64, s65, s66, s67, s68, s69, s70, s71, s72, s73, s74, s75, s76, s77, s78, s79, s80, s81, s82, s83, s84, s85, s86, s87, s88, s89, s90, s91, s92, s93, s94, s95, s96, s97, s98, s99, s100, s101, s102, s103, s104, s105, s106, s107, s108, s109, s110, s111, s112, s113, s114, s115, s116, s117, s118, s119, s120, s121, s122, s123, s124, s125, s126, s127, s128, s129, s130, s131, s132, s133, s134, s135, s136, s137, s138, s139, s140, s141, s142, s143, s144, s145, s146, s147, s148, s149, s150, s151, s152, s153, s154, s155, s156, s157, s158, s159, s160, s161, s162, s163, s164, s165, s166, s167, s168, s169, s170, s171, s172, s173, s174, s175, s176, s177, s178, s179, s180, s181, s182, s183, s184, s185, s186, s187, s188, s189, s190, s191, s192, s193, s194, s195, s196, s197, s198, s199, s200, s201, s202, s203, s204, s205, s206, s207], []⟩ wx := by
  have SEE := Lib.hid see
  have SR := Lib.hid sr
  have SC := Lib.hid sc
  have HW := Lib.hid hw
  have HRE := Lib.hid hr
  have HX := Lib.hid hx
  have HB := Lib.hid hb
  have HLR := Lib.hid hlr
  have HLC := Lib.hid hlc
  clear see sr sc hw hr hx hb hlr hlc
  have L1 := Lib.hid (show h.up.length ≤ 140737488355328 by have := HRE.out.up; omega)
  have L2 := Lib.hid (show h.dn.length ≤ 140737488355328 by have := HRE.out.dn; omega)
  have L3 := Lib.hid (show h.node.length ≤ 140737488355328 by have := HRE.out.n; omega)
  have HT := Lib.hid ht
  clear ht
  obtain ⟨k0, k1, k2, k3, k4⟩ := hier_five HX.out
  conv => arg 2; whnf
  apply wp_seq_k
  intro KK hK
  have HKK := Lib.hid hK
  clear hK
  go_wp2_with fail
  refine (rdocof_litM A h rows cols ra ca rc cc _ (SEE.out.below HB.out) (SR.out.below HB.out) (SC.out.below HB.out) HLR.out HLC.out HW.out L1.out L2.out L3.out).mono ?_
  rintro e w1 ⟨mv, u, rfl, hu, hb1, hm1, hm2⟩
  obtain ⟨uc, ua, un, ucap, rfl⟩ := hu.form
  have ho := (Below.refl w1.heap.size w1).alloc (Nat.le_refl _) (.cells #[.int .i64 uc, .slice ua un ucap] 51)
  have hb1' := hb1.trans (ho.mono hb1.size)
  have HB1 := Lib.hid (HB.out.trans (hb1'.mono HB.out.size))
  have HT1 := Lib.hid (HT.out.below hb1')
  have HD := Lib.hid (show ofErr h rows cols = .nil → MSee rows.length cols.length (fun i j => tabD h (rows.getD i 0) (cols.getD j 0)) mv _ from fun e => (hm2 e).below ho)
  have HD0 := Lib.hid hm1
  clear hu hb1 hm1 hm2 ho hb1' HX HB HT k0 k1 k2 k3 k4
  go_wp2_with fail
  refine HKK.out _ _ ?_
  clear HKK KK
  conv => arg 2; whnf
  go_wp2_with fail
  have hcall : Calls Try.prog 19 #[m2, mv] (w1.alloc (.cells #[.int .i64 uc, .slice ua un ucap] 51)) (BoolIs true (w1.alloc (.cells #[.int .i64 uc, .slice ua un ucap] 51))) := by
    by_cases e : ofErr h rows cols = .nil
    · obtain ⟨rb, ht⟩ := HT1.out.good e
      exact samematrix_see _ _ _ _ _ _ _ (by have := HLR.out; omega) (by have := HLC.out; omega) (ht.see (by have := HLC.out; unfold maxLen; omega)) (HD.out e) (fun _ _ _ _ => rfl)
    · rw [HT1.out.bad e, HD0.out e]
      exact samemat_nilM _
  refine hcall.mono ?_
  rintro e w2 ⟨rfl, hb2⟩
  have HB2 := Lib.hid (HB1.out.trans (hb2.mono HB1.out.size))
  clear hb2
  go_wp2
  go_returns
  exact ⟨rfl, HB2.out⟩

set_option linter.unusedSimpArgs false in
set_option maxRecDepth 100000 in
set_option maxHeartbeats 8000000 in
theorem tm_loop4 {s0 s4 s5 s6 s7 s8 s9 s10 s11 s13 s15 s16 s17 s18 s19 s20 s21 s22 s23 s24 s25 s26 s27 s28 s29 s30 s31 s32 s33 s34 s35 s36 s37 s38 s39 s40 s41 s42 s43 s44 s45 s46 s47 s48 s49 s50 s51 s52 s53 s54 s55 s56 s57 s58 s59 s60 s61 s62 s63 s64 s65 s66 s67 s68 s69 s70 s71 s72 s73 s74 s75 s76 s77 s78 s79 s80 s81 s82 s83 s84 s85 s86 s87 s88 s89 s90 s91 s92 s93 s94 s95 s96 s97 s98 s99 s100 s101 s102 s103 s104 s105 s106 s107 s108 s109 s110 s111 s112 s113 s114 s115 s116 s117 s118 s119 s120 s121 s122 s123 s124 s125 s126 s127 s128 s129 s130 s131 s132 s133 s134 s135 s136 s137 s138 s139 s140 s141 s142 s143 s144 s145 s146 s147 s148 s149 s150 s151 s152 s153 s154 s155 s156 s157 s158 s159 s160 s161 s162 s163 s164 s165 s166 s167 s168 s169 s170 s171 s172 s173 s174 s175 s176 s177 s178 s179 s180 s181 s182 s183 s184 s185 s186 s187 s188 s189 s190 s191 s192 s193 s194 s195 s196 s197 s198 s199 s200 s201 s202 s203 s204 s205 s206 s207 : Value} {A : HA} {h : HierD} {rows cols : List Int} {ra ca : Option Addr} {rc cc : Nat} {w wx : World} {m2 : Value} {base na ac : Nat} {ao : Option Addr} {rb : Nat → Nat} (see : HSee w A h) (sr : See w ra rc memInt 1 rows) (sc : See w ca cc memInt 1 cols) (hw : WfList rows ∧ WfList cols) (hr : Reach5 h) (hlr : rows.length ≤ 20) (hlc : cols.length ≤ 20) (hx : Cells wx w.heap.size 25 (hierCells A h)) (hb : Below w.heap.size w wx) (ht : TabB h rows cols base m2 wx) (hna : na ≤ 20) (hm : See wx ao ac valC 1 ((List.range na).map fun i => .slice (some ⟨rb i, 0, none⟩) cols.length cols.length)) (h77 : ∀ q, q < na → Cells wx (rb q) 33 (rowCells cols.length fun _ => 77)) : Code.wp Try.prog (tailAt 15 tmBody) (bodyPost Try.prog Try.f4 (BoolIs true w)) ⟨#[s0, .slice ra rows.length rc, .slice ca cols.length cc, .pointer (some ⟨w.heap.size, 0, none⟩), s4, s5, s6, s7, s8, s9, s10, s11, .slice ao na ac, s13, m2, s15, s16, s17, s18, s19, s20, s21, s22, s23, s24, s25, s26, s27, s28, s29, s30, s31, s32, s33, s34, s35, s36, s37, s38, s39, s40, s41, s42, s43, s44, s45, s46, s47, s48, s49, s50, s51, s52, s53, s54, s55, s56, s57, s58, s59, s60, s61, s62, s63, s64, s65, s66, s67, s68, s69, s70, s71, s72, s73, s74, s75, s76, s77, s78, s79, s80, s81, s82, s83, s84, s85, s86, s87, s88, s89, s90, s91, s92, s93, s94, s95, s96, s97, s98, s99, s100, s101, s102, s103, s104, s105, s106, s107, s108, s109, s110, s111, s112, s113, s114, s115, s116, s117, s118, s119, s120, s121, s122, s123, s124, s125, s126, s127, s128, s129, s130, s131, s132, s133, s134, s135, s136, s137, s138, s139, s140, s141, s142, s143, s144, s145, s146, s147, s148, s149, s150, s151, s152, s153, s154, s155, s156, s157, s158, s159, s160, s161, s162, s163, s164, s165, s166, s167, s168, s169, s170, s171, s172, s173, s174, s175, s176, s177, s178, s179, s180, s181, s182, s183, s184, s185, s186, s187, s188, s189, s190, s191, s192, s193, s194, s195, s196, s197, s198, s199, s200, s201, s202, s203, s204, s205, s206, s207], []⟩ wx := by
  have SEE := Lib.hid see
  have SR := Lib.hid sr
  have SC := Lib.hid sc
  have HW := Lib.hid hw
  have HRE := Lib.hid hr
  have HX := Lib.hid hx
  have HB := Lib.hid hb
  have HLR := Lib.hid hlr
  have HLC := Lib.hid hlc
  clear see sr sc hw hr hx hb hlr hlc
  have HT := Lib.hid ht
  have HM := Lib.hid hm
  have H77 := Lib.hid h77
  have l1 : rows.length ≤ 20 := HLR.out
  have l2 : cols.length ≤ 20 := HLC.out
  clear ht hm h77
  conv => arg 2; whnf
  apply wp_seq_k
  intro KK hK
  have HKK := Lib.hid hK
  clear hK
  go_wp2_with fail
  go_loopg [182] na (fun gg vi wr => ∃ (i : Nat), vi = .int .i64 (i : Int) ∧ i ≤ na ∧ gg = na - i ∧ Below wx.heap.size wx wr)
  case atStart => exact ⟨0, rfl, Nat.zero_le _, rfl, Below.refl _ _⟩
  case round =>
    obtain ⟨i, rfl, hi, hgi, hb⟩ := hrel
    obtain ⟨wo, rfl⟩ : ∃ wo : World, wo = wr := ⟨_, rfl⟩
    have HGI := Lib.hid hgi
    have HBO := Lib.hid hb
    clear hgi hb
    by_cases hil : i < na
    · obtain ⟨b3, o3, ea3, cc3⟩ := (HM.out.below HBO.out).cell i (.slice (some ⟨rb i, 0, none⟩) cols.length cols.length) (by simp [hil])
      have c3 := cc3 0 _ rfl
      rw [Nat.add_zero, Nat.mul_one] at c3
      have EC := Lib.hid ea3
      have HR := Lib.hid ((H77.out i hil).below HBO.out (H77.out i hil).lt)
      clear cc3 ea3
      rw [EC.out]
      go_wp2_with fail
      clear c3
      go_loopg [190] cols.length (fun gg vj wr => ∃ (j : Nat), vj = .int .i64 (j : Int) ∧ j ≤ cols.length ∧ gg = cols.length - j ∧ Below wo.heap.size wo wr)
      case atStart => exact ⟨0, rfl, Nat.zero_le _, rfl, Below.refl _ _⟩
      case round =>
        obtain ⟨j, rfl, hj, hgj, hb⟩ := hrel
        obtain ⟨wp, rfl⟩ : ∃ wp : World, wp = wr := ⟨_, rfl⟩
        have HGJ := Lib.hid hgj
        have HBP := Lib.hid hb
        clear hgj hb
        by_cases hjl : j < cols.length
        · have hr := HR.out.below HBP.out HR.out.lt
          have c4 : wp.cell? ⟨rb i, j, none⟩ = some (.int .u64 77) := hr.cell (rowCells_get hjl)
          have lr := hr.lt
          clear hr
          go_wp2_with fail
          clear c4 lr
          go_roundg (cols.length - (j + 1))
          case measure => rw [HGJ.out]; omega
          case rel => exact ⟨j + 1, by go_num, by omega, rfl, HBP.out⟩
        · obtain rfl : j = cols.length := by omega
          go_wp2_with fail
          rw [← EC.out]
          go_roundg (na - (i + 1))
          case measure => rw [HGI.out]; omega
          case rel => exact ⟨i + 1, by go_num, by omega, rfl, HBO.out.trans (HBP.out.mono HBO.out.size)⟩
    · obtain rfl : i = na := by omega
      go_wp2_with fail
      refine HKK.out _ _ ?_
      change Code.wp _ (tailAt 16 tmBody) _ _ _
      exact tm_end SEE.out SR.out SC.out HW.out HRE.out HLR.out HLC.out (HX.out.below HBO.out HX.out.lt) (HB.out.trans (HBO.out.mono HB.out.size)) (HT.out.below HBO.out)
set_option linter.unusedSimpArgs false in
set_option maxRecDepth 100000 in
set_option maxHeartbeats 8000000 in
theorem tm_loop3 {s0 s4 s5 s6 s7 s8 s9 s10 s11 s13 s15 s16 s17 s18 s19 s20 s21 s22 s23 s24 s25 s26 s27 s28 s29 s30 s31 s32 s33 s34 s35 s36 s37 s38 s39 s40 s41 s42 s43 s44 s45 s46 s47 s48 s49 s50 s51 s52 s53 s54 s55 s56 s57 s58 s59 s60 s61 s62 s63 s64 s65 s66 s67 s68 s69 s70 s71 s72 s73 s74 s75 s76 s77 s78 s79 s80 s81 s82 s83 s84 s85 s86 s87 s88 s89 s90 s91 s92 s93 s94 s95 s96 s97 s98 s99 s100 s101 s102 s103 s104 s105 s106 s107 s108 s109 s110 s111 s112 s113 s114 s115 s116 s117 s118 s119 s120 s121 s122 s123 s124 s125 s126 s127 s128 s129 s130 s131 s132 s133 s134 s135 s136 s137 s138 s139 s140 s141 s142 s143 s144 s145 s146 s147 s148 s149 s150 s151 s152 s153 s154 s155 s156 s157 s158 s159 s160 s161 s162 s163 s164 s165 s166 s167 s168 s169 s170 s171 s172 s173 s174 s175 s176 s177 s178 s179 s180 s181 s182 s183 s184 s185 s186 s187 s188 s189 s190 s191 s192 s193 s194 s195 s196 s197 s198 s199 s200 s201 s202 s203 s204 s205 s206 s207 : Value} {A : HA} {h : HierD} {rows cols : List Int} {ra ca : Option Addr} {rc cc : Nat} {w wx : World} {m2 : Value} {base na ac : Nat} {ao : Option Addr} {rb : Nat → Nat} (see : HSee w A h) (sr : See w ra rc memInt 1 rows) (sc : See w ca cc memInt 1 cols) (hw : WfList rows ∧ WfList cols) (hr : Reach5 h) (hlr : rows.length ≤ 20) (hlc : cols.length ≤ 20) (hx : Cells wx w.heap.size 25 (hierCells A h)) (hb : Below w.heap.size w wx) (ht : TabB h rows cols base m2 wx) (hna : na ≤ 20) (hm : See wx ao ac valC 1 ((List.range na).map fun i => .slice (some ⟨rb i, 0, none⟩) cols.length cols.length)) (h77 : ∀ q, q < na → Cells wx (rb q) 33 (rowCells cols.length fun _ => 77)) : Code.wp Try.prog (tailAt 14 tmBody) (bodyPost Try.prog Try.f4 (BoolIs true w)) ⟨#[s0, .slice ra rows.length rc, .slice ca cols.length cc, .pointer (some ⟨w.heap.size, 0, none⟩), s4, s5, s6, s7, s8, s9, s10, s11, .slice ao na ac, s13, m2, s15, s16, s17, s18, s19, s20, s21, s22, s23, s24, s25, s26, s27, s28, s29, s30, s31, s32, s33, s34, s35, s36, s37, s38, s39, s40, s41, s42, s43, s44, s45, s46, s47, s48, s49, s50, s51, s52, s53, s54, s55, s56, s57, s58, s59, s60, s61, s62, s63, s64, s65, s66, s67, s68, s69, s70, s71, s72, s73, s74, s75, s76, s77, s78, s79, s80, s81, s82, s83, s84, s85, s86, s87, s88, s89, s90, s91, s92, s93, s94, s95, s96, s97, s98, s99, s100, s101, s102, s103, s104, s105, s106, s107, s108, s109, s110, s111, s112, s113, s114, s115, s116, s117, s118, s119, s120, s121, s122, s123, s124, s125, s126, s127, s128, s129, s130, s131, s132, s133, s134, s135, s136, s137, s138, s139, s140, s141, s142, s143, s144, s145, s146, s147, s148, s149, s150, s151, s152, s153, s154, s155, s156, s157, s158, s159, s160, s161, s162, s163, s164, s165, s166, s167, s168, s169, s170, s171, s172, s173, s174, s175, s176, s177, s178, s179, s180, s181, s182, s183, s184, s185, s186, s187, s188, s189, s190, s191, s192, s193, s194, s195, s196, s197, s198, s199, s200, s201, s202, s203, s204, s205, s206, s207], []⟩ wx := by
  have SEE := Lib.hid see
  have SR := Lib.hid sr
  have SC := Lib.hid sc
  have HW := Lib.hid hw
  have HRE := Lib.hid hr
  have HX := Lib.hid hx
  have HB := Lib.hid hb
  have HLR := Lib.hid hlr
  have HLC := Lib.hid hlc
  clear see sr sc hw hr hx hb hlr hlc
  have HT := Lib.hid ht
  have HM := Lib.hid hm
  have H77 := Lib.hid h77
  have l1 : rows.length ≤ 20 := HLR.out
  have l2 : cols.length ≤ 20 := HLC.out
  clear ht hm h77
  conv => arg 2; whnf
  apply wp_seq_k
  intro KK hK
  have HKK := Lib.hid hK
  clear hK
  go_wp2_with fail
  go_loopg [161] na (fun gg vi wr => ∃ (i : Nat), vi = .int .i64 (i : Int) ∧ i ≤ na ∧ gg = na - i ∧ Below wx.heap.size wx wr)
  case atStart => exact ⟨0, rfl, Nat.zero_le _, rfl, Below.refl _ _⟩
  case round =>
    obtain ⟨i, rfl, hi, hgi, hb⟩ := hrel
    obtain ⟨wo, rfl⟩ : ∃ wo : World, wo = wr := ⟨_, rfl⟩
    have HGI := Lib.hid hgi
    have HBO := Lib.hid hb
    clear hgi hb
    by_cases hil : i < na
    · obtain ⟨b3, o3, ea3, cc3⟩ := (HM.out.below HBO.out).cell i (.slice (some ⟨rb i, 0, none⟩) cols.length cols.length) (by simp [hil])
      have c3 := cc3 0 _ rfl
      rw [Nat.add_zero, Nat.mul_one] at c3
      have EC := Lib.hid ea3
      have HR := Lib.hid ((H77.out i hil).below HBO.out (H77.out i hil).lt)
      clear cc3 ea3
      rw [EC.out]
      have t0 : (((cols.length + 2 : Nat) : Int) != (cols.length : Int) + 2) = false := by simp
      have t1 : ((cols.length : Int) + 2 != (cols.length : Int) + 2) = false := by simp
      have hcn := Cells.new wo 33 [.int .u64 1, .int .u64 2]
      have ho := (Below.refl wo.heap.size wo).alloc (Nat.le_refl _) (.cells #[.int .u64 1, .int .u64 2] 33)
      obtain ⟨cap5, w5, hr5, hb5⟩ := app_grown (P := Try.prog) (w := wo.alloc (.cells #[.int .u64 1, .int .u64 2] 33)) (t := 48) 48 Try.underlying48 Try.infoU64 (rowCells_len cols.length fun _ => 77) (HR.out.alloc (.cells #[.int .u64 1, .int .u64 2] 33)) hcn (by omega) (by omega)
      have HB5 := Lib.hid (HBO.out.trans ((ho.trans (hb5.mono ho.size)).mono HBO.out.size))
      obtain ⟨bn, hbn⟩ : ∃ bn, (wo.alloc (.cells #[.int .u64 1, .int .u64 2] 33)).heap.size = bn := ⟨_, rfl⟩
      rw [hbn] at hr5
      have c5 := ck (ho.trans (hb5.mono ho.size)) c3
      clear hcn ho hb5 hbn
      go_wp2_with (at_builtin; refine wpList_appR rfl _ _ 48 rfl _ _ _ _ rfl rfl hr5 ?_)
      clear hr5 c3
      go_wp2_with fail
      clear c5 t0 t1
      rw [← EC.out]
      go_roundg (na - (i + 1))
      case measure => rw [HGI.out]; omega
      case rel => exact ⟨i + 1, by go_num, by omega, rfl, HB5.out⟩
    · obtain rfl : i = na := by omega
      go_wp2_with fail
      refine HKK.out _ _ ?_
      change Code.wp _ (tailAt 15 tmBody) _ _ _
      exact tm_loop4 SEE.out SR.out SC.out HW.out HRE.out HLR.out HLC.out (HX.out.below HBO.out HX.out.lt) (HB.out.trans (HBO.out.mono HB.out.size)) (HT.out.below HBO.out) hna (HM.out.below HBO.out) (fun q hq => (H77.out q hq).below HBO.out (H77.out q hq).lt)

theorem mem_bs {na : Nat} {rb : Nat → Nat} {x : Nat} (h : x ∈ ((List.range na).map rb)) : ∃ q, q < na ∧ x = rb q := by
  obtain ⟨q, hq, rfl⟩ := List.mem_map.1 h
  exact ⟨q, List.mem_range.1 hq, rfl⟩
set_option linter.unusedSimpArgs false in
set_option maxRecDepth 100000 in
set_option maxHeartbeats 8000000 in
theorem tm_loop1 {s0 s4 s5 s6 s7 s8 s9 s10 s11 s13 s15 s16 s17 s18 s19 s20 s21 s22 s23 s24 s25 s26 s27 s28 s29 s30 s31 s32 s33 s34 s35 s36 s37 s38 s39 s40 s41 s42 s43 s44 s45 s46 s47 s48 s49 s50 s51 s52 s53 s54 s55 s56 s57 s58 s59 s60 s61 s62 s63 s64 s65 s66 s67 s68 s69 s70 s71 s72 s73 s74 s75 s76 s77 s78 s79 s80 s81 s82 s83 s84 s85 s86 s87 s88 s89 s90 s91 s92 s93 s94 s95 s96 s97 s98 s99 s100 s101 s102 s103 s104 s105 s106 s107 s108 s109 s110 s111 s112 s113 s114 s115 s116 s117 s118 s119 s120 s121 s122 s123 s124 s125 s126 s127 s128 s129 s130 s131 s132 s133 s134 s135 s136 s137 s138 s139 s140 s141 s142 s143 s144 s145 s146 s147 s148 s149 s150 s151 s152 s153 s154 s155 s156 s157 s158 s159 s160 s161 s162 s163 s164 s165 s166 s167 s168 s169 s170 s171 s172 s173 s174 s175 s176 s177 s178 s179 s180 s181 s182 s183 s184 s185 s186 s187 s188 s189 s190 s191 s192 s193 s194 s195 s196 s197 s198 s199 s200 s201 s202 s203 s204 s205 s206 s207 : Value} {A : HA} {h : HierD} {rows cols : List Int} {ra ca : Option Addr} {rc cc : Nat} {w wx : World} {m2 : Value} {base na ac : Nat} {ao : Option Addr} {rb : Nat → Nat} {X : Nat → Nat → Int} (see : HSee w A h) (sr : See w ra rc memInt 1 rows) (sc : See w ca cc memInt 1 cols) (hw : WfList rows ∧ WfList cols) (hr : Reach5 h) (hlr : rows.length ≤ 20) (hlc : cols.length ≤ 20) (hx : Cells wx w.heap.size 25 (hierCells A h)) (hb : Below w.heap.size w wx) (ht : TabB h rows cols base m2 wx) (hna : na ≤ 20) (hm : See wx ao ac valC 1 ((List.range na).map fun i => .slice (some ⟨rb i, 0, none⟩) cols.length cols.length)) (hr1 : ∀ q, q < na → Cells wx (rb q) 33 (rowCells cols.length (X q))) (inj : ∀ p q, p < na → q < na → rb p = rb q → p = q) (hao : ∀ b off, ao = some ⟨b, off, none⟩ → ∀ q, q < na → b ≠ rb q) (hlo : ∀ q, q < na → w.heap.size < rb q ∧ rb q < base) : Code.wp Try.prog (tailAt 13 tmBody) (bodyPost Try.prog Try.f4 (BoolIs true w)) ⟨#[s0, .slice ra rows.length rc, .slice ca cols.length cc, .pointer (some ⟨w.heap.size, 0, none⟩), s4, s5, s6, s7, s8, s9, s10, s11, .slice ao na ac, s13, m2, s15, s16, s17, s18, s19, s20, s21, s22, s23, s24, s25, s26, s27, s28, s29, s30, s31, s32, s33, s34, s35, s36, s37, s38, s39, s40, s41, s42, s43, s44, s45, s46, s47, s48, s49, s50, s51, s52, s53, s54, s55, s56, s57, s58, s59, s60, s61, s62, s63, s64, s65, s66, s67, s68, s69, s70, s71, s72, s73, s74, s75, s76, s77, s78, s79, s80, s81, s82, s83, s84, s85, s86, s87, s88, s89, s90, s91, s92, s93, s94, s95, s96, s97, s98, s99, s100, s101, s102, s103, s104, s105, s106, s107, s108, s109, s110, s111, s112, s113, s114, s115, s116, s117, s118, s119, s120, s121, s122, s123, s124, s125, s126, s127, s128, s129, s130, s131, s132, s133, s134, s135, s136, s137, s138, s139, s140, s141, s142, s143, s144, s145, s146, s147, s148, s149, s150, s151, s152, s153, s154, s155, s156, s157, s158, s159, s160, s161, s162, s163, s164, s165, s166, s167, s168, s169, s170, s171, s172, s173, s174, s175, s176, s177, s178, s179, s180, s181, s182, s183, s184, s185, s186, s187, s188, s189, s190, s191, s192, s193, s194, s195, s196, s197, s198, s199, s200, s201, s202, s203, s204, s205, s206, s207], []⟩ wx := by
  have SEE := Lib.hid see
  have SR := Lib.hid sr
  have SC := Lib.hid sc
  have HW := Lib.hid hw
  have HRE := Lib.hid hr
  have HX := Lib.hid hx
  have HB := Lib.hid hb
  have HLR := Lib.hid hlr
  have HLC := Lib.hid hlc
  clear see sr sc hw hr hx hb hlr hlc
  have HT := Lib.hid ht
  have HM := Lib.hid hm
  have HR1 := Lib.hid hr1
  have INJ := Lib.hid inj
  have HAO := Lib.hid hao
  have HLO := Lib.hid hlo
  have HNB := Lib.hid (show ∀ b off, ao = some ⟨b, off, none⟩ → b ∉ ((List.range na).map rb) from fun b off e hmm => by
    obtain ⟨q, hq, e2⟩ := mem_bs hmm
    exact hao b off e q hq e2)
  have l1 : rows.length ≤ 20 := HLR.out
  have l2 : cols.length ≤ 20 := HLC.out
  clear ht hm hr1 inj hao hlo
  conv => arg 2; whnf
  apply wp_seq_k
  intro KK hK
  have HKK := Lib.hid hK
  clear hK
  go_wp2_with fail
  go_loopg [140] na (fun gg vi wr => ∃ (i : Nat), vi = .int .i64 (i : Int) ∧ i ≤ na ∧ gg = na - i ∧ Only ((List.range na).map rb) wx wr ∧ ∀ q, q < na → Cells wr (rb q) 33 (rowCells cols.length (F77 i 0 X q)))
  case atStart => exact ⟨0, rfl, Nat.zero_le _, rfl, Only.refl _ _, fun q hq => by rw [f77_zero]; exact HR1.out q hq⟩
  case round =>
    obtain ⟨i, rfl, hi, hgi, ho, hcs⟩ := hrel
    obtain ⟨wo, rfl⟩ : ∃ wo : World, wo = wr := ⟨_, rfl⟩
    have HGI := Lib.hid hgi
    have HO := Lib.hid ho
    have HCS := Lib.hid hcs
    clear hgi ho hcs
    by_cases hil : i < na
    · obtain ⟨b3, o3, ea3, cc3⟩ := (HM.out.kept HO.out HNB.out).cell i (.slice (some ⟨rb i, 0, none⟩) cols.length cols.length) (by simp [hil])
      have c3 := cc3 0 _ rfl
      rw [Nat.add_zero, Nat.mul_one] at c3
      have EC := Lib.hid ea3
      clear cc3 ea3
      rw [EC.out]
      go_wp2_with fail
      clear c3
      go_loopg [148] cols.length (fun gg vj wr => ∃ (j : Nat), vj = .int .i64 (j : Int) ∧ j ≤ cols.length ∧ gg = cols.length - j ∧ Only ((List.range na).map rb) wx wr ∧ ∀ q, q < na → Cells wr (rb q) 33 (rowCells cols.length (F77 i j X q)))
      case atStart => exact ⟨0, rfl, Nat.zero_le _, rfl, HO.out, HCS.out⟩
      case round =>
        obtain ⟨j, rfl, hj, hgj, ho, hcs⟩ := hrel
        obtain ⟨wp, rfl⟩ : ∃ wp : World, wp = wr := ⟨_, rfl⟩
        have HGJ := Lib.hid hgj
        have HP := Lib.hid ho
        have HCP := Lib.hid hcs
        clear hgj ho hcs
        by_cases hjl : j < cols.length
        · obtain ⟨b4, o4, ea4, cc4⟩ := (HM.out.kept HP.out HNB.out).cell i (.slice (some ⟨rb i, 0, none⟩) cols.length cols.length) (by simp [hil])
          have c4 := cc4 0 _ rfl
          rw [Nat.add_zero, Nat.mul_one] at c4
          obtain rfl : b4 = b3 := by have := ea4.symm.trans EC.out; simp at this; exact this.1
          obtain rfl : o4 = o3 := by have := ea4.symm.trans EC.out; simp at this; exact this
          have hr := HCP.out i hil
          have c5 : wp.cell? ⟨rb i, j, none⟩ = some (.int .u64 (F77 i j X i j)) := hr.cell (rowCells_get hjl)
          have g5 := hr.frozen j
          have lr := hr.lt
          clear hr cc4 ea4
          go_wp2_with fail
          have HP2 := Lib.hid (HP.out.setCell (p := ⟨rb i, j, none⟩) (.inl (List.mem_map.2 ⟨i, List.mem_range.2 hil, rfl⟩)) (.int .u64 77))
          have HC2 := Lib.hid (show ∀ q, q < na → Cells (wp.setCell ⟨rb i, j, none⟩ (.int .u64 77)) (rb q) 33 (rowCells cols.length (F77 i (j + 1) X q)) from fun q hq => by
            by_cases e : q = i
            · subst e
              rw [← f77_set]
              exact (HCP.out q hq).set j _
            · rw [← f77_other e]
              exact (HCP.out q hq).other (a := ⟨rb i, j, none⟩) (fun h => e (INJ.out q i hq hil h)) _)
          clear c4 c5 g5 lr
          go_roundg (cols.length - (j + 1))
          case measure => rw [HGJ.out]; omega
          case rel => exact ⟨j + 1, by go_num, by omega, rfl, HP2.out, HC2.out⟩
        · obtain rfl : j = cols.length := by omega
          go_wp2_with fail
          rw [← EC.out]
          go_roundg (na - (i + 1))
          case measure => rw [HGI.out]; omega
          case rel => exact ⟨i + 1, by go_num, by omega, rfl, HP.out, fun q hq => by rw [← f77_next]; exact HCP.out q hq⟩
    · obtain rfl : i = na := by omega
      go_wp2_with fail
      have hbo : Below w.heap.size wx wo := HO.out.below HB.out.size (fun x hx => by
        obtain ⟨q, hq, rfl⟩ := mem_bs hx
        exact Nat.le_of_lt (HLO.out q hq).1)
      have hxo : Cells wo w.heap.size 25 (hierCells A h) := HX.out.kept HO.out (fun hx => by
        obtain ⟨q, hq, e⟩ := mem_bs hx
        have := (HLO.out q hq).1
        omega)
      refine HKK.out _ _ ?_
      change Code.wp _ (tailAt 14 tmBody) _ _ _
      exact tm_loop3 SEE.out SR.out SC.out HW.out HRE.out HLR.out HLC.out hxo (HB.out.trans hbo) (HT.out.kept HO.out (fun x hx => by
        obtain ⟨q, hq, rfl⟩ := mem_bs hx
        exact (HLO.out q hq).2)) hna (HM.out.kept HO.out HNB.out) (fun q hq => by rw [← f77_all (X := X) hq]; exact HCS.out q hq)

theorem see_room {w : World} {g : Nat} {l : List Int} {a b : Int} (h : Cells w g 3 (l.flatMap memInt ++ [.int .i64 a, .int .i64 b])) (hl : l.length ≤ 1000) : See w (some ⟨g, 0, none⟩) (l.length + 2) memInt 1 l := by
  have e : l.flatMap memInt ++ [Value.int .i64 a, .int .i64 b] = (l ++ [a, b]).flatMap memInt := by rw [List.flatMap_append]; rfl
  rw [e] at h
  have hs := See.of_cells (l := l ++ [a, b]) memInt_len h (by rw [List.length_append]; simp [maxLen]; omega)
  rw [List.length_append] at hs
  exact hs.pre
theorem room_cells {w : World} {g : Nat} {l : List Int} {a b : Int} (h : Cells w g 3 (l.flatMap memInt ++ [.int .i64 a, .int .i64 b])) : w.cell? ⟨g, l.length, none⟩ = some (.int .i64 a) ∧ w.cell? ⟨g, l.length + 1, none⟩ = some (.int .i64 b) := by
  have hlen : (l.flatMap memInt).length = l.length := by rw [memInt_flat, List.length_map]
  constructor
  · exact h.cell (by rw [List.getElem?_append_right (by omega), hlen]; simp)
  · exact h.cell (by rw [List.getElem?_append_right (by omega), hlen]; simp)

set_option linter.unusedSimpArgs false in
set_option maxRecDepth 100000 in
set_option maxHeartbeats 8000000 in
theorem tm_check {s0 s4 s5 s6 s13 s15 s16 s17 s18 s19 s20 s21 s22 s23 s24 s25 s26 s27 s28 s29 s30 s31 s32 s33 s34 s35 s36 s37 s38 s39 s40 s41 s42 s43 s44 s45 s46 s47 s48 s49 s50 s51 s52 s53 s54 s55 s56 s57 s58 s59 s60 s61 s62 s63 s64 s65 s66 s67 s68 s69 s70 s71 s72 s73 s74 s75 s76 s77 s78 s79 s80 s81 s82 s83 s84 s85 s86 s87 s88 s89 s90 s91 s92 s93 s94 s95 s96 s97 s98 s99 s100 s101 s102 s103 s104 s105 s106 s107 s108 s109 s110 s111 s112 s113 s114 s115 s116 s117 s118 s119 s120 s121 s122 s123 s124 s125 s126 s127 s128 s129 s130 s131 s132 s133 s134 s135 s136 s137 s138 s139 s140 s141 s142 s143 s144 s145 s146 s147 s148 s149 s150 s151 s152 s153 s154 s155 s156 s157 s158 s159 s160 s161 s162 s163 s164 s165 s166 s167 s168 s169 s170 s171 s172 s173 s174 s175 s176 s177 s178 s179 s180 s181 s182 s183 s184 s185 s186 s187 s188 s189 s190 s191 s192 s193 s194 s195 s196 s197 s198 s199 s200 s201 s202 s203 s204 s205 s206 s207 : Value} {A : HA} {h : HierD} {rows cols : List Int} {ra ca : Option Addr} {rc cc : Nat} {w wx : World} {m2 : Value} {base na ac : Nat} {ao : Option Addr} {rb : Nat → Nat} {X : Nat → Nat → Int} {g1 g2 b7 : Nat} {B : HA} (see : HSee w A h) (sr : See w ra rc memInt 1 rows) (sc : See w ca cc memInt 1 cols) (hw : WfList rows ∧ WfList cols) (hr : Reach5 h) (hlr : rows.length ≤ 20) (hlc : cols.length ≤ 20) (hx : Cells wx w.heap.size 25 (hierCells A h)) (hb : Below w.heap.size w wx) (ht : TabB h rows cols base m2 wx) (hna : na ≤ 20) (hm : See wx ao ac valC 1 ((List.range na).map fun i => .slice (some ⟨rb i, 0, none⟩) cols.length cols.length)) (hr1 : ∀ q, q < na → Cells wx (rb q) 33 (rowCells cols.length (X q))) (inj : ∀ p q, p < na → q < na → rb p = rb q → p = q) (hao : ∀ b off, ao = some ⟨b, off, none⟩ → ∀ q, q < na → b ≠ rb q) (hlo : ∀ q, q < na → w.heap.size < rb q ∧ rb q < base) (c7 : Cells wx b7 25 (hierCells B h)) (s7 : HSee wx B h) (cy : Cells wx g1 3 (rows.flatMap memInt ++ [.int .i64 41, .int .i64 42])) (cz : Cells wx g2 3 (cols.flatMap memInt ++ [.int .i64 43, .int .i64 44])) : Code.wp Try.prog (tailAt 12 tmBody) (bodyPost Try.prog Try.f4 (BoolIs true w)) ⟨#[s0, .slice ra rows.length rc, .slice ca cols.length cc, .pointer (some ⟨w.heap.size, 0, none⟩), s4, s5, s6, .pointer (some ⟨b7, 0, none⟩), .slice (some ⟨g1, 0, none⟩) rows.length (rows.length + 2 : Nat), .slice (some ⟨g1, 0, none⟩) (rows.length + 2 : Nat) (rows.length + 2 : Nat), .slice (some ⟨g2, 0, none⟩) cols.length (cols.length + 2 : Nat), .slice (some ⟨g2, 0, none⟩) (cols.length + 2 : Nat) (cols.length + 2 : Nat), .slice ao na ac, s13, m2, s15, s16, s17, s18, s19, s20, s21, s22, s23, s24, s25, s26, s27, s28, s29, s30, s31, s32, s33, s34, s35, s36, s37, s38, s39, s40, s41, s42, s43, s44, s45, s46, s47, s48, s49, s50, s51, s52, s53, s54, s55, s56, s57, s58, s59, s60, s61, s62, s63, s64, s65, s66, s67, s68, s69, s70, s71, s72, s73, s74, s75, s76, s77, s78, s79, s80, s81, s82, s83, s84, s85, s86, s87, s88, s89, s90, s91, s92, s93, s94, s95, s96, s97, s98, s99, s100, s101, s102, s103, s104, s105, s106, s107, s108, s109, s110, s111, s112, s113, s114, s115, s116, s117, s118, s119, s120, s121, s122, s123, s124, s125, s126, s127, s128, s129, s130, s131, s132, s133, s134, s135, s136, s137, s138, s139, s140, s141, s142, s143, s144, s145, s146, s147, s148, s149, s150, s151, s152, s153, s154, s155, s156, s157, s158, s159, s160, s161, s162, s163, s164, s165, s166, s167, s168, s169, s170, s171, s172, s173, s174, s175, s176, s177, s178, s179, s180, s181, s182, s183, s184, s185, s186, s187, s188, s189, s190, s191, s192, s193, s194, s195, s196, s197, s198, s199, s200, s201, s202, s203, s204, s205, s206, s207], []⟩ wx := by
  have SEE := Lib.hid see
  have SR := Lib.hid sr
  have SC := Lib.hid sc
  have HW := Lib.hid hw
  have HRE := Lib.hid hr
  have HX := Lib.hid hx
  have HB := Lib.hid hb
  have HLR := Lib.hid hlr
  have HLC := Lib.hid hlc
  clear see sr sc hw hr hx hb hlr hlc
  have HT := Lib.hid ht
  have HM := Lib.hid hm
  have HR1 := Lib.hid hr1
  have HC7 := Lib.hid c7
  have HS7 := Lib.hid s7
  have HY := Lib.hid cy
  have HZ := Lib.hid cz
  have l1 : rows.length ≤ 20 := HLR.out
  have l2 : cols.length ≤ 20 := HLC.out
  have HLO := Lib.hid hlo
  have INJ := Lib.hid inj
  have HAO := Lib.hid hao
  clear ht hm hr1 c7 s7 cy cz hlo inj hao
  obtain ⟨k0, k1, k2, k3, k4⟩ := hier_five HX.out
  obtain ⟨j0, j1, j2, j3, j4⟩ := hier_five HC7.out
  conv => arg 2; whnf
  apply wp_seq_k
  intro KK hK
  have HKK := Lib.hid hK
  clear hK
  go_wp2_with fail
  refine (rsame_litM B A h _ HS7.out (SEE.out.below HB.out)).mono ?_
  rintro e w1 ⟨rfl, hb⟩
  have HBA := Lib.hid hb
  have HSR1 := Lib.hid (SR.out.below (HB.out.trans (hb.mono HB.out.size)))
  have HSC1 := Lib.hid (SC.out.below (HB.out.trans (hb.mono HB.out.size)))
  have HY1 := Lib.hid (HY.out.below hb HY.out.lt)
  have HZ1 := Lib.hid (HZ.out.below hb HZ.out.lt)
  have hsy : ∀ W, (Instr.slice 40 (.slice (some ⟨g1, 0, none⟩) (rows.length + 2 : Nat) (rows.length + 2 : Nat)) none (some (.int .i64 (rows.length : Int))) none).run Try.prog W = .ok (.slice (some ⟨g1, 0, none⟩) rows.length (rows.length + 2 : Nat)) W := fun W => by
    have h := run_sub_toM (P := Try.prog) 40 3 1 Try.underlying40 (fun _ => by kernel_rfl) (some ⟨g1, 0, none⟩) (rows.length + 2) (rows.length + 2) rows.length .i64 (by omega) W
    rw [slBase_zero] at h
    exact h
  have hsz : ∀ W, (Instr.slice 40 (.slice (some ⟨g2, 0, none⟩) (cols.length + 2 : Nat) (cols.length + 2 : Nat)) none (some (.int .i64 (cols.length : Int))) none).run Try.prog W = .ok (.slice (some ⟨g2, 0, none⟩) cols.length (cols.length + 2 : Nat)) W := fun W => by
    have h := run_sub_toM (P := Try.prog) 40 3 1 Try.underlying40 (fun _ => by kernel_rfl) (some ⟨g2, 0, none⟩) (cols.length + 2) (cols.length + 2) cols.length .i64 (by omega) W
    rw [slBase_zero] at h
    exact h
  clear hb k0 k1 k2 k3 k4 j0 j1 j2 j3 j4
  go_wp2_with fail
  refine (sameints_any rows _ _ _ _ _ (see_room HY1.out (by omega)) HSR1.out).mono ?_
  rintro e w2 ⟨rfl, hb⟩
  have HBB := Lib.hid (HBA.out.trans (hb.mono HBA.out.size))
  have HSC2 := Lib.hid (HSC1.out.below hb)
  have hy2 := HY1.out.below hb HY1.out.lt
  have HZ2 := Lib.hid (HZ1.out.below hb HZ1.out.lt)
  obtain ⟨y0, y1⟩ := room_cells hy2
  have ly := hy2.lt
  clear hb hy2 HY1 HZ1 HSR1 HSC1 HBA
  go_wp2_with fail
  refine (sameints_any cols _ _ _ _ _ (see_room HZ2.out (by omega)) HSC2.out).mono ?_
  rintro e w3 ⟨rfl, hb⟩
  have HBC := Lib.hid (HBB.out.trans (hb.mono HBB.out.size))
  have hz3 := HZ2.out.below hb HZ2.out.lt
  obtain ⟨z0, z1⟩ := room_cells hz3
  have lz := hz3.lt
  clear hb hz3 HZ2 HSC2 HBB y0 y1 ly
  go_wp2_with fail
  clear z0 z1 lz hsy hsz
  refine HKK.out _ _ ?_
  change Code.wp _ (tailAt 13 tmBody) _ _ _
  exact tm_loop1 SEE.out SR.out SC.out HW.out HRE.out HLR.out HLC.out (HX.out.below HBC.out HX.out.lt) (HB.out.trans (HBC.out.mono HB.out.size)) (HT.out.below HBC.out) hna (HM.out.below HBC.out) (fun q hq => (HR1.out q hq).below HBC.out (HR1.out q hq).lt) INJ.out HAO.out HLO.out

set_option linter.unusedSimpArgs false in
set_option maxRecDepth 100000 in
set_option maxHeartbeats 8000000 in
theorem tm_of11 {s0 s4 s5 s6 s13 s14 s15 s16 s17 s18 s19 s20 s21 s22 s23 s24 s25 s26 s27 s28 s29 s30 s31 s32 s33 s34 s35 s36 s37 s38 s39 s40 s41 s42 s43 s44 s45 s46 s47 s48 s49 s50 s51 s52 s53 s54 s55 s56 s57 s58 s59 s60 s61 s62 s63 s64 s65 s66 s67 s68 s69 s70 s71 s72 s73 s74 s75 s76 s77 s78 s79 s80 s81 s82 s83 s84 s85 s86 s87 s88 s89 s90 s91 s92 s93 s94 s95 s96 s97 s98 s99 s100 s101 s102 s103 s104 s105 s106 s107 s108 s109 s110 s111 s112 s113 s114 s115 s116 s117 s118 s119 s120 s121 s122 s123 s124 s125 s126 s127 s128 s129 s130 s131 s132 s133 s134 s135 s136 s137 s138 s139 s140 s141 s142 s143 s144 s145 s146 s147 s148 s149 s150 s151 s152 s153 s154 s155 s156 s157 s158 s159 s160 s161 s162 s163 s164 s165 s166 s167 s168 s169 s170 s171 s172 s173 s174 s175 s176 s177 s178 s179 s180 s181 s182 s183 s184 s185 s186 s187 s188 s189 s190 s191 s192 s193 s194 s195 s196 s197 s198 s199 s200 s201 s202 s203 s204 s205 s206 s207 : Value} {A : HA} {h : HierD} {rows cols : List Int} {ra ca : Option Addr} {rc cc : Nat} {w wx : World} {na ac base0 : Nat} {ao : Option Addr} {rb : Nat → Nat} {X : Nat → Nat → Int} {g1 g2 b7 : Nat} {B : HA} (see : HSee w A h) (sr : See w ra rc memInt 1 rows) (sc : See w ca cc memInt 1 cols) (hw : WfList rows ∧ WfList cols) (hr : Reach5 h) (hlr : rows.length ≤ 20) (hlc : cols.length ≤ 20) (hx : Cells wx w.heap.size 25 (hierCells A h)) (hb : Below w.heap.size w wx) (hna : na ≤ 20) (ha : TabRep na cols.length X base0 (.slice ao na ac) rb wx) (hb0 : w.heap.size < base0) (c7 : Cells wx b7 25 (hierCells B h)) (s7 : HSee wx B h) (cy : Cells wx g1 3 (rows.flatMap memInt ++ [.int .i64 41, .int .i64 42])) (cz : Cells wx g2 3 (cols.flatMap memInt ++ [.int .i64 43, .int .i64 44])) : Code.wp Try.prog (tailAt 11 tmBody) (bodyPost Try.prog Try.f4 (BoolIs true w)) ⟨#[s0, .slice ra rows.length rc, .slice ca cols.length cc, .pointer (some ⟨w.heap.size, 0, none⟩), s4, s5, s6, .pointer (some ⟨b7, 0, none⟩), .slice (some ⟨g1, 0, none⟩) rows.length (rows.length + 2 : Nat), .slice (some ⟨g1, 0, none⟩) (rows.length + 2 : Nat) (rows.length + 2 : Nat), .slice (some ⟨g2, 0, none⟩) cols.length (cols.length + 2 : Nat), .slice (some ⟨g2, 0, none⟩) (cols.length + 2 : Nat) (cols.length + 2 : Nat), .slice ao na ac, s13, s14, s15, s16, s17, s18, s19, s20, s21, s22, s23, s24, s25, s26, s27, s28, s29, s30, s31, s32, s33, s34, s35, s36, s37, s38, s39, s40, s41, s42, s43, s44, s45, s46, s47, s48, s49, s50, s51, s52, s53, s54, s55, s56, s57, s58, s59, s60, s61, s62, s63, s64, s65, s66, s67, s68, s69, s70, s71, s72, s73, s74, s75, s76, s77, s78, s79, s80, s81, s82, s83, s84, s85, s86, s87, s88, s89, s90, s91, s92, s93, s94, s95, s96, s97, s98, s99, s100, s101, s102, s103, s104, s105, s106, s107, s108, s109, s110, s111, s112, s113, s114, s115, s116, s117, s118, s119, s120, s121, s122, s123, s124, s125, s126, s127, s128, s129, s130, s131, s132, s133, s134, s135, s136, s137, s138, s139, s140, s141, s142, s143, s144, s145, s146, s147, s148, s149, s150, s151, s152, s153, s154, s155, s156, s157, s158, s159, s160, s161, s162, s163, s164, s165, s166, s167, s168, s169, s170, s171, s172, s173, s174, s175, s176, s177, s178, s179, s180, s181, s182, s183, s184, s185, s186, s187, s188, s189, s190, s191, s192, s193, s194, s195, s196, s197, s198, s199, s200, s201, s202, s203, s204, s205, s206, s207], []⟩ wx := by
  have SEE := Lib.hid see
  have SR := Lib.hid sr
  have SC := Lib.hid sc
  have HW := Lib.hid hw
  have HRE := Lib.hid hr
  have HX := Lib.hid hx
  have HB := Lib.hid hb
  have HLR := Lib.hid hlr
  have HLC := Lib.hid hlc
  clear see sr sc hw hr hx hb hlr hlc
  have HC7 := Lib.hid c7
  have HS7 := Lib.hid s7
  have HY := Lib.hid cy
  have HZ := Lib.hid cz
  have l1 : rows.length ≤ 20 := HLR.out
  have l2 : cols.length ≤ 20 := HLC.out
  have HA := Lib.hid ha
  have HB0 := Lib.hid hb0
  clear ha hb0
  clear c7 s7 cy cz
  obtain ⟨j0, j1, j2, j3, j4⟩ := hier_five HC7.out
  conv => arg 2; whnf
  apply wp_seq_k
  intro KK hK
  have HKK := Lib.hid hK
  clear hK
  go_wp2_with fail
  refine (of_litM B h rows cols _ _ _ _ _ HS7.out (see_room HY.out (by omega)) (see_room HZ.out (by omega)) HLR.out HLC.out HW.out).mono ?_
  rintro e w1 ⟨m, v, rfl, hv, hb, hm0, hm1⟩
  have HBO := Lib.hid hb
  have HX1 := Lib.hid (HX.out.below hb HX.out.lt)
  have HB1 := Lib.hid (HB.out.trans (hb.mono HB.out.size))
  have H71 := Lib.hid (HC7.out.below hb HC7.out.lt)
  have HS1 := Lib.hid (HS7.out.below hb)
  have HY1 := Lib.hid (HY.out.below hb HY.out.lt)
  have HZ1 := Lib.hid (HZ.out.below hb HZ.out.lt)
  have HT := Lib.hid (show TabB h rows cols wx.heap.size m w1 from ⟨hm0, hm1⟩)
  clear hv hb hm0 hm1 j0 j1 j2 j3 j4
  go_wp2_with fail
  refine HKK.out _ _ ?_
  change Code.wp _ (tailAt 12 tmBody) _ _ _
  have ha := HA.out
  have ho := ha.own
  rw [list_flat ((List.range na).map fun i => Value.slice (some ⟨rb i, 0, none⟩) cols.length cols.length)] at ho
  have hsm := (See.of_own valC_len ho (by omega)).1
  exact tm_check SEE.out SR.out SC.out HW.out HRE.out HLR.out HLC.out HX1.out HB1.out HT.out hna (hsm.below HBO.out) (fun q hq => (ha.r q hq).below HBO.out (ha.r q hq).lt) (fun p q hp hq e => ha.inj p q hp hq e) (fun b off e q hq eb => by
    subst eb
    exact ha.ne q hq (by rw [e]; rfl)) (fun q hq => ⟨Nat.lt_of_lt_of_le HB0.out (ha.lo q hq), (ha.r q hq).lt⟩) H71.out HS1.out HY1.out HZ1.out

set_option linter.unusedSimpArgs false in
set_option maxRecDepth 100000 in
set_option maxHeartbeats 8000000 in
theorem tm_of10 {s0 s4 s5 s6 s12 s13 s14 s15 s16 s17 s18 s19 s20 s21 s22 s23 s24 s25 s26 s27 s28 s29 s30 s31 s32 s33 s34 s35 s36 s37 s38 s39 s40 s41 s42 s43 s44 s45 s46 s47 s48 s49 s50 s51 s52 s53 s54 s55 s56 s57 s58 s59 s60 s61 s62 s63 s64 s65 s66 s67 s68 s69 s70 s71 s72 s73 s74 s75 s76 s77 s78 s79 s80 s81 s82 s83 s84 s85 s86 s87 s88 s89 s90 s91 s92 s93 s94 s95 s96 s97 s98 s99 s100 s101 s102 s103 s104 s105 s106 s107 s108 s109 s110 s111 s112 s113 s114 s115 s116 s117 s118 s119 s120 s121 s122 s123 s124 s125 s126 s127 s128 s129 s130 s131 s132 s133 s134 s135 s136 s137 s138 s139 s140 s141 s142 s143 s144 s145 s146 s147 s148 s149 s150 s151 s152 s153 s154 s155 s156 s157 s158 s159 s160 s161 s162 s163 s164 s165 s166 s167 s168 s169 s170 s171 s172 s173 s174 s175 s176 s177 s178 s179 s180 s181 s182 s183 s184 s185 s186 s187 s188 s189 s190 s191 s192 s193 s194 s195 s196 s197 s198 s199 s200 s201 s202 s203 s204 s205 s206 s207 : Value} {A : HA} {h : HierD} {rows cols : List Int} {ra ca : Option Addr} {rc cc : Nat} {w wx : World}  {g1 g2 b7 : Nat} {B : HA} (see : HSee w A h) (sr : See w ra rc memInt 1 rows) (sc : See w ca cc memInt 1 cols) (hw : WfList rows ∧ WfList cols) (hr : Reach5 h) (hlr : rows.length ≤ 20) (hlc : cols.length ≤ 20) (hx : Cells wx w.heap.size 25 (hierCells A h)) (hb : Below w.heap.size w wx)  (c7 : Cells wx b7 25 (hierCells B h)) (s7 : HSee wx B h) (cy : Cells wx g1 3 (rows.flatMap memInt ++ [.int .i64 41, .int .i64 42])) (cz : Cells wx g2 3 (cols.flatMap memInt ++ [.int .i64 43, .int .i64 44])) : Code.wp Try.prog (tailAt 10 tmBody) (bodyPost Try.prog Try.f4 (BoolIs true w)) ⟨#[s0, .slice ra rows.length rc, .slice ca cols.length cc, .pointer (some ⟨w.heap.size, 0, none⟩), s4, s5, s6, .pointer (some ⟨b7, 0, none⟩), .slice (some ⟨g1, 0, none⟩) rows.length (rows.length + 2 : Nat), .slice (some ⟨g1, 0, none⟩) (rows.length + 2 : Nat) (rows.length + 2 : Nat), .slice (some ⟨g2, 0, none⟩) cols.length (cols.length + 2 : Nat), .slice (some ⟨g2, 0, none⟩) (cols.length + 2 : Nat) (cols.length + 2 : Nat), s12, s13, s14, s15, s16, s17, s18, s19, s20, s21, s22, s23, s24, s25, s26, s27, s28, s29, s30, s31, s32, s33, s34, s35, s36, s37, s38, s39, s40, s41, s42, s43, s44, s45, s46, s47, s48, s49, s50, s51, s52, s53, s54, s55, s56, s57, s58, s59, s60, s61, s62, s63, s64, s65, s66, s67, s68, s69, s70, s71, s72, s73, s74, s75, s76, s77, s78, s79, s80, s81, s82, s83, s84, s85, s86, s87, s88, s89, s90, s91, s92, s93, s94, s95, s96, s97, s98, s99, s100, s101, s102, s103, s104, s105, s106, s107, s108, s109, s110, s111, s112, s113, s114, s115, s116, s117, s118, s119, s120, s121, s122, s123, s124, s125, s126, s127, s128, s129, s130, s131, s132, s133, s134, s135, s136, s137, s138, s139, s140, s141, s142, s143, s144, s145, s146, s147, s148, s149, s150, s151, s152, s153, s154, s155, s156, s157, s158, s159, s160, s161, s162, s163, s164, s165, s166, s167, s168, s169, s170, s171, s172, s173, s174, s175, s176, s177, s178, s179, s180, s181, s182, s183, s184, s185, s186, s187, s188, s189, s190, s191, s192, s193, s194, s195, s196, s197, s198, s199, s200, s201, s202, s203, s204, s205, s206, s207], []⟩ wx := by
  have SEE := Lib.hid see
  have SR := Lib.hid sr
  have SC := Lib.hid sc
  have HW := Lib.hid hw
  have HRE := Lib.hid hr
  have HX := Lib.hid hx
  have HB := Lib.hid hb
  have HLR := Lib.hid hlr
  have HLC := Lib.hid hlc
  clear see sr sc hw hr hx hb hlr hlc
  have HC7 := Lib.hid c7
  have HS7 := Lib.hid s7
  have HY := Lib.hid cy
  have HZ := Lib.hid cz
  have l1 : rows.length ≤ 20 := HLR.out
  have l2 : cols.length ≤ 20 := HLC.out
  clear c7 s7 cy cz
  obtain ⟨j0, j1, j2, j3, j4⟩ := hier_five HC7.out
  conv => arg 2; whnf
  apply wp_seq_k
  intro KK hK
  have HKK := Lib.hid hK
  clear hK
  go_wp2_with fail
  refine (of_litM B h rows cols _ _ _ _ _ HS7.out (see_room HY.out (by omega)) (see_room HZ.out (by omega)) HLR.out HLC.out HW.out).mono ?_
  rintro e w1 ⟨m, v, rfl, hv, hb, hm0, hm1⟩
  have HBO := Lib.hid hb
  have HX1 := Lib.hid (HX.out.below hb HX.out.lt)
  have HB1 := Lib.hid (HB.out.trans (hb.mono HB.out.size))
  have H71 := Lib.hid (HC7.out.below hb HC7.out.lt)
  have HS1 := Lib.hid (HS7.out.below hb)
  have HY1 := Lib.hid (HY.out.below hb HY.out.lt)
  have HZ1 := Lib.hid (HZ.out.below hb HZ.out.lt)
  obtain ⟨ao, na, ac, X, rb, rfl, hna, ha⟩ := OfNew.tab (h := h) (rows := rows) (cols := cols) (m := m) (w := wx) (w' := w1) hm0 hm1
  have HA := Lib.hid ha
  have hna2 : na ≤ 20 := by omega
  clear hv hb hm0 hm1 j0 j1 j2 j3 j4 ha
  go_wp2_with fail
  refine HKK.out _ _ ?_
  change Code.wp _ (tailAt 11 tmBody) _ _ _
  exact tm_of11 SEE.out SR.out SC.out HW.out HRE.out HLR.out HLC.out HX1.out HB1.out hna2 HA.out HX.out.lt H71.out HS1.out HY1.out HZ1.out

set_option linter.unusedSimpArgs false in
set_option maxRecDepth 100000 in
set_option maxHeartbeats 8000000 in
theorem tm_room7 {s0 s4 s5 s6 s10 s11 s12 s13 s14 s15 s16 s17 s18 s19 s20 s21 s22 s23 s24 s25 s26 s27 s28 s29 s30 s31 s32 s33 s34 s35 s36 s37 s38 s39 s40 s41 s42 s43 s44 s45 s46 s47 s48 s49 s50 s51 s52 s53 s54 s55 s56 s57 s58 s59 s60 s61 s62 s63 s64 s65 s66 s67 s68 s69 s70 s71 s72 s73 s74 s75 s76 s77 s78 s79 s80 s81 s82 s83 s84 s85 s86 s87 s88 s89 s90 s91 s92 s93 s94 s95 s96 s97 s98 s99 s100 s101 s102 s103 s104 s105 s106 s107 s108 s109 s110 s111 s112 s113 s114 s115 s116 s117 s118 s119 s120 s121 s122 s123 s124 s125 s126 s127 s128 s129 s130 s131 s132 s133 s134 s135 s136 s137 s138 s139 s140 s141 s142 s143 s144 s145 s146 s147 s148 s149 s150 s151 s152 s153 s154 s155 s156 s157 s158 s159 s160 s161 s162 s163 s164 s165 s166 s167 s168 s169 s170 s171 s172 s173 s174 s175 s176 s177 s178 s179 s180 s181 s182 s183 s184 s185 s186 s187 s188 s189 s190 s191 s192 s193 s194 s195 s196 s197 s198 s199 s200 s201 s202 s203 s204 s205 s206 s207 : Value} {A : HA} {h : HierD} {rows cols : List Int} {ra ca : Option Addr} {rc cc : Nat} {w wx : World} {g1 b7 : Nat} {B : HA} (see : HSee w A h) (sr : See w ra rc memInt 1 rows) (sc : See w ca cc memInt 1 cols) (hw : WfList rows ∧ WfList cols) (hr : Reach5 h) (hlr : rows.length ≤ 20) (hlc : cols.length ≤ 20) (hx : Cells wx w.heap.size 25 (hierCells A h)) (hb : Below w.heap.size w wx) (c7 : Cells wx b7 25 (hierCells B h)) (s7 : HSee wx B h) (cy : Cells wx g1 3 (rows.flatMap memInt ++ [.int .i64 41, .int .i64 42])) : Code.wp Try.prog (tailAt 7 tmBody) (bodyPost Try.prog Try.f4 (BoolIs true w)) ⟨#[s0, .slice ra rows.length rc, .slice ca cols.length cc, .pointer (some ⟨w.heap.size, 0, none⟩), s4, s5, s6, .pointer (some ⟨b7, 0, none⟩), .slice (some ⟨g1, 0, none⟩) rows.length (rows.length + 2 : Nat), .slice (some ⟨g1, 0, none⟩) (rows.length + 2 : Nat) (rows.length + 2 : Nat), s10, s11, s12, s13, s14, s15, s16, s17, s18, s19, s20, s21, s22, s23, s24, s25, s26, s27, s28, s29, s30, s31, s32, s33, s34, s35, s36, s37, s38, s39, s40, s41, s42, s43, s44, s45, s46, s47, s48, s49, s50, s51, s52, s53, s54, s55, s56, s57, s58, s59, s60, s61, s62, s63, s64, s65, s66, s67, s68, s69, s70, s71, s72, s73, s74, s75, s76, s77, s78, s79, s80, s81, s82, s83, s84, s85, s86, s87, s88, s89, s90, s91, s92, s93, s94, s95, s96, s97, s98, s99, s100, s101, s102, s103, s104, s105, s106, s107, s108, s109, s110, s111, s112, s113, s114, s115, s116, s117, s118, s119, s120, s121, s122, s123, s124, s125, s126, s127, s128, s129, s130, s131, s132, s133, s134, s135, s136, s137, s138, s139, s140, s141, s142, s143, s144, s145, s146, s147, s148, s149, s150, s151, s152, s153, s154, s155, s156, s157, s158, s159, s160, s161, s162, s163, s164, s165, s166, s167, s168, s169, s170, s171, s172, s173, s174, s175, s176, s177, s178, s179, s180, s181, s182, s183, s184, s185, s186, s187, s188, s189, s190, s191, s192, s193, s194, s195, s196, s197, s198, s199, s200, s201, s202, s203, s204, s205, s206, s207], []⟩ wx := by
  have SEE := Lib.hid see
  have SR := Lib.hid sr
  have SC := Lib.hid sc
  have HW := Lib.hid hw
  have HRE := Lib.hid hr
  have HX := Lib.hid hx
  have HB := Lib.hid hb
  have HLR := Lib.hid hlr
  have HLC := Lib.hid hlc
  clear see sr sc hw hr hx hb hlr hlc
  have l1 : rows.length ≤ 20 := HLR.out
  have l2 : cols.length ≤ 20 := HLC.out
  have HC7 := Lib.hid c7
  have HS7 := Lib.hid s7
  have HY := Lib.hid cy
  clear c7 s7 cy
  have hmk := run_make_nc (P := Try.prog) 40 3 (.int .i64 0) 1 8 Try.underlying40 Try.infoInt .i64 .i64 cols.length (cols.length + 2) (by omega) (by omega) (by omega)
  rw [show madeCells (Value.int .i64 0).cells ((cols.length + 2) * 1) = (List.replicate (cols.length + 2) (Value.int .i64 0)).toArray from by
    rw [made_one _ rfl]
    congr 1
    apply List.ext_getElem?
    intro i
    by_cases h : i < cols.length + 2
    · simp [h]
    · simp [h], show (((cols.length + 2 : Nat)) : Int) = (cols.length : Int) + 2 from by omega] at hmk
  obtain ⟨z5, hz5⟩ : ∃ z5, List.replicate (cols.length + 2) (Value.int .i64 0) = z5 := ⟨_, rfl⟩
  rw [hz5] at hmk
  have HZ5 := Lib.hid hz5
  clear hz5
  conv => arg 2; whnf
  apply wp_seq_k
  intro KK hK
  have HKK := Lib.hid hK
  clear hK
  go_wp2_with fail
  clear hmk
  have hg0 := Cells.new wx 3 z5
  rw [← HZ5.out] at hg0
  have ho0 := (Below.refl wx.heap.size wx).alloc (Nat.le_refl _) (.cells z5.toArray 3)
  obtain ⟨w1, hw1⟩ : ∃ w1, wx.alloc (.cells z5.toArray 3) = w1 := ⟨_, rfl⟩
  rw [HZ5.out] at hg0
  rw [hw1] at hg0 ho0 ⊢
  rw [← HZ5.out] at hg0
  obtain ⟨g2, hgq⟩ : ∃ q, wx.heap.size = q := ⟨_, rfl⟩
  have GQ := Lib.hid hgq
  rw [hgq] at hg0 ⊢
  have HG0 := Lib.hid hg0
  have HO0 := Lib.hid ho0
  clear hg0 ho0 hw1 hgq
  refine HKK.out _ _ ?_
  clear HKK KK
  obtain ⟨w2, hr2, hg2, hbw2⟩ := copy_ints (P := Try.prog) (t := 40) 3 rfl Try.underlying40 Try.sizeInt1 HG0.out (SC.out.below (HB.out.trans (HO0.out.mono HB.out.size)))
  have HG2 := Lib.hid hg2
  have HO2 := Lib.hid (hbw2 wx.heap.size wx HO0.out (Nat.le_of_eq GQ.out))
  clear hg2 hbw2
  conv => arg 2; whnf
  apply wp_seq_k
  intro KK hK
  have HKK := Lib.hid hK
  clear hK
  go_wp2_with (at_builtin; refine wpList_copyR rfl _ _ 40 rfl _ _ _ _ rfl rfl hr2 ?_)
  clear hr2
  go_wp2_with fail
  refine HKK.out _ _ ?_
  clear HKK KK
  conv => arg 2; whnf
  apply wp_seq_k
  intro KK hK
  have HKK := Lib.hid hK
  clear hK
  have hcn := Cells.new w2 3 [.int .i64 43, .int .i64 44]
  have ho2 := (Below.refl w2.heap.size w2).alloc (Nat.le_refl _) (.cells #[.int .i64 43, .int .i64 44] 3)
  obtain ⟨w3, hr3, hg3, hbw3⟩ := app_ints (P := Try.prog) (t := 40) 40 43 44 rfl Try.underlying40 Try.sizeInt1 (HG2.out.alloc (.cells #[.int .i64 43, .int .i64 44] 3)) hcn
  have HO3 := Lib.hid (hbw3 wx.heap.size wx (HO2.out.trans (ho2.mono HO2.out.size)) (Nat.le_of_eq GQ.out))
  have HG3 := Lib.hid hg3
  clear hcn ho2 hbw3 hg3
  go_wp2_with (at_builtin; refine wpList_appR rfl _ _ 40 rfl _ _ _ _ rfl rfl hr3 ?_)
  clear hr3
  go_wp2_with fail
  refine HKK.out _ _ ?_
  change Code.wp _ (tailAt 10 tmBody) _ _ _
  exact tm_of10 SEE.out SR.out SC.out HW.out HRE.out HLR.out HLC.out (HX.out.below HO3.out HX.out.lt) (HB.out.trans (HO3.out.mono HB.out.size)) (HC7.out.below HO3.out HC7.out.lt) (HS7.out.below HO3.out) (HY.out.below HO3.out HY.out.lt) HG3.out

set_option linter.unusedSimpArgs false in
set_option maxRecDepth 100000 in
set_option maxHeartbeats 8000000 in
theorem tm_room4 {s0 s4 s5 s6 s8 s9 s10 s11 s12 s13 s14 s15 s16 s17 s18 s19 s20 s21 s22 s23 s24 s25 s26 s27 s28 s29 s30 s31 s32 s33 s34 s35 s36 s37 s38 s39 s40 s41 s42 s43 s44 s45 s46 s47 s48 s49 s50 s51 s52 s53 s54 s55 s56 s57 s58 s59 s60 s61 s62 s63 s64 s65 s66 s67 s68 s69 s70 s71 s72 s73 s74 s75 s76 s77 s78 s79 s80 s81 s82 s83 s84 s85 s86 s87 s88 s89 s90 s91 s92 s93 s94 s95 s96 s97 s98 s99 s100 s101 s102 s103 s104 s105 s106 s107 s108 s109 s110 s111 s112 s113 s114 s115 s116 s117 s118 s119 s120 s121 s122 s123 s124 s125 s126 s127 s128 s129 s130 s131 s132 s133 s134 s135 s136 s137 s138 s139 s140 s141 s142 s143 s144 s145 s146 s147 s148 s149 s150 s151 s152 s153 s154 s155 s156 s157 s158 s159 s160 s161 s162 s163 s164 s165 s166 s167 s168 s169 s170 s171 s172 s173 s174 s175 s176 s177 s178 s179 s180 s181 s182 s183 s184 s185 s186 s187 s188 s189 s190 s191 s192 s193 s194 s195 s196 s197 s198 s199 s200 s201 s202 s203 s204 s205 s206 s207 : Value} {A : HA} {h : HierD} {rows cols : List Int} {ra ca : Option Addr} {rc cc : Nat} {w wx : World} {b7 : Nat} {B : HA} (see : HSee w A h) (sr : See w ra rc memInt 1 rows) (sc : See w ca cc memInt 1 cols) (hw : WfList rows ∧ WfList cols) (hr : Reach5 h) (hlr : rows.length ≤ 20) (hlc : cols.length ≤ 20) (hx : Cells wx w.heap.size 25 (hierCells A h)) (hb : Below w.heap.size w wx) (c7 : Cells wx b7 25 (hierCells B h)) (s7 : HSee wx B h) : Code.wp Try.prog (tailAt 4 tmBody) (bodyPost Try.prog Try.f4 (BoolIs true w)) ⟨#[s0, .slice ra rows.length rc, .slice ca cols.length cc, .pointer (some ⟨w.heap.size, 0, none⟩), s4, s5, s6, .pointer (some ⟨b7, 0, none⟩), s8, s9, s10, s11, s12, s13, s14, s15, s16, s17, s18, s19, s20, s21, s22, s23, s24, s25, s26, s27, s28, s29, s30, s31, s32, s33, s34, s35, s36, s37, s38, s39, s40, s41, s42, s43, s44, s45, s46, s47, s48, s49, s50, s51, s52, s53, s54, s55, s56, s57, s58, s59, s60, s61, s62, s63, s64, s65, s66, s67, s68, s69, s70, s71, s72, s73, s74, s75, s76, s77, s78, s79, s80, s81, s82, s83, s84, s85, s86, s87, s88, s89, s90, s91, s92, s93, s94, s95, s96, s97, s98, s99, s100, s101, s102, s103, s104, s105, s106, s107, s108, s109, s110, s111, s112, s113, s114, s115, s116, s117, s118, s119, s120, s121, s122, s123, s124, s125, s126, s127, s128, s129, s130, s131, s132, s133, s134, s135, s136, s137, s138, s139, s140, s141, s142, s143, s144, s145, s146, s147, s148, s149, s150, s151, s152, s153, s154, s155, s156, s157, s158, s159, s160, s161, s162, s163, s164, s165, s166, s167, s168, s169, s170, s171, s172, s173, s174, s175, s176, s177, s178, s179, s180, s181, s182, s183, s184, s185, s186, s187, s188, s189, s190, s191, s192, s193, s194, s195, s196, s197, s198, s199, s200, s201, s202, s203, s204, s205, s206, s207], []⟩ wx := by
  have SEE := Lib.hid see
  have SR := Lib.hid sr
  have SC := Lib.hid sc
  have HW := Lib.hid hw
  have HRE := Lib.hid hr
  have HX := Lib.hid hx
  have HB := Lib.hid hb
  have HLR := Lib.hid hlr
  have HLC := Lib.hid hlc
  clear see sr sc hw hr hx hb hlr hlc
  have l1 : rows.length ≤ 20 := HLR.out
  have l2 : cols.length ≤ 20 := HLC.out
  have HC7 := Lib.hid c7
  have HS7 := Lib.hid s7
  clear c7 s7
  have hmk := run_make_nc (P := Try.prog) 40 3 (.int .i64 0) 1 8 Try.underlying40 Try.infoInt .i64 .i64 rows.length (rows.length + 2) (by omega) (by omega) (by omega)
  rw [show madeCells (Value.int .i64 0).cells ((rows.length + 2) * 1) = (List.replicate (rows.length + 2) (Value.int .i64 0)).toArray from by
    rw [made_one _ rfl]
    congr 1
    apply List.ext_getElem?
    intro i
    by_cases h : i < rows.length + 2
    · simp [h]
    · simp [h], show (((rows.length + 2 : Nat)) : Int) = (rows.length : Int) + 2 from by omega] at hmk
  obtain ⟨z5, hz5⟩ : ∃ z5, List.replicate (rows.length + 2) (Value.int .i64 0) = z5 := ⟨_, rfl⟩
  rw [hz5] at hmk
  have HZ5 := Lib.hid hz5
  clear hz5
  conv => arg 2; whnf
  apply wp_seq_k
  intro KK hK
  have HKK := Lib.hid hK
  clear hK
  go_wp2_with fail
  clear hmk
  have hg0 := Cells.new wx 3 z5
  rw [← HZ5.out] at hg0
  have ho0 := (Below.refl wx.heap.size wx).alloc (Nat.le_refl _) (.cells z5.toArray 3)
  obtain ⟨w1, hw1⟩ : ∃ w1, wx.alloc (.cells z5.toArray 3) = w1 := ⟨_, rfl⟩
  rw [HZ5.out] at hg0
  rw [hw1] at hg0 ho0 ⊢
  rw [← HZ5.out] at hg0
  obtain ⟨g1, hgq⟩ : ∃ q, wx.heap.size = q := ⟨_, rfl⟩
  have GQ := Lib.hid hgq
  rw [hgq] at hg0 ⊢
  have HG0 := Lib.hid hg0
  have HO0 := Lib.hid ho0
  clear hg0 ho0 hw1 hgq
  refine HKK.out _ _ ?_
  clear HKK KK
  obtain ⟨w2, hr2, hg2, hbw2⟩ := copy_ints (P := Try.prog) (t := 40) 3 rfl Try.underlying40 Try.sizeInt1 HG0.out (SR.out.below (HB.out.trans (HO0.out.mono HB.out.size)))
  have HG2 := Lib.hid hg2
  have HO2 := Lib.hid (hbw2 wx.heap.size wx HO0.out (Nat.le_of_eq GQ.out))
  clear hg2 hbw2
  conv => arg 2; whnf
  apply wp_seq_k
  intro KK hK
  have HKK := Lib.hid hK
  clear hK
  go_wp2_with (at_builtin; refine wpList_copyR rfl _ _ 40 rfl _ _ _ _ rfl rfl hr2 ?_)
  clear hr2
  go_wp2_with fail
  refine HKK.out _ _ ?_
  clear HKK KK
  conv => arg 2; whnf
  apply wp_seq_k
  intro KK hK
  have HKK := Lib.hid hK
  clear hK
  have hcn := Cells.new w2 3 [.int .i64 41, .int .i64 42]
  have ho2 := (Below.refl w2.heap.size w2).alloc (Nat.le_refl _) (.cells #[.int .i64 41, .int .i64 42] 3)
  obtain ⟨w3, hr3, hg3, hbw3⟩ := app_ints (P := Try.prog) (t := 40) 40 41 42 rfl Try.underlying40 Try.sizeInt1 (HG2.out.alloc (.cells #[.int .i64 41, .int .i64 42] 3)) hcn
  have HO3 := Lib.hid (hbw3 wx.heap.size wx (HO2.out.trans (ho2.mono HO2.out.size)) (Nat.le_of_eq GQ.out))
  have HG3 := Lib.hid hg3
  clear hcn ho2 hbw3 hg3
  go_wp2_with (at_builtin; refine wpList_appR rfl _ _ 40 rfl _ _ _ _ rfl rfl hr3 ?_)
  clear hr3
  go_wp2_with fail
  refine HKK.out _ _ ?_
  change Code.wp _ (tailAt 7 tmBody) _ _ _
  exact tm_room7 SEE.out SR.out SC.out HW.out HRE.out HLR.out HLC.out (HX.out.below HO3.out HX.out.lt) (HB.out.trans (HO3.out.mono HB.out.size)) (HC7.out.below HO3.out HC7.out.lt) (HS7.out.below HO3.out) HG3.out

set_option linter.unusedSimpArgs false in
set_option maxRecDepth 100000 in
set_option maxHeartbeats 8000000 in
theorem tm_twin {s0 s4 s5 s6 s7 s8 s9 s10 s11 s12 s13 s14 s15 s16 s17 s18 s19 s20 s21 s22 s23 s24 s25 s26 s27 s28 s29 s30 s31 s32 s33 s34 s35 s36 s37 s38 s39 s40 s41 s42 s43 s44 s45 s46 s47 s48 s49 s50 s51 s52 s53 s54 s55 s56 s57 s58 s59 s60 s61 s62 s63 s64 s65 s66 s67 s68 s69 s70 s71 s72 s73 s74 s75 s76 s77 s78 s79 s80 s81 s82 s83 s84 s85 s86 s87 s88 s89 s90 s91 s92 s93 s94 s95 s96 s97 s98 s99 s100 s101 s102 s103 s104 s105 s106 s107 s108 s109 s110 s111 s112 s113 s114 s115 s116 s117 s118 s119 s120 s121 s122 s123 s124 s125 s126 s127 s128 s129 s130 s131 s132 s133 s134 s135 s136 s137 s138 s139 s140 s141 s142 s143 s144 s145 s146 s147 s148 s149 s150 s151 s152 s153 s154 s155 s156 s157 s158 s159 s160 s161 s162 s163 s164 s165 s166 s167 s168 s169 s170 s171 s172 s173 s174 s175 s176 s177 s178 s179 s180 s181 s182 s183 s184 s185 s186 s187 s188 s189 s190 s191 s192 s193 s194 s195 s196 s197 s198 s199 s200 s201 s202 s203 s204 s205 s206 s207 : Value} {A : HA} {h : HierD} {rows cols : List Int} {ra ca : Option Addr} {rc cc : Nat} {w wx : World} (see : HSee w A h) (sr : See w ra rc memInt 1 rows) (sc : See w ca cc memInt 1 cols) (hw : WfList rows ∧ WfList cols) (hr : Reach5 h) (hlr : rows.length ≤ 20) (hlc : cols.length ≤ 20) (hx : Cells wx w.heap.size 25 (hierCells A h)) (hb : Below w.heap.size w wx) : Code.wp Try.prog (tailAt 3 tmBody) (bodyPost Try.prog Try.f4 (BoolIs true w)) ⟨#[s0, .slice ra rows.length rc, .slice ca cols.length cc, .pointer (some ⟨w.heap.size, 0, none⟩), s4, s5, s6, s7, s8, s9, s10, s11, s12, s13, s14, s15, s16, s17, s18, s19, s20, s21, s22, s23, s24, s25, s26, s27, s28, s29, s30, s31, s32, s33, s34, s35, s36, s37, s38, s39, s40, s41, s42, s43, s44, s45, s46, s47, s48, s49, s50, s51, s52, s53, s54, s55, s56, s57, s58, s59, s60, s61, s62, s63, s64, s65, s66, s67, s68, s69, s70, s71, s72, s73, s74, s75, s76, s77, s78, s79, s80, s81, s82, s83, s84, s85, s86, s87, s88, s89, s90, s91, s92, s93, s94, s95, s96, s97, s98, s99, s100, s101, s102, s103, s104, s105, s106, s107, s108, s109, s110, s111, s112, s113, s114, s115, s116, s117, s118, s119, s120, s121, s122, s123, s124, s125, s126, s127, s128, s129, s130, s131, s132, s133, s134, s135, s136, s137, s138, s139, s140, s141, s142, s143, s144, s145, s146, s147, s148, s149, s150, s151, s152, s153, s154, s155, s156, s157, s158, s159, s160, s161, s162, s163, s164, s165, s166, s167, s168, s169, s170, s171, s172, s173, s174, s175, s176, s177, s178, s179, s180, s181, s182, s183, s184, s185, s186, s187, s188, s189, s190, s191, s192, s193, s194, s195, s196, s197, s198, s199, s200, s201, s202, s203, s204, s205, s206, s207], []⟩ wx := by
  have SEE := Lib.hid see
  have SR := Lib.hid sr
  have SC := Lib.hid sc
  have HW := Lib.hid hw
  have HRE := Lib.hid hr
  have HX := Lib.hid hx
  have HB := Lib.hid hb
  have HLR := Lib.hid hlr
  have HLC := Lib.hid hlc
  clear see sr sc hw hr hx hb hlr hlc
  obtain ⟨k0, k1, k2, k3, k4⟩ := hier_five HX.out
  conv => arg 2; whnf
  apply wp_seq_k
  intro KK hK
  have HKK := Lib.hid hK
  clear hK
  go_wp2_with fail
  refine (twin_litM A h _ (SEE.out.below HB.out) HRE.out).mono ?_
  rintro e w1 ⟨B, rfl, sb, -, hb⟩
  have ho := (Below.refl w1.heap.size w1).alloc (Nat.le_refl _) (.cells (hierCells B h).toArray 25)
  have hb1 := hb.trans (ho.mono hb.size)
  have HX1 := Lib.hid (HX.out.below hb1 HX.out.lt)
  have HB1 := Lib.hid (HB.out.trans (hb1.mono HB.out.size))
  have SB1 := Lib.hid (sb.below ho)
  clear sb hb ho hb1 HX HB k0 k1 k2 k3 k4
  unfold hierVal
  go_wp2_with fail
  refine HKK.out _ _ ?_
  change Code.wp _ (tailAt 4 tmBody) _ _ _
  exact tm_room4 SEE.out SR.out SC.out HW.out HRE.out HLR.out HLC.out HX1.out HB1.out (Cells.new w1 25 (hierCells B h)) SB1.out
set_option linter.unusedSimpArgs false in
set_option maxRecDepth 100000 in
set_option maxHeartbeats 8000000 in
theorem tm_few {s0 s4 s5 s6 s7 s8 s9 s10 s11 s12 s13 s14 s15 s16 s17 s18 s19 s20 s21 s22 s23 s24 s25 s26 s27 s28 s29 s30 s31 s32 s33 s34 s35 s36 s37 s38 s39 s40 s41 s42 s43 s44 s45 s46 s47 s48 s49 s50 s51 s52 s53 s54 s55 s56 s57 s58 s59 s60 s61 s62 s63 s64 s65 s66 s67 s68 s69 s70 s71 s72 s73 s74 s75 s76 s77 s78 s79 s80 s81 s82 s83 s84 s85 s86 s87 s88 s89 s90 s91 s92 s93 s94 s95 s96 s97 s98 s99 s100 s101 s102 s103 s104 s105 s106 s107 s108 s109 s110 s111 s112 s113 s114 s115 s116 s117 s118 s119 s120 s121 s122 s123 s124 s125 s126 s127 s128 s129 s130 s131 s132 s133 s134 s135 s136 s137 s138 s139 s140 s141 s142 s143 s144 s145 s146 s147 s148 s149 s150 s151 s152 s153 s154 s155 s156 s157 s158 s159 s160 s161 s162 s163 s164 s165 s166 s167 s168 s169 s170 s171 s172 s173 s174 s175 s176 s177 s178 s179 s180 s181 s182 s183 s184 s185 s186 s187 s188 s189 s190 s191 s192 s193 s194 s195 s196 s197 s198 s199 s200 s201 s202 s203 s204 s205 s206 s207 : Value} {A : HA} {h : HierD} {rows cols : List Int} {ra ca : Option Addr} {rc cc : Nat} {w wx : World} (see : HSee w A h) (sr : See w ra rc memInt 1 rows) (sc : See w ca cc memInt 1 cols) (hw : WfList rows ∧ WfList cols) (hr : Reach5 h) (hx : Cells wx w.heap.size 25 (hierCells A h)) (hb : Below w.heap.size w wx) : Code.wp Try.prog (tailAt 2 tmBody) (bodyPost Try.prog Try.f4 (BoolIs true w)) ⟨#[s0, .slice ra rows.length rc, .slice ca cols.length cc, .pointer (some ⟨w.heap.size, 0, none⟩), s4, s5, s6, s7, s8, s9, s10, s11, s12, s13, s14, s15, s16, s17, s18, s19, s20, s21, s22, s23, s24, s25, s26, s27, s28, s29, s30, s31, s32, s33, s34, s35, s36, s37, s38, s39, s40, s41, s42, s43, s44, s45, s46, s47, s48, s49, s50, s51, s52, s53, s54, s55, s56, s57, s58, s59, s60, s61, s62, s63, s64, s65, s66, s67, s68, s69, s70, s71, s72, s73, s74, s75, s76, s77, s78, s79, s80, s81, s82, s83, s84, s85, s86, s87, s88, s89, s90, s91, s92, s93, s94, s95, s96, s97, s98, s99, s100, s101, s102, s103, s104, s105, s106, s107, s108, s109, s110, s111, s112, s113, s114, s115, s116, s117, s118, s119, s120, s121, s122, s123, s124, s125, s126, s127, s128, s129, s130, s131, s132, s133, s134, s135, s136, s137, s138, s139, s140, s141, s142, s143, s144, s145, s146, s147, s148, s149, s150, s151, s152, s153, s154, s155, s156, s157, s158, s159, s160, s161, s162, s163, s164, s165, s166, s167, s168, s169, s170, s171, s172, s173, s174, s175, s176, s177, s178, s179, s180, s181, s182, s183, s184, s185, s186, s187, s188, s189, s190, s191, s192, s193, s194, s195, s196, s197, s198, s199, s200, s201, s202, s203, s204, s205, s206, s207], []⟩ wx := by
  have SEE := Lib.hid see
  have SR := Lib.hid sr
  have SC := Lib.hid sc
  have HW := Lib.hid hw
  have HRE := Lib.hid hr
  have HX := Lib.hid hx
  have HB := Lib.hid hb
  clear see sr sc hw hr hx hb
  obtain ⟨k0, k1, k2, k3, k4⟩ := hier_five HX.out
  conv => arg 2; whnf
  apply wp_seq_k
  intro KK hK
  have HKK := Lib.hid hK
  clear hK
  go_wp2_with fail
  refine (few23_litM A h ra ca rows.length cols.length rc cc _).mono ?_
  rintro e w1 ⟨b, rfl, -, hb1⟩
  have HX1 := Lib.hid (HX.out.below hb1 HX.out.lt)
  have HB1 := Lib.hid (HB.out.trans (hb1.mono HB.out.size))
  clear hb1 HX HB k0 k1 k2 k3 k4
  cases b
  · go_wp2
    go_returns
    exact ⟨rfl, HB1.out⟩
  · by_cases hlr : rows.length ≤ 20
    · have t1 : decide ((20 : Int) < (rows.length : Int)) = false := by simp; omega
      have HLR := Lib.hid hlr
      clear hlr
      by_cases hlc : cols.length ≤ 20
      · have t2 : decide ((20 : Int) < (cols.length : Int)) = false := by simp; omega
        have HLC := Lib.hid hlc
        clear hlc
        go_wp2_with fail
        refine HKK.out _ _ ?_
        change Code.wp _ (tailAt 3 tmBody) _ _ _
        exact tm_twin SEE.out SR.out SC.out HW.out HRE.out HLR.out HLC.out HX1.out HB1.out
      · have t2 : decide ((20 : Int) < (cols.length : Int)) = true := by simp; omega
        clear hlc
        go_wp2
        go_returns
        exact ⟨rfl, HB1.out⟩
    · have t1 : decide ((20 : Int) < (rows.length : Int)) = true := by simp; omega
      clear hlr
      go_wp2
      go_returns
      exact ⟨rfl, HB1.out⟩
set_option linter.unusedSimpArgs false in
set_option maxRecDepth 100000 in
set_option maxHeartbeats 8000000 in
theorem tm_awake {s0 s4 s5 s6 s7 s8 s9 s10 s11 s12 s13 s14 s15 s16 s17 s18 s19 s20 s21 s22 s23 s24 s25 s26 s27 s28 s29 s30 s31 s32 s33 s34 s35 s36 s37 s38 s39 s40 s41 s42 s43 s44 s45 s46 s47 s48 s49 s50 s51 s52 s53 s54 s55 s56 s57 s58 s59 s60 s61 s62 s63 s64 s65 s66 s67 s68 s69 s70 s71 s72 s73 s74 s75 s76 s77 s78 s79 s80 s81 s82 s83 s84 s85 s86 s87 s88 s89 s90 s91 s92 s93 s94 s95 s96 s97 s98 s99 s100 s101 s102 s103 s104 s105 s106 s107 s108 s109 s110 s111 s112 s113 s114 s115 s116 s117 s118 s119 s120 s121 s122 s123 s124 s125 s126 s127 s128 s129 s130 s131 s132 s133 s134 s135 s136 s137 s138 s139 s140 s141 s142 s143 s144 s145 s146 s147 s148 s149 s150 s151 s152 s153 s154 s155 s156 s157 s158 s159 s160 s161 s162 s163 s164 s165 s166 s167 s168 s169 s170 s171 s172 s173 s174 s175 s176 s177 s178 s179 s180 s181 s182 s183 s184 s185 s186 s187 s188 s189 s190 s191 s192 s193 s194 s195 s196 s197 s198 s199 s200 s201 s202 s203 s204 s205 s206 s207 : Value} {A : HA} {h : HierD} {rows cols : List Int} {ra ca : Option Addr} {rc cc : Nat} {w wx : World} (see : HSee w A h) (sr : See w ra rc memInt 1 rows) (sc : See w ca cc memInt 1 cols) (hw : WfList rows ∧ WfList cols) (hr : Reach5 h) (hx : Cells wx w.heap.size 25 (hierCells A h)) (hb : Below w.heap.size w wx) : Code.wp Try.prog (tailAt 1 tmBody) (bodyPost Try.prog Try.f4 (BoolIs true w)) ⟨#[s0, .slice ra rows.length rc, .slice ca cols.length cc, .pointer (some ⟨w.heap.size, 0, none⟩), s4, s5, s6, s7, s8, s9, s10, s11, s12, s13, s14, s15, s16, s17, s18, s19, s20, s21, s22, s23, s24, s25, s26, s27, s28, s29, s30, s31, s32, s33, s34, s35, s36, s37, s38, s39, s40, s41, s42, s43, s44, s45, s46, s47, s48, s49, s50, s51, s52, s53, s54, s55, s56, s57, s58, s59, s60, s61, s62, s63, s64, s65, s66, s67, s68, s69, s70, s71, s72, s73, s74, s75, s76, s77, s78, s79, s80, s81, s82, s83, s84, s85, s86, s87, s88, s89, s90, s91, s92, s93, s94, s95, s96, s97, s98, s99, s100, s101, s102, s103, s104, s105, s106, s107, s108, s109, s110, s111, s112, s113, s114, s115, s116, s117, s118, s119, s120, s121, s122, s123, s124, s125, s126, s127, s128, s129, s130, s131, s132, s133, s134, s135, s136, s137, s138, s139, s140, s141, s142, s143, s144, s145, s146, s147, s148, s149, s150, s151, s152, s153, s154, s155, s156, s157, s158, s159, s160, s161, s162, s163, s164, s165, s166, s167, s168, s169, s170, s171, s172, s173, s174, s175, s176, s177, s178, s179, s180, s181, s182, s183, s184, s185, s186, s187, s188, s189, s190, s191, s192, s193, s194, s195, s196, s197, s198, s199, s200, s201, s202, s203, s204, s205, s206, s207], []⟩ wx := by
  have SEE := Lib.hid see
  have SR := Lib.hid sr
  have SC := Lib.hid sc
  have HW := Lib.hid hw
  have HRE := Lib.hid hr
  have HX := Lib.hid hx
  have HB := Lib.hid hb
  clear see sr sc hw hr hx hb
  conv => arg 2; whnf
  apply wp_seq_k
  intro KK hK
  have HKK := Lib.hid hK
  clear hK
  go_wp2_with fail
  refine (awake23_any _).mono ?_
  rintro e w1 ⟨rfl, hb1⟩
  have HX1 := Lib.hid (HX.out.below hb1 HX.out.lt)
  have HB1 := Lib.hid (HB.out.trans (hb1.mono HB.out.size))
  clear hb1 HX HB
  go_wp2_with fail
  refine HKK.out _ _ ?_
  change Code.wp _ (tailAt 2 tmBody) _ _ _
  exact tm_few SEE.out SR.out SC.out HW.out HRE.out HX1.out HB1.out
set_option linter.unusedSimpArgs false in
set_option maxRecDepth 100000 in
set_option maxHeartbeats 8000000 in
/-- **TableMemory.** -/
theorem tableMemory_any (A : HA) (h : HierD) (rows cols : List Int) (ra ca : Option Addr) (rc cc : Nat) (w : World) (see : HSee w A h) (sr : See w ra rc memInt 1 rows) (sc : See w ca cc memInt 1 cols) (hw : WfList rows ∧ WfList cols) (hr : Reach5 h) : Calls Try.prog 4 #[hierVal A h, .slice ra rows.length rc, .slice ca cols.length cc] w (BoolIs true w) := by
  have SEE := Lib.hid see
  have SR := Lib.hid sr
  have SC := Lib.hid sc
  have HW := Lib.hid hw
  have HRE := Lib.hid hr
  clear see sr sc hw hr
  unfold hierVal
  go_enter Try.func4, Try.ntmps4
  apply wp_seq_k
  intro K1 hK
  have HK1 := Lib.hid hK
  clear hK
  go_wp2_with fail
  refine HK1.out _ _ ?_
  change Code.wp _ (tailAt 1 tmBody) _ _ _
  exact tm_awake SEE.out SR.out SC.out HW.out HRE.out (Cells.new w 25 (hierCells A h)) ((Below.refl w.heap.size w).alloc (Nat.le_refl _) _)
end Go.Proofs.Ytjbphoophgbmiaa
