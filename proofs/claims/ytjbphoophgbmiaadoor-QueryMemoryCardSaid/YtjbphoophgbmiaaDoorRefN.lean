/- The reference's look at two nodes. -/
import Derived.Test.YtjbphoophgbmiaaDoorRefLc
import Derived.Test.YtjbphoophgbmiaaDoorRefF
import Derived.Test.YtjbphoophgbmiaaDoorRefI
namespace Go.Proofs.YtjbphoophgbmiaaDoor
open Go.ChangeShapes Go.WideShapes Go.ChangeAt Go.RowKit Go.Joins Go.Deep

set_option linter.unusedSimpArgs false in
set_option maxRecDepth 100000 in
set_option maxHeartbeats 8000000 in
theorem rnodes_any (A : HA) (h : HierD) (s t : Int) (w : World) :
    Calls Tryd.prog 61 #[hierVal A h, .int .i64 s, .int .i64 t] w (ErrNew (nodesErr h.node.length s t) w) := by
  have hx := (Cells.new w 25 (hierCells A h)).alloc (.cells errZero.toArray 30)
  have hr : Cells ((w.alloc (.cells (hierCells A h).toArray 25)).alloc (.cells errZero.toArray 30)) (w.heap.size + 1) 30 errZero := cells_at (by simp) 30 errZero
  have hb := ((Below.refl w.heap.size w).alloc (Nat.le_refl _) (.cells (hierCells A h).toArray 25)).alloc (by simp) (.cells errZero.toArray 30)
  have HR := Lib.hid hr
  have HB := Lib.hid hb
  clear hx hr hb
  unfold hierVal
  obtain ⟨E, hE⟩ : ∃ E, E = nodesErr h.node.length s t := ⟨_, rfl⟩
  rw [← hE]
  have HE := Lib.hid hE
  clear hE
  by_cases a_s : s < 0
  case pos =>
    have ds : decide (s < 0) = true := by simpa using a_s
    have HER := Lib.hid (show E = .at 3 0 7 by rw [HE.out]; unfold nodesErr; rw [if_pos (.inl a_s)])
    clear HE a_s
    go_enter Tryd.func61, Tryd.ntmps61
    go_wp2_with fail
    refine (e_any 7 _).mono ?_
    rintro e w1 ⟨v, rfl, hv, hb1⟩
    obtain rfl : v = _ := hv
    have HR1 := Lib.hid (HR.out.below hb1 HR.out.lt)
    have HB1 := Lib.hid (HB.out.trans (hb1.mono HB.out.size))
    clear hb1
    go_wp2_with fail
    refine (rat_any 3 0 7 _).mono ?_
    rintro e w2 ⟨v, rfl, hv, hb1⟩
    obtain ⟨uc, ua, un, ucap, rfl⟩ := hv.form
    have HR2 := Lib.hid (HR1.out.below hb1 HR1.out.lt)
    have HB2 := Lib.hid (HB1.out.trans (hb1.mono HB1.out.size))
    have HV := Lib.hid hv
    clear hb1 hv HR1 HB1 HR HB
    have z0 : w2.cell? ⟨w.heap.size + 1, 0, none⟩ = some (.int .i64 0) := HR2.out.cell rfl
    have z1 : w2.cell? ⟨w.heap.size + 1, 1, none⟩ = some (.slice none 0 0) := HR2.out.cell rfl
    have g0 := HR2.out.frozen 0
    have g1 := HR2.out.frozen 1
    have lr := HR2.out.lt
    go_wp2
    refine bodyPost_ret (results_e rfl _ _ (w.heap.size + 1) 30 [.int .i64 uc, .slice ua un ucap] _ rfl ((HR2.out.set 0 _).set 1 _) Tryd.underlying30 rfl (by rw [Tryd.sizeErr]; rfl)) rfl ?_
    rw [HER.out]
    exact ⟨_, rfl, HV.out.put HR2.out _ _, (HB2.out.setCell (p := ⟨w.heap.size + 1, 0, none⟩) (by simp) _).setCell (p := ⟨w.heap.size + 1, 1, none⟩) (by simp) _⟩
  have ds : decide (s < 0) = false := by simpa using a_s
  by_cases bs : (h.node.length : Int) ≤ s
  case pos =>
    have fs : decide ((h.node.length : Int) ≤ s) = true := by simpa using bs
    have HER := Lib.hid (show E = .at 3 0 7 by rw [HE.out]; unfold nodesErr; rw [if_pos (.inr bs)])
    clear HE a_s bs
    go_enter Tryd.func61, Tryd.ntmps61
    go_wp2_with fail
    refine (e_any 7 _).mono ?_
    rintro e w1 ⟨v, rfl, hv, hb1⟩
    obtain rfl : v = _ := hv
    have HR1 := Lib.hid (HR.out.below hb1 HR.out.lt)
    have HB1 := Lib.hid (HB.out.trans (hb1.mono HB.out.size))
    clear hb1
    go_wp2_with fail
    refine (rat_any 3 0 7 _).mono ?_
    rintro e w2 ⟨v, rfl, hv, hb1⟩
    obtain ⟨uc, ua, un, ucap, rfl⟩ := hv.form
    have HR2 := Lib.hid (HR1.out.below hb1 HR1.out.lt)
    have HB2 := Lib.hid (HB1.out.trans (hb1.mono HB1.out.size))
    have HV := Lib.hid hv
    clear hb1 hv HR1 HB1 HR HB
    have z0 : w2.cell? ⟨w.heap.size + 1, 0, none⟩ = some (.int .i64 0) := HR2.out.cell rfl
    have z1 : w2.cell? ⟨w.heap.size + 1, 1, none⟩ = some (.slice none 0 0) := HR2.out.cell rfl
    have g0 := HR2.out.frozen 0
    have g1 := HR2.out.frozen 1
    have lr := HR2.out.lt
    go_wp2
    refine bodyPost_ret (results_e rfl _ _ (w.heap.size + 1) 30 [.int .i64 uc, .slice ua un ucap] _ rfl ((HR2.out.set 0 _).set 1 _) Tryd.underlying30 rfl (by rw [Tryd.sizeErr]; rfl)) rfl ?_
    rw [HER.out]
    exact ⟨_, rfl, HV.out.put HR2.out _ _, (HB2.out.setCell (p := ⟨w.heap.size + 1, 0, none⟩) (by simp) _).setCell (p := ⟨w.heap.size + 1, 1, none⟩) (by simp) _⟩
  have fs : decide ((h.node.length : Int) ≤ s) = false := by simpa using bs
  have AS := Lib.hid (show ¬ (s < 0 ∨ (h.node.length : Int) ≤ s) by omega)
  clear a_s bs
  by_cases a_t : t < 0
  case pos =>
    have dt : decide (t < 0) = true := by simpa using a_t
    have HER := Lib.hid (show E = .at 3 1 7 by rw [HE.out]; unfold nodesErr; rw [if_neg AS.out]; rw [if_pos (.inl a_t)])
    clear HE a_t
    go_enter Tryd.func61, Tryd.ntmps61
    go_wp2_with fail
    refine (e_any 7 _).mono ?_
    rintro e w1 ⟨v, rfl, hv, hb1⟩
    obtain rfl : v = _ := hv
    have HR1 := Lib.hid (HR.out.below hb1 HR.out.lt)
    have HB1 := Lib.hid (HB.out.trans (hb1.mono HB.out.size))
    clear hb1
    go_wp2_with fail
    refine (rat_any 3 1 7 _).mono ?_
    rintro e w2 ⟨v, rfl, hv, hb1⟩
    obtain ⟨uc, ua, un, ucap, rfl⟩ := hv.form
    have HR2 := Lib.hid (HR1.out.below hb1 HR1.out.lt)
    have HB2 := Lib.hid (HB1.out.trans (hb1.mono HB1.out.size))
    have HV := Lib.hid hv
    clear hb1 hv HR1 HB1 HR HB
    have z0 : w2.cell? ⟨w.heap.size + 1, 0, none⟩ = some (.int .i64 0) := HR2.out.cell rfl
    have z1 : w2.cell? ⟨w.heap.size + 1, 1, none⟩ = some (.slice none 0 0) := HR2.out.cell rfl
    have g0 := HR2.out.frozen 0
    have g1 := HR2.out.frozen 1
    have lr := HR2.out.lt
    go_wp2
    refine bodyPost_ret (results_e rfl _ _ (w.heap.size + 1) 30 [.int .i64 uc, .slice ua un ucap] _ rfl ((HR2.out.set 0 _).set 1 _) Tryd.underlying30 rfl (by rw [Tryd.sizeErr]; rfl)) rfl ?_
    rw [HER.out]
    exact ⟨_, rfl, HV.out.put HR2.out _ _, (HB2.out.setCell (p := ⟨w.heap.size + 1, 0, none⟩) (by simp) _).setCell (p := ⟨w.heap.size + 1, 1, none⟩) (by simp) _⟩
  have dt : decide (t < 0) = false := by simpa using a_t
  by_cases bt : (h.node.length : Int) ≤ t
  case pos =>
    have ft : decide ((h.node.length : Int) ≤ t) = true := by simpa using bt
    have HER := Lib.hid (show E = .at 3 1 7 by rw [HE.out]; unfold nodesErr; rw [if_neg AS.out]; rw [if_pos (.inr bt)])
    clear HE a_t bt
    go_enter Tryd.func61, Tryd.ntmps61
    go_wp2_with fail
    refine (e_any 7 _).mono ?_
    rintro e w1 ⟨v, rfl, hv, hb1⟩
    obtain rfl : v = _ := hv
    have HR1 := Lib.hid (HR.out.below hb1 HR.out.lt)
    have HB1 := Lib.hid (HB.out.trans (hb1.mono HB.out.size))
    clear hb1
    go_wp2_with fail
    refine (rat_any 3 1 7 _).mono ?_
    rintro e w2 ⟨v, rfl, hv, hb1⟩
    obtain ⟨uc, ua, un, ucap, rfl⟩ := hv.form
    have HR2 := Lib.hid (HR1.out.below hb1 HR1.out.lt)
    have HB2 := Lib.hid (HB1.out.trans (hb1.mono HB1.out.size))
    have HV := Lib.hid hv
    clear hb1 hv HR1 HB1 HR HB
    have z0 : w2.cell? ⟨w.heap.size + 1, 0, none⟩ = some (.int .i64 0) := HR2.out.cell rfl
    have z1 : w2.cell? ⟨w.heap.size + 1, 1, none⟩ = some (.slice none 0 0) := HR2.out.cell rfl
    have g0 := HR2.out.frozen 0
    have g1 := HR2.out.frozen 1
    have lr := HR2.out.lt
    go_wp2
    refine bodyPost_ret (results_e rfl _ _ (w.heap.size + 1) 30 [.int .i64 uc, .slice ua un ucap] _ rfl ((HR2.out.set 0 _).set 1 _) Tryd.underlying30 rfl (by rw [Tryd.sizeErr]; rfl)) rfl ?_
    rw [HER.out]
    exact ⟨_, rfl, HV.out.put HR2.out _ _, (HB2.out.setCell (p := ⟨w.heap.size + 1, 0, none⟩) (by simp) _).setCell (p := ⟨w.heap.size + 1, 1, none⟩) (by simp) _⟩
  have ft : decide ((h.node.length : Int) ≤ t) = false := by simpa using bt
  have HER := Lib.hid (show E = .nil by rw [HE.out]; unfold nodesErr; rw [if_neg AS.out, if_neg (by omega)])
  clear HE a_t bt AS
  go_enter Tryd.func61, Tryd.ntmps61
  go_wp2
  refine bodyPost_ret (results_e rfl _ _ (w.heap.size + 1) 30 [.int .i64 0, .slice none 0 0] _ rfl HR.out Tryd.underlying30 rfl (by rw [Tryd.sizeErr]; rfl)) rfl ?_
  rw [HER.out]
  exact ⟨_, rfl, rfl, HB.out⟩
end Go.Proofs.YtjbphoophgbmiaaDoor

/- The reference's Meet: the end, the loop over the ranks. -/
namespace Go.Proofs.YtjbphoophgbmiaaDoor
open Go.ChangeShapes Go.WideShapes Go.ChangeAt Go.RowKit Go.Joins Go.Deep

/-- Three results, the last of which lies in a block of its own. -/
theorem results_tte {P : Program} {fn : Func} {p q r : Tmp} {ty : TypeId} (h : fn.results = #[.tmp p, .tmp q, .cell r ty]) (tmps : Array Value) (w : World) (g : Nat) (t : TypeId) (cs : List Value) (d : TypeDesc)
    (hp : tmps.getD r undef = .pointer (some ⟨g, 0, none⟩)) (hg : Cells w g t cs)
    (hu : P.underlying ty = some d) (hd : (match d with | .struct _ | .array _ _ => true | _ => false) = true) (hi : (P.info? ty).map (·.size) = some cs.length) :
    (results fn tmps).run P w = .ok (.tuple #[tmps.getD p undef, tmps.getD q undef, .agg cs.toArray]) w := by
  have hp' : tmps[r]?.getD undef = .pointer (some ⟨g, 0, none⟩) := by simpa using hp
  have hr := run_loadVar_row (P := P) w g t ty cs.toArray (0, 0) d hg hu hd (by simpa using hi)
  simp [results, h, hp', asAddr, hr]
theorem meetTo_none {D E : Nat → Option Int} {k : Nat} (h : D k = none ∨ E k = none) : meetTo D E (k + 1) = meetTo D E k :=
  meetTo_skip (m := k) 1 (fun q h1 h2 => by have e : q = k := by omega
                                            subst e; exact h)
noncomputable def meetBody : Code := Tryd.f62.body.getD .skip
def RMeetNew (h : HierD) (s t : Int) (w : World) (e : Ending) (w' : World) : Prop :=
  ∃ (r : Nat) (d : Int) (x : EV) (v : Value), e = .returned (.tuple #[.int .i64 (r : Nat), .int .u64 d, v]) ∧ ErrV w' v x ∧ MeetIs h s t r d x ∧ Below w.heap.size w w'

set_option linter.unusedSimpArgs false in
set_option maxRecDepth 100000 in
set_option maxHeartbeats 8000000 in
theorem meet_end {s0 s1 s2 s3 s4 s5 s6 s7 s9 s10 s13 s14 s15 s16 s17 s18 s19 s20 s21 s22 s23 s24 s25 s26 s27 s28 s29 s30 s31 s32 s33 s34 s35 s36 s37 s38 s39 s40 s41 s42 s43 s44 s45 s46 s47 s48 s49 s50 s51 s52 s53 s54 s55 s56 s57 s58 s59 s60 s61 s62 s63 s64 s65 s66 s67 s68 s69 s70 s71 : Value} {h : HierD} {s t : Int} {w wx : World} {r : Nat} {d : Int} (hr : Cells wx (w.heap.size + 1) 30 errZero) (hb : Below w.heap.size w wx)
    (hw : d ≠ 18446744073709551615 → MeetIs h s t r d .nil) (hn : d = 18446744073709551615 → MeetIs h s t 0 0 (.code 16)) : Code.wp Tryd.prog (tailAt 4 meetBody) (bodyPost Tryd.prog Tryd.f62 (RMeetNew h s t w)) ⟨#[s0, s1, s2, s3, s4, s5, s6, s7, .pointer (some ⟨(w.heap.size + 1), 0, none⟩), s9, s10, .int .u64 d, .int .i64 (r : Nat), s13, s14, s15, s16, s17, s18, s19, s20, s21, s22, s23, s24, s25, s26, s27, s28, s29, s30, s31, s32, s33, s34, s35, s36, s37, s38, s39, s40, s41, s42, s43, s44, s45, s46, s47, s48, s49, s50, s51, s52, s53, s54, s55, s56, s57, s58, s59, s60, s61, s62, s63, s64, s65, s66, s67, s68, s69, s70, s71], []⟩ wx := by
  have HR := Lib.hid hr
  have HB := Lib.hid hb
  have HW := Lib.hid hw
  have HN := Lib.hid hn
  clear hr hb hw hn
  conv => arg 2; whnf
  by_cases hd : d = 18446744073709551615
  · have e1 : (d == 18446744073709551615) = true := by simp [hd]
    have HM := Lib.hid (HN.out hd)
    clear hd HN HW
    go_wp2_with fail
    refine (e_any 16 _).mono ?_
    rintro e w1 ⟨v, rfl, hv, hb⟩
    obtain rfl : v = _ := hv
    have HR1 := Lib.hid (HR.out.below hb HR.out.lt)
    have HB1 := Lib.hid (HB.out.trans (hb.mono HB.out.size))
    clear hb HR HB
    have z0 : w1.cell? ⟨w.heap.size + 1, 0, none⟩ = some (.int .i64 0) := HR1.out.cell rfl
    have z1 : w1.cell? ⟨w.heap.size + 1, 1, none⟩ = some (.slice none 0 0) := HR1.out.cell rfl
    have g0 := HR1.out.frozen 0
    have g1 := HR1.out.frozen 1
    have lr := HR1.out.lt
    go_wp2
    refine bodyPost_ret (results_tte rfl _ _ (w.heap.size + 1) 30 [.int .i64 16, .slice none 0 0] _ rfl ((HR1.out.set 0 _).set 1 _) Tryd.underlying30 rfl (by rw [Tryd.sizeErr]; rfl)) rfl ?_
    exact ⟨0, 0, .code 16, _, rfl, rfl, HM.out, (HB1.out.setCell (p := ⟨w.heap.size + 1, 0, none⟩) (by simp) _).setCell (p := ⟨w.heap.size + 1, 1, none⟩) (by simp) _⟩
  · have e1 : (d == 18446744073709551615) = false := by simp [hd]
    have HM := Lib.hid (HW.out hd)
    clear hd HN HW
    have z0 : wx.cell? ⟨w.heap.size + 1, 0, none⟩ = some (.int .i64 0) := HR.out.cell rfl
    have z1 : wx.cell? ⟨w.heap.size + 1, 1, none⟩ = some (.slice none 0 0) := HR.out.cell rfl
    have g0 := HR.out.frozen 0
    have g1 := HR.out.frozen 1
    have lr := HR.out.lt
    go_wp2
    refine bodyPost_ret (results_tte rfl _ _ (w.heap.size + 1) 30 [.int .i64 0, .slice none 0 0] _ rfl ((HR.out.set 0 _).set 1 _) Tryd.underlying30 rfl (by rw [Tryd.sizeErr]; rfl)) rfl ?_
    exact ⟨r, d, .nil, _, rfl, rfl, HM.out, (HB.out.setCell (p := ⟨w.heap.size + 1, 0, none⟩) (by simp) _).setCell (p := ⟨w.heap.size + 1, 1, none⟩) (by simp) _⟩

set_option linter.unusedSimpArgs false in
set_option maxRecDepth 100000 in
set_option maxHeartbeats 8000000 in
theorem meet_loop {s0 s1 s2 s3 s4 s5 s6 s7 s11 s12 s13 s14 s15 s16 s17 s18 s19 s20 s21 s22 s23 s24 s25 s26 s27 s28 s29 s30 s31 s32 s33 s34 s35 s36 s37 s38 s39 s40 s41 s42 s43 s44 s45 s46 s47 s48 s49 s50 s51 s52 s53 s54 s55 s56 s57 s58 s59 s60 s61 s62 s63 s64 s65 s66 s67 s68 s69 s70 s71 : Value} {h : HierD} {s t : Int} {w wx : World} {ba bb : Nat} {D E : Nat → Option Int} (hr : Cells wx (w.heap.size + 1) 30 errZero) (hb : Below w.heap.size w wx)
    (ca : Cells wx ba 37 (distCells h.node.length D)) (cb : Cells wx bb 37 (distCells h.node.length E)) (hn : h.node.length ≤ 65536)
    (hD : ∀ r e, D r = some e → 0 ≤ e ∧ e ≤ r * 140737488355328) (hE : ∀ r e, E r = some e → 0 ≤ e ∧ e ≤ r * 140737488355328)
    (hw : ∀ r d, meetTo D E h.node.length = (r, d) → d ≠ 18446744073709551615 → MeetIs h s t r d .nil) (hnn : (meetTo D E h.node.length).2 = 18446744073709551615 → MeetIs h s t 0 0 (.code 16)) : Code.wp Tryd.prog (tailAt 2 meetBody) (bodyPost Tryd.prog Tryd.f62 (RMeetNew h s t w)) ⟨#[s0, s1, s2, s3, s4, s5, s6, s7, .pointer (some ⟨(w.heap.size + 1), 0, none⟩), .slice (some ⟨ba, 0, none⟩) h.node.length h.node.length, .slice (some ⟨bb, 0, none⟩) h.node.length h.node.length, s11, s12, s13, s14, s15, s16, s17, s18, s19, s20, s21, s22, s23, s24, s25, s26, s27, s28, s29, s30, s31, s32, s33, s34, s35, s36, s37, s38, s39, s40, s41, s42, s43, s44, s45, s46, s47, s48, s49, s50, s51, s52, s53, s54, s55, s56, s57, s58, s59, s60, s61, s62, s63, s64, s65, s66, s67, s68, s69, s70, s71], []⟩ wx := by
  have HR := Lib.hid hr
  have HB := Lib.hid hb
  have HW := Lib.hid hw
  have HN := Lib.hid hnn
  have HD := Lib.hid hD
  have HE := Lib.hid hE
  have CA := Lib.hid ca
  have CB := Lib.hid cb
  clear hr hb hw hnn hD hE ca cb
  conv => arg 2; whnf
  apply wp_seq_k
  intro K0 hK0
  have HK0 := Lib.hid hK0
  clear hK0
  go_wp2_with fail
  refine HK0.out _ _ ?_
  apply wp_seq_k
  intro KK hK
  have HKK := Lib.hid hK
  clear hK HK0
  go_wp2_with fail
  go_loopg [27, 11, 12] h.node.length (fun g vi v11 v12 wr => ∃ k : Nat, vi = .int .i64 k ∧ k ≤ h.node.length ∧ g = h.node.length - k ∧ v11 = .int .u64 (meetTo D E k).2 ∧ v12 = .int .i64 ((meetTo D E k).1 : Nat) ∧ Below wx.heap.size wx wr)
  case atStart => exact ⟨0, rfl, Nat.zero_le _, rfl, rfl, rfl, Below.refl _ _⟩
  case round =>
    obtain ⟨k, rfl, hk, hg, h11, h12, hbl⟩ := hrel
    obtain ⟨wo, rfl⟩ : ∃ wo : World, wo = wr := ⟨_, rfl⟩
    have hbd := meetTo_bnd (fun r d e => (HD.out r d e).1) (fun r d e => (HE.out r d e).1) k
    obtain ⟨⟨q, b⟩, hq⟩ : ∃ p, meetTo D E k = p := ⟨_, rfl⟩
    rw [hq] at h11 h12 hbd
    simp only at h11 h12 hbd
    subst h11 h12
    obtain ⟨hb1, hb2, hb3⟩ := hbd
    have HQ := Lib.hid hq
    have HG := Lib.hid hg
    have HBL := Lib.hid hbl
    clear hq hg hbl
    by_cases hlt : k < h.node.length
    · have a0 : wo.cell? ⟨ba, k, none⟩ = some (.int .u64 (farOf (D k))) := ck HBL.out (CA.out.cell (distCells_get hlt))
      have b0 : wo.cell? ⟨bb, k, none⟩ = some (.int .u64 (farOf (E k))) := ck HBL.out (CB.out.cell (distCells_get hlt))
      cases hDk : D k with
      | none =>
        have HST := Lib.hid (show meetTo D E (k + 1) = (q, b) from (meetTo_none (.inl hDk)).trans HQ.out)
        rw [hDk] at a0
        simp only [farOf] at a0
        clear hDk b0
        go_wp2_with fail
        go_quiet (fail)
        go_wp2_with fail
        go_roundg (h.node.length - (k + 1))
        case measure => rw [HG.out]; omega
        case rel => exact ⟨k + 1, by go_num, by omega, rfl, by rw [HST.out], by rw [HST.out], below_drewN HBL.out _⟩
      | some x =>
        have hx := HD.out k x hDk
        rw [hDk] at a0
        simp only [farOf] at a0
        have e1 : (x != 18446744073709551615) = true := by simp; omega
        cases hEk : E k with
        | none =>
          have HST := Lib.hid (show meetTo D E (k + 1) = (q, b) from (meetTo_none (.inr hEk)).trans HQ.out)
          rw [hEk] at b0
          simp only [farOf] at b0
          clear hDk hEk hx
          go_wp2_with fail
          go_quiet (fail)
          go_wp2_with fail
          go_roundg (h.node.length - (k + 1))
          case measure => rw [HG.out]; omega
          case rel => exact ⟨k + 1, by go_num, by omega, rfl, by rw [HST.out], by rw [HST.out], below_drewN HBL.out _⟩
        | some y =>
          have hy := HE.out k y hEk
          rw [hEk] at b0
          simp only [farOf] at b0
          have e2 : (y != 18446744073709551615) = true := by simp; omega
          have u1 : IntKind.u64.wrap (x + y) = x + y := IntWalk.u64_in _ (by omega)
          have hst := meetTo_step hDk hEk
          rw [HQ.out] at hst
          simp only at hst
          by_cases hl : x + y < b
          · have e3 : decide (x + y < b) = true := by simpa using hl
            rw [if_pos hl] at hst
            have HST := Lib.hid hst
            clear hDk hEk hx hy hst hl
            go_wp2_with fail
            go_quiet (fail)
            have a1 : (wo.drewN nq).cell? ⟨ba, k, none⟩ = some (.int .u64 x) := by simpa using a0
            have b1 : (wo.drewN nq).cell? ⟨bb, k, none⟩ = some (.int .u64 y) := by simpa using b0
            obtain ⟨wz, hwz⟩ : ∃ wz, wo.drewN nq = wz := ⟨_, rfl⟩
            have HBZ := Lib.hid (show Below wx.heap.size wx wz by rw [← hwz]; exact below_drewN HBL.out _)
            rw [hwz] at a1 b1 ⊢
            clear hwz a0 b0 HBL
            go_wp2_with fail
            go_quiet (fail)
            go_wp2_with fail
            go_roundg (h.node.length - (k + 1))
            case measure => rw [HG.out]; omega
            case rel => exact ⟨k + 1, by go_num, by omega, rfl, by rw [HST.out], by rw [HST.out], below_drewN HBZ.out _⟩
          · have e3 : decide (x + y < b) = false := by simpa using hl
            rw [if_neg hl] at hst
            have HST := Lib.hid hst
            clear hDk hEk hx hy hst hl
            go_wp2_with fail
            go_quiet (fail)
            go_wp2_with fail
            go_roundg (h.node.length - (k + 1))
            case measure => rw [HG.out]; omega
            case rel => exact ⟨k + 1, by go_num, by omega, rfl, by rw [HST.out], by rw [HST.out], below_drewN HBL.out _⟩
    · obtain rfl : k = h.node.length := by omega
      go_wp2_with fail
      refine HKK.out _ _ ?_
      change Code.wp _ (tailAt 4 meetBody) _ _ _
      exact meet_end (HR.out.below HBL.out HR.out.lt) (HB.out.trans (HBL.out.mono HB.out.size)) (HW.out q b HQ.out) (fun e => HN.out (by rw [HQ.out]; exact e))
end Go.Proofs.YtjbphoophgbmiaaDoor
