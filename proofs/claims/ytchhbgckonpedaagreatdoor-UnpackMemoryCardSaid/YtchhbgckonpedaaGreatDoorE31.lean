/- The reference's look at two nodes. -/
import Derived.Test.YtchhbgckonpedaaGreatDoorE28
import Derived.Test.YtchhbgckonpedaaGreatDoorE29
import Derived.Test.YtchhbgckonpedaaGreatDoorE30
import Derived.Deep.RegionHeld3
set_option linter.unusedSimpArgs false
set_option maxRecDepth 100000
set_option maxHeartbeats 8000000
namespace Go.Proofs.YtchhbgckonpedaaGreatDoor
open Go.ChangeShapes Go.WideShapes Go.ChangeAt Go.RowKit Go.Joins Go.Deep
theorem rnodes_any (A : HA) (h : HierD) (s t : Int) (w : World) :
  Calls Tryz.prog 74 #[hierVal A h, .int .i64 s, .int .i64 t] w (ErrNew (nodesErr h.node.length s t) w) := by
 have hx := (Cells.new w 25 (hierCells A h)).alloc (.cells errZero.toArray 36)
 have hr : Cells ((w.alloc (.cells (hierCells A h).toArray 25)).alloc (.cells errZero.toArray 36)) (w.heap.size + 1) 36 errZero := cells_at (by simp) 36 errZero
 have hb := ((Below.refl w.heap.size w).alloc (Nat.le_refl _) (.cells (hierCells A h).toArray 25)).alloc (by simp) (.cells errZero.toArray 36)
 have HR := Lib.hid hr
 have HB := Lib.hid hb
 clear hx hr hb
 unfold hierVal
 obtain ⟨E,hE⟩ : ∃ E,E = nodesErr h.node.length s t := ⟨_,rfl⟩
 rw [← hE]
 have HE := Lib.hid hE
 clear hE
 by_cases a_s : s < 0
 case pos =>
  have ds : decide (s < 0) = true := by simpa using a_s
  have HER := Lib.hid (show E = .at 3 0 7 by rw [HE.out]; unfold nodesErr; rw [if_pos (.inl a_s)])
  clear HE a_s
  go_enter Tryz.func74, Tryz.ntmps74
  go_wp2_with fail
  refine (e_any 7 _).mono ?_
  rintro e w1 ⟨v,rfl,hv,hb1⟩
  obtain rfl : v = _ := hv
  have HR1 := Lib.hid (HR.out.below hb1 HR.out.lt)
  have HB1 := Lib.hid (HB.out.trans (hb1.mono HB.out.size))
  clear hb1
  go_wp2_with fail
  refine (rat_any 3 0 7 _).mono ?_
  rintro e w2 ⟨v,rfl,hv,hb1⟩
  obtain ⟨uc,ua,un,ucap,rfl⟩ := hv.form
  have HR2 := Lib.hid (HR1.out.below hb1 HR1.out.lt)
  have HB2 := Lib.hid (HB1.out.trans (hb1.mono HB1.out.size))
  have HV := Lib.hid hv
  clear hb1 hv HR1 HB1 HR HB
  have z0 : w2.cell? ⟨w.heap.size + 1,0,none⟩ = some (.int .i64 0) := HR2.out.cell rfl
  have z1 : w2.cell? ⟨w.heap.size + 1,1,none⟩ = some (.slice none 0 0) := HR2.out.cell rfl
  have g0 := HR2.out.frozen 0
  have g1 := HR2.out.frozen 1
  have lr := HR2.out.lt
  go_wp2
  refine bodyPost_ret (results_e rfl _ _ (w.heap.size + 1) 36 [.int .i64 uc, .slice ua un ucap] _ rfl ((HR2.out.set 0 _).set 1 _) Tryz.underlying36 rfl (by rw [Tryz.sizeErr]; rfl)) rfl ?_
  rw [HER.out]
  exact ⟨_,rfl,HV.out.put HR2.out _ _,(HB2.out.setCell (p := ⟨w.heap.size + 1,0,none⟩) (by simp) _).setCell (p := ⟨w.heap.size + 1,1,none⟩) (by simp) _⟩
 have ds : decide (s < 0) = false := by simpa using a_s
 by_cases bs : (h.node.length : Int) ≤ s
 case pos =>
  have fs : decide ((h.node.length : Int) ≤ s) = true := by simpa using bs
  have HER := Lib.hid (show E = .at 3 0 7 by rw [HE.out]; unfold nodesErr; rw [if_pos (.inr bs)])
  clear HE a_s bs
  go_enter Tryz.func74, Tryz.ntmps74
  go_wp2_with fail
  refine (e_any 7 _).mono ?_
  rintro e w1 ⟨v,rfl,hv,hb1⟩
  obtain rfl : v = _ := hv
  have HR1 := Lib.hid (HR.out.below hb1 HR.out.lt)
  have HB1 := Lib.hid (HB.out.trans (hb1.mono HB.out.size))
  clear hb1
  go_wp2_with fail
  refine (rat_any 3 0 7 _).mono ?_
  rintro e w2 ⟨v,rfl,hv,hb1⟩
  obtain ⟨uc,ua,un,ucap,rfl⟩ := hv.form
  have HR2 := Lib.hid (HR1.out.below hb1 HR1.out.lt)
  have HB2 := Lib.hid (HB1.out.trans (hb1.mono HB1.out.size))
  have HV := Lib.hid hv
  clear hb1 hv HR1 HB1 HR HB
  have z0 : w2.cell? ⟨w.heap.size + 1,0,none⟩ = some (.int .i64 0) := HR2.out.cell rfl
  have z1 : w2.cell? ⟨w.heap.size + 1,1,none⟩ = some (.slice none 0 0) := HR2.out.cell rfl
  have g0 := HR2.out.frozen 0
  have g1 := HR2.out.frozen 1
  have lr := HR2.out.lt
  go_wp2
  refine bodyPost_ret (results_e rfl _ _ (w.heap.size + 1) 36 [.int .i64 uc, .slice ua un ucap] _ rfl ((HR2.out.set 0 _).set 1 _) Tryz.underlying36 rfl (by rw [Tryz.sizeErr]; rfl)) rfl ?_
  rw [HER.out]
  exact ⟨_,rfl,HV.out.put HR2.out _ _,(HB2.out.setCell (p := ⟨w.heap.size + 1,0,none⟩) (by simp) _).setCell (p := ⟨w.heap.size + 1,1,none⟩) (by simp) _⟩
 have fs : decide ((h.node.length : Int) ≤ s) = false := by simpa using bs
 have AS := Lib.hid (show ¬ (s < 0 ∨ (h.node.length : Int) ≤ s) by omega)
 clear a_s bs
 by_cases a_t : t < 0
 case pos =>
  have dt : decide (t < 0) = true := by simpa using a_t
  have HER := Lib.hid (show E = .at 3 1 7 by rw [HE.out]; unfold nodesErr; rw [if_neg AS.out]; rw [if_pos (.inl a_t)])
  clear HE a_t
  go_enter Tryz.func74, Tryz.ntmps74
  go_wp2_with fail
  refine (e_any 7 _).mono ?_
  rintro e w1 ⟨v,rfl,hv,hb1⟩
  obtain rfl : v = _ := hv
  have HR1 := Lib.hid (HR.out.below hb1 HR.out.lt)
  have HB1 := Lib.hid (HB.out.trans (hb1.mono HB.out.size))
  clear hb1
  go_wp2_with fail
  refine (rat_any 3 1 7 _).mono ?_
  rintro e w2 ⟨v,rfl,hv,hb1⟩
  obtain ⟨uc,ua,un,ucap,rfl⟩ := hv.form
  have HR2 := Lib.hid (HR1.out.below hb1 HR1.out.lt)
  have HB2 := Lib.hid (HB1.out.trans (hb1.mono HB1.out.size))
  have HV := Lib.hid hv
  clear hb1 hv HR1 HB1 HR HB
  have z0 : w2.cell? ⟨w.heap.size + 1,0,none⟩ = some (.int .i64 0) := HR2.out.cell rfl
  have z1 : w2.cell? ⟨w.heap.size + 1,1,none⟩ = some (.slice none 0 0) := HR2.out.cell rfl
  have g0 := HR2.out.frozen 0
  have g1 := HR2.out.frozen 1
  have lr := HR2.out.lt
  go_wp2
  refine bodyPost_ret (results_e rfl _ _ (w.heap.size + 1) 36 [.int .i64 uc, .slice ua un ucap] _ rfl ((HR2.out.set 0 _).set 1 _) Tryz.underlying36 rfl (by rw [Tryz.sizeErr]; rfl)) rfl ?_
  rw [HER.out]
  exact ⟨_,rfl,HV.out.put HR2.out _ _,(HB2.out.setCell (p := ⟨w.heap.size + 1,0,none⟩) (by simp) _).setCell (p := ⟨w.heap.size + 1,1,none⟩) (by simp) _⟩
 have dt : decide (t < 0) = false := by simpa using a_t
 by_cases bt : (h.node.length : Int) ≤ t
 case pos =>
  have ft : decide ((h.node.length : Int) ≤ t) = true := by simpa using bt
  have HER := Lib.hid (show E = .at 3 1 7 by rw [HE.out]; unfold nodesErr; rw [if_neg AS.out]; rw [if_pos (.inr bt)])
  clear HE a_t bt
  go_enter Tryz.func74, Tryz.ntmps74
  go_wp2_with fail
  refine (e_any 7 _).mono ?_
  rintro e w1 ⟨v,rfl,hv,hb1⟩
  obtain rfl : v = _ := hv
  have HR1 := Lib.hid (HR.out.below hb1 HR.out.lt)
  have HB1 := Lib.hid (HB.out.trans (hb1.mono HB.out.size))
  clear hb1
  go_wp2_with fail
  refine (rat_any 3 1 7 _).mono ?_
  rintro e w2 ⟨v,rfl,hv,hb1⟩
  obtain ⟨uc,ua,un,ucap,rfl⟩ := hv.form
  have HR2 := Lib.hid (HR1.out.below hb1 HR1.out.lt)
  have HB2 := Lib.hid (HB1.out.trans (hb1.mono HB1.out.size))
  have HV := Lib.hid hv
  clear hb1 hv HR1 HB1 HR HB
  have z0 : w2.cell? ⟨w.heap.size + 1,0,none⟩ = some (.int .i64 0) := HR2.out.cell rfl
  have z1 : w2.cell? ⟨w.heap.size + 1,1,none⟩ = some (.slice none 0 0) := HR2.out.cell rfl
  have g0 := HR2.out.frozen 0
  have g1 := HR2.out.frozen 1
  have lr := HR2.out.lt
  go_wp2
  refine bodyPost_ret (results_e rfl _ _ (w.heap.size + 1) 36 [.int .i64 uc, .slice ua un ucap] _ rfl ((HR2.out.set 0 _).set 1 _) Tryz.underlying36 rfl (by rw [Tryz.sizeErr]; rfl)) rfl ?_
  rw [HER.out]
  exact ⟨_,rfl,HV.out.put HR2.out _ _,(HB2.out.setCell (p := ⟨w.heap.size + 1,0,none⟩) (by simp) _).setCell (p := ⟨w.heap.size + 1,1,none⟩) (by simp) _⟩
 have ft : decide ((h.node.length : Int) ≤ t) = false := by simpa using bt
 have HER := Lib.hid (show E = .nil by rw [HE.out]; unfold nodesErr; rw [if_neg AS.out,if_neg (by omega)])
 clear HE a_t bt AS
 go_enter Tryz.func74, Tryz.ntmps74
 go_wp2
 refine bodyPost_ret (results_e rfl _ _ (w.heap.size + 1) 36 [.int .i64 0, .slice none 0 0] _ rfl HR.out Tryz.underlying36 rfl (by rw [Tryz.sizeErr]; rfl)) rfl ?_
 rw [HER.out]
 exact ⟨_,rfl,rfl,HB.out⟩
end Go.Proofs.YtchhbgckonpedaaGreatDoor
/- The reference's Meet: the end,the loop over the ranks. -/
namespace Go.Proofs.YtchhbgckonpedaaGreatDoor
open Go.ChangeShapes Go.WideShapes Go.ChangeAt Go.RowKit Go.Joins Go.Deep
theorem results_tte {P : Program} {fn : Func} {p q r : Tmp} {ty : TypeId} (h : fn.results = #[.tmp p, .tmp q, .cell r ty]) (tmps : Array Value) (w : World) (g : Nat) (t : TypeId) (cs : List Value) (d : TypeDesc)
  (hp : tmps.getD r undef = .pointer (some ⟨g,0,none⟩)) (hg : Cells w g t cs)
  (hu : P.underlying ty = some d) (hd : (match d with | .struct _ | .array _ _ => true | _ => false) = true) (hi : (P.info? ty).map (·.size) = some cs.length) :
  (results fn tmps).run P w = .ok (.tuple #[tmps.getD p undef,tmps.getD q undef, .agg cs.toArray]) w := by
 have hp' : tmps[r]?.getD undef = .pointer (some ⟨g,0,none⟩) := by simpa using hp
 have hr := run_loadVar_row (P := P) w g t ty cs.toArray (0,0) d hg hu hd (by simpa using hi)
 simp [results,h,hp',asAddr,hr]
theorem meetTo_none {D E : Nat → Option Int} {k : Nat} (h : D k = none ∨ E k = none) : meetTo D E (k + 1) = meetTo D E k :=
 meetTo_skip (m := k) 1 (fun q h1 h2 => (by have e : q = k := (by omega); subst e; exact h))
noncomputable def meetBody : Code := Tryz.f75.body.getD .skip
def RMeetNew (h : HierD) (s t : Int) (w : World) (e : Ending) (w' : World) : Prop :=
 ∃ (r : Nat) (d : Int) (x : EV) (v : Value),e = .returned (.tuple #[.int .i64 (r : Nat), .int .u64 d,v]) ∧ ErrV w' v x ∧ MeetIs h s t r d x ∧ Below w.heap.size w w'
theorem meet_end {s0 s1 s2 s3 s4 s5 s6 s7 s9 s10 s13 s14 s15 s16 s17 s18 s19 s20 s21 s22 s23 s24 s25 s26 s27 s28 s29 s30 s31 s32 s33 s34 s35 s36 s37 s38 s39 s40 s41 s42 s43 s44 s45 s46 s47 s48 s49 s50 s51 s52 s53 s54 s55 s56 s57 s58 s59 s60 s61 s62 s63 s64 s65 s66 s67 s68 s69 s70 s71 : Value} {h : HierD} {s t : Int} {w wx : World} {r : Nat} {d : Int} (hr : Cells wx (w.heap.size + 1) 36 errZero) (hb : Below w.heap.size w wx)
  (hw : d ≠ 18446744073709551615 → MeetIs h s t r d .nil) (hn : d = 18446744073709551615 → MeetIs h s t 0 0 (.code 16)) : Code.wp Tryz.prog (tailAt 4 meetBody) (bodyPost Tryz.prog Tryz.f75 (RMeetNew h s t w)) ⟨#[s0,s1,s2,s3,s4,s5,s6,s7, .pointer (some ⟨(w.heap.size + 1),0,none⟩),s9,s10, .int .u64 d, .int .i64 (r : Nat),s13,s14,s15,s16,s17,s18,s19,s20,s21,s22,s23,s24,s25,s26,s27,s28,s29,s30,s31,s32,s33,s34,s35,s36,s37,s38,s39,s40,s41,s42,s43,s44,s45,s46,s47,s48,s49,s50,s51,s52,s53,s54,s55,s56,s57,s58,s59,s60,s61,s62,s63,s64,s65,s66,s67,s68,s69,s70,s71], []⟩ wx := by
 have HR := Lib.hid hr
 have HB := Lib.hid hb
 have HW := Lib.hid hw
 have HN := Lib.hid hn
 clear hr hb hw hn
 conv => arg 2; whnf
 by_cases hd : d = 18446744073709551615
 ·have e1 : (d == 18446744073709551615) = true := by simp [hd]
  have HM := Lib.hid (HN.out hd)
  clear hd HN HW
  go_wp2_with fail
  refine (e_any 16 _).mono ?_
  rintro e w1 ⟨v,rfl,hv,hb⟩
  obtain rfl : v = _ := hv
  have HR1 := Lib.hid (HR.out.below hb HR.out.lt)
  have HB1 := Lib.hid (HB.out.trans (hb.mono HB.out.size))
  clear hb HR HB
  have z0 : w1.cell? ⟨w.heap.size + 1,0,none⟩ = some (.int .i64 0) := HR1.out.cell rfl
  have z1 : w1.cell? ⟨w.heap.size + 1,1,none⟩ = some (.slice none 0 0) := HR1.out.cell rfl
  have g0 := HR1.out.frozen 0
  have g1 := HR1.out.frozen 1
  have lr := HR1.out.lt
  go_wp2
  refine bodyPost_ret (results_tte rfl _ _ (w.heap.size + 1) 36 [.int .i64 16, .slice none 0 0] _ rfl ((HR1.out.set 0 _).set 1 _) Tryz.underlying36 rfl (by rw [Tryz.sizeErr]; rfl)) rfl ?_
  exact ⟨0,0, .code 16,_,rfl,rfl,HM.out,(HB1.out.setCell (p := ⟨w.heap.size + 1,0,none⟩) (by simp) _).setCell (p := ⟨w.heap.size + 1,1,none⟩) (by simp) _⟩
 ·have e1 : (d == 18446744073709551615) = false := by simp [hd]
  have HM := Lib.hid (HW.out hd)
  clear hd HN HW
  have z0 : wx.cell? ⟨w.heap.size + 1,0,none⟩ = some (.int .i64 0) := HR.out.cell rfl
  have z1 : wx.cell? ⟨w.heap.size + 1,1,none⟩ = some (.slice none 0 0) := HR.out.cell rfl
  have g0 := HR.out.frozen 0
  have g1 := HR.out.frozen 1
  have lr := HR.out.lt
  go_wp2
  refine bodyPost_ret (results_tte rfl _ _ (w.heap.size + 1) 36 [.int .i64 0, .slice none 0 0] _ rfl ((HR.out.set 0 _).set 1 _) Tryz.underlying36 rfl (by rw [Tryz.sizeErr]; rfl)) rfl ?_
  exact ⟨r,d, .nil,_,rfl,rfl,HM.out,(HB.out.setCell (p := ⟨w.heap.size + 1,0,none⟩) (by simp) _).setCell (p := ⟨w.heap.size + 1,1,none⟩) (by simp) _⟩
theorem meet_loop {s0 s1 s2 s3 s4 s5 s6 s7 s11 s12 s13 s14 s15 s16 s17 s18 s19 s20 s21 s22 s23 s24 s25 s26 s27 s28 s29 s30 s31 s32 s33 s34 s35 s36 s37 s38 s39 s40 s41 s42 s43 s44 s45 s46 s47 s48 s49 s50 s51 s52 s53 s54 s55 s56 s57 s58 s59 s60 s61 s62 s63 s64 s65 s66 s67 s68 s69 s70 s71 : Value} {h : HierD} {s t : Int} {w wx : World} {ba bb : Nat} {D E : Nat → Option Int} (hr : Cells wx (w.heap.size + 1) 36 errZero) (hb : Below w.heap.size w wx)
  (ca : Cells wx ba 45 (distCells h.node.length D)) (cb : Cells wx bb 45 (distCells h.node.length E)) (hn : h.node.length ≤ 65536)
  (hD : ∀ r e,D r = some e → 0 ≤ e ∧ e ≤ r * 140737488355328) (hE : ∀ r e,E r = some e → 0 ≤ e ∧ e ≤ r * 140737488355328)
  (hw : ∀ r d,meetTo D E h.node.length = (r,d) → d ≠ 18446744073709551615 → MeetIs h s t r d .nil) (hnn : (meetTo D E h.node.length).2 = 18446744073709551615 → MeetIs h s t 0 0 (.code 16)) : Code.wp Tryz.prog (tailAt 2 meetBody) (bodyPost Tryz.prog Tryz.f75 (RMeetNew h s t w)) ⟨#[s0,s1,s2,s3,s4,s5,s6,s7, .pointer (some ⟨(w.heap.size + 1),0,none⟩), .slice (some ⟨ba,0,none⟩) h.node.length h.node.length, .slice (some ⟨bb,0,none⟩) h.node.length h.node.length,s11,s12,s13,s14,s15,s16,s17,s18,s19,s20,s21,s22,s23,s24,s25,s26,s27,s28,s29,s30,s31,s32,s33,s34,s35,s36,s37,s38,s39,s40,s41,s42,s43,s44,s45,s46,s47,s48,s49,s50,s51,s52,s53,s54,s55,s56,s57,s58,s59,s60,s61,s62,s63,s64,s65,s66,s67,s68,s69,s70,s71], []⟩ wx := by
 have HR := Lib.hid hr
 have HB := Lib.hid hb
 have HW := Lib.hid hw
 have HN := Lib.hid hnn
 have HD := Lib.hid hD
 have HE := Lib.hid hE
 have CA := Lib.hid ca
 have CB := Lib.hid cb
 clear hr hb hw hnn hD hE ca cb
 conv => arg 2; whnf
 apply wp_seq_k
 intro K0 hK0
 have HK0 := Lib.hid hK0
 clear hK0
 go_wp2_with fail
 refine HK0.out _ _ ?_
 apply wp_seq_k
 intro KK hK
 have HKK := Lib.hid hK
 clear hK HK0
 go_wp2_with fail
 go_loopg [27,11,12] h.node.length (fun g vi v11 v12 wr => ∃ k : Nat,vi = .int .i64 k ∧ k ≤ h.node.length ∧ g = h.node.length - k ∧ v11 = .int .u64 (meetTo D E k).2 ∧ v12 = .int .i64 ((meetTo D E k).1 : Nat) ∧ Below wx.heap.size wx wr)
 case atStart => exact ⟨0,rfl,Nat.zero_le _,rfl,rfl,rfl,Below.refl _ _⟩
 case round =>
  obtain ⟨k,rfl,hk,hg,h11,h12,hbl⟩ := hrel
  obtain ⟨wo,rfl⟩ : ∃ wo : World,wo = wr := ⟨_,rfl⟩
  have hbd := meetTo_bnd (fun r d e => (HD.out r d e).1) (fun r d e => (HE.out r d e).1) k
  obtain ⟨⟨q,b⟩,hq⟩ : ∃ p,meetTo D E k = p := ⟨_,rfl⟩
  rw [hq] at h11 h12 hbd
  simp only at h11 h12 hbd
  subst h11 h12
  obtain ⟨hb1,hb2,hb3⟩ := hbd
  have HQ := Lib.hid hq
  have HG := Lib.hid hg
  have HBL := Lib.hid hbl
  clear hq hg hbl
  by_cases hlt : k < h.node.length
  ·have a0 : wo.cell? ⟨ba,k,none⟩ = some (.int .u64 (farOf (D k))) := ck HBL.out (CA.out.cell (distCells_get hlt))
   have b0 : wo.cell? ⟨bb,k,none⟩ = some (.int .u64 (farOf (E k))) := ck HBL.out (CB.out.cell (distCells_get hlt))
   cases hDk : D k with
   | none =>
    have HST := Lib.hid (show meetTo D E (k + 1) = (q,b) from (meetTo_none (.inl hDk)).trans HQ.out)
    rw [hDk] at a0
    simp only [farOf] at a0
    clear hDk b0
    go_wp2_with fail
    go_quiet (fail)
    go_wp2_with fail
    go_roundg (h.node.length - (k + 1))
    case measure => rw [HG.out]; omega
    case rel => exact ⟨k + 1,by go_num,by omega,rfl,by rw [HST.out],by rw [HST.out],below_drewN HBL.out _⟩
   | some x =>
    have hx := HD.out k x hDk
    rw [hDk] at a0
    simp only [farOf] at a0
    have e1 : (x != 18446744073709551615) = true := by simp; omega
    cases hEk : E k with
    | none =>
     have HST := Lib.hid (show meetTo D E (k + 1) = (q,b) from (meetTo_none (.inr hEk)).trans HQ.out)
     rw [hEk] at b0
     simp only [farOf] at b0
     clear hDk hEk hx
     go_wp2_with fail
     go_quiet (fail)
     go_wp2_with fail
     go_roundg (h.node.length - (k + 1))
     case measure => rw [HG.out]; omega
     case rel => exact ⟨k + 1,by go_num,by omega,rfl,by rw [HST.out],by rw [HST.out],below_drewN HBL.out _⟩
    | some y =>
     have hy := HE.out k y hEk
     rw [hEk] at b0
     simp only [farOf] at b0
     have e2 : (y != 18446744073709551615) = true := by simp; omega
     have u1 : IntKind.u64.wrap (x + y) = x + y := IntWalk.u64_in _ (by omega)
     have hst := meetTo_step hDk hEk
     rw [HQ.out] at hst
     simp only at hst
     by_cases hl : x + y < b
     ·have e3 : decide (x + y < b) = true := by simpa using hl
      rw [if_pos hl] at hst
      have HST := Lib.hid hst
      clear hDk hEk hx hy hst hl
      go_wp2_with fail
      go_quiet (fail)
      have a1 : (wo.drewN nq).cell? ⟨ba,k,none⟩ = some (.int .u64 x) := by simpa using a0
      have b1 : (wo.drewN nq).cell? ⟨bb,k,none⟩ = some (.int .u64 y) := by simpa using b0
      obtain ⟨wz,hwz⟩ : ∃ wz,wo.drewN nq = wz := ⟨_,rfl⟩
      have HBZ := Lib.hid (show Below wx.heap.size wx wz by rw [← hwz]; exact below_drewN HBL.out _)
      rw [hwz] at a1 b1 ⊢
      clear hwz a0 b0 HBL
      go_wp2_with fail
      go_quiet (fail)
      go_wp2_with fail
      go_roundg (h.node.length - (k + 1))
      case measure => rw [HG.out]; omega
      case rel => exact ⟨k + 1,by go_num,by omega,rfl,by rw [HST.out],by rw [HST.out],below_drewN HBZ.out _⟩
     ·have e3 : decide (x + y < b) = false := by simpa using hl
      rw [if_neg hl] at hst
      have HST := Lib.hid hst
      clear hDk hEk hx hy hst hl
      go_wp2_with fail
      go_quiet (fail)
      go_wp2_with fail
      go_roundg (h.node.length - (k + 1))
      case measure => rw [HG.out]; omega
      case rel => exact ⟨k + 1,by go_num,by omega,rfl,by rw [HST.out],by rw [HST.out],below_drewN HBL.out _⟩
  ·obtain rfl : k = h.node.length := by omega
   go_wp2_with fail
   refine HKK.out _ _ ?_
   change Code.wp _ (tailAt 4 meetBody) _ _ _
   exact meet_end (HR.out.below HBL.out HR.out.lt) (HB.out.trans (HBL.out.mono HB.out.size)) (HW.out q b HQ.out) (fun e => HN.out (by rw [HQ.out]; exact e))
theorem rrank_lit (A : HA) (h : HierD) (v : Nat) (w : World) (see : HSee w A h) (hv : v ∈ h.node) (hn : h.node.length ≤ 65536) : Calls Tryz.prog 98 #[.agg #[.slice A.a0 h.node.length A.c0, .slice A.a1 h.upF.length A.c1, .slice A.a2 h.up.length A.c2, .slice A.a3 h.dnF.length A.c3, .slice A.a4 h.dn.length A.c4], .int .i64 v] w (IntIs (h.node.idxOf v) w) := rrank_any A h v w see hv hn
theorem rdists_lit (A : HA) (h : HierD) (s : Nat) (w : World) (see : HSee w A h) (u : FirstsOk h.node.length h.upF h.up.length) (ok : HalfOk h.node.length h.upF h.up) (hn : h.node.length ≤ 65536) (hu : h.up.length ≤ 1048576) (hs : s < h.node.length) :
  Calls Tryz.prog 97 #[.agg #[.slice A.a0 h.node.length A.c0, .slice A.a1 h.upF.length A.c1, .slice A.a2 h.up.length A.c2, .slice A.a3 h.dnF.length A.c3, .slice A.a4 h.dn.length A.c4], .int .i64 s] w (DistNew h.node.length (distsK h.upF h.up s h.node.length) w) := rdists_any A h s w see u ok hn hu hs
theorem rturn_lit (A : HA) (h : HierD) (w : World) (see : HSee w A h) (hr : Reach5 h) (htot : h.up.length + h.dn.length ≤ 1048576) : Calls Tryz.prog 99 #[.agg #[.slice A.a0 h.node.length A.c0, .slice A.a1 h.upF.length A.c1, .slice A.a2 h.up.length A.c2, .slice A.a3 h.dnF.length A.c3, .slice A.a4 h.dn.length A.c4]] w (HierNew (turnD h) w) := rturn_any A h w see hr htot
theorem rdists_turn (A : HA) (h : HierD) (s : Nat) (w : World) (see : HSee w A (turnD h)) (u : FirstsOk (turnD h).node.length (turnD h).upF (turnD h).up.length) (ok : HalfOk (turnD h).node.length (turnD h).upF (turnD h).up) (hn : h.node.length ≤ 65536) (hu : h.dn.length ≤ 1048576) (hs : s < h.node.length) :
  Calls Tryz.prog 97 #[hierVal A (turnD h), .int .i64 s] w (DistNew h.node.length (distsK h.dnF (h.dn.map (turnLink h.up.length h.dn.length)) s h.node.length) w) := rdists_any A (turnD h) s w see u ok hn (by simpa [turnD] using hu) hs
theorem meet_calls {s0 s4 s5 s6 s7 s9 s10 s11 s12 s13 s14 s15 s16 s17 s18 s19 s20 s21 s22 s23 s24 s25 s26 s27 s28 s29 s30 s31 s32 s33 s34 s35 s36 s37 s38 s39 s40 s41 s42 s43 s44 s45 s46 s47 s48 s49 s50 s51 s52 s53 s54 s55 s56 s57 s58 s59 s60 s61 s62 s63 s64 s65 s66 s67 s68 s69 s70 s71 : Value} {A : HA} {h : HierD} {s t : Nat} {w wx : World} (k : DK A h w wx) (see : HSee w A h) (hc : checkErr h = .nil) (htot : h.up.length + h.dn.length ≤ 1048576) (hs : s < h.node.length) (ht : t < h.node.length) :
  Code.wp Tryz.prog (tailAt 1 meetBody) (bodyPost Tryz.prog Tryz.f75 (RMeetNew h s t w)) ⟨#[s0, .int .i64 (s : Nat), .int .i64 (t : Nat), .pointer (some ⟨w.heap.size,0,none⟩),s4,s5,s6,s7, .pointer (some ⟨(w.heap.size + 1),0,none⟩),s9,s10,s11,s12,s13,s14,s15,s16,s17,s18,s19,s20,s21,s22,s23,s24,s25,s26,s27,s28,s29,s30,s31,s32,s33,s34,s35,s36,s37,s38,s39,s40,s41,s42,s43,s44,s45,s46,s47,s48,s49,s50,s51,s52,s53,s54,s55,s56,s57,s58,s59,s60,s61,s62,s63,s64,s65,s66,s67,s68,s69,s70,s71], []⟩ wx := by
 have hp := checkErr_parts hc
 have hcT := turn_ok hc htot
 have hpT := checkErr_parts hcT
 have hn := hp.1.n
 have ord := order_nil hp.2.2.2.1
 have u := firsts_nil hp.1.u hp.2.1
 have uT := firsts_nil hpT.1.u hpT.2.1
 have ok := half_up hc
 have okT := half_up hcT
 have okD := half_dn hc
 have hms := ord.mem s hs
 have hmt := ord.mem t ht
 have his : h.node.idxOf s < h.node.length := List.idxOf_lt_length_of_mem hms
 have hit : h.node.idxOf t < h.node.length := List.idxOf_lt_length_of_mem hmt
 have hreach : Reach5 h := ⟨by omega,by have := hp.1.u; omega,by omega,by have := hp.1.d; omega,by omega⟩
 have hkk : nodesErr h.node.length (s : Nat) (t : Nat) = .nil := nodesErr_nil.2 ⟨⟨by omega,by omega⟩,by omega,by omega⟩
 have hu20 : h.up.length ≤ 1048576 := by omega
 have hd20 : h.dn.length ≤ 1048576 := by omega
 have K := Lib.hid k
 have SEE := Lib.hid see
 have HC := Lib.hid hc
 have HKN := Lib.hid hkk
 have UOK := Lib.hid u
 have UT := Lib.hid uT
 have OK := Lib.hid ok
 have OKT := Lib.hid okT
 have OKD := Lib.hid okD
 have HMS := Lib.hid hms
 have HMT := Lib.hid hmt
 have HRE := Lib.hid hreach
 obtain ⟨is,hie⟩ : ∃ is,h.node.idxOf s = is := ⟨_,rfl⟩
 obtain ⟨it,hje⟩ : ∃ it,h.node.idxOf t = it := ⟨_,rfl⟩
 rw [hie] at his
 rw [hje] at hit
 have HIE := Lib.hid hie
 have HJE := Lib.hid hje
 obtain ⟨k0,k1,k2,k3,k4⟩ := hier_five k.x
 clear k see hc hkk u uT ok okT okD hms hmt hreach hp hpT hcT ord hie hje
 conv => arg 2; whnf
 apply wp_seq_k
 intro KK hK
 have HKK := Lib.hid hK
 clear hK
 go_region_held3 (fun W => W.cell? ⟨w.heap.size,0,none⟩ = some (.slice A.a0 h.node.length A.c0) ∧ W.cell? ⟨w.heap.size,1,none⟩ = some (.slice A.a1 h.upF.length A.c1) ∧ W.cell? ⟨w.heap.size,2,none⟩ = some (.slice A.a2 h.up.length A.c2) ∧ W.cell? ⟨w.heap.size,3,none⟩ = some (.slice A.a3 h.dnF.length A.c3) ∧ W.cell? ⟨w.heap.size,4,none⟩ = some (.slice A.a4 h.dn.length A.c4)) (go_keep)
  (first
  | (go_at_call 98; (with_reducible refine (rrank_lit A h s _ ?_ HMS.out hn).mono ?_); exact (SEE.out.below K.out.b.drew); rintro e w1 ⟨rfl,h1⟩; rw [HIE.out]; (have a0 := ck h1 k0); (have a1 := ck h1 k1); (have a2 := ck h1 k2); (have a3 := ck h1 k3); (have a4 := ck h1 k4))
  | (go_at_call 97; (with_reducible refine (rdists_lit A h is _ ?_ UOK.out OK.out hn hu20 his).mono ?_); exact (SEE.out.below (K.out.b.drew.trans (h1.mono K.out.b.size))); rintro e w2 ⟨ba,rfl,ca,la,h2⟩; (have b0 := ck h2 a0); (have b1 := ck h2 a1); (have b2 := ck h2 a2); (have b3 := ck h2 a3); (have b4 := ck h2 a4))
  | (go_at_call 99; (with_reducible refine (rturn_lit A h _ ?_ HRE.out htot).mono ?_); exact (SEE.out.below ((K.out.b.drew.trans (h1.mono K.out.b.size)).trans (h2.mono (K.out.b.drew.trans (h1.mono K.out.b.size)).size))); rintro e w3 ⟨A',rfl,see3,form3,h3⟩; (have c0 := ck h3 b0); (have c1 := ck h3 b1); (have c2 := ck h3 b2); (have c3 := ck h3 b3); (have c4 := ck h3 b4); (have S3 := Lib.hid see3); (have CA := Lib.hid (ca.below h3 ca.lt)); clear see3 ca form3)
  | (go_at_call 98; (with_reducible refine (rrank_lit A h t _ ?_ HMT.out hn).mono ?_); exact (SEE.out.below (((K.out.b.drew.trans (h1.mono K.out.b.size)).trans (h2.mono (K.out.b.drew.trans (h1.mono K.out.b.size)).size)).trans (h3.mono ((K.out.b.drew.trans (h1.mono K.out.b.size)).trans (h2.mono (K.out.b.drew.trans (h1.mono K.out.b.size)).size)).size))); rintro e w4 ⟨rfl,h4⟩; rw [HJE.out]; (have d0 := ck h4 c0); (have d1 := ck h4 c1); (have d2 := ck h4 c2); (have d3 := ck h4 c3); (have d4 := ck h4 c4))
  | (go_at_call 97; (with_reducible refine (rdists_turn A' h it _ ?_ UT.out OKT.out hn hd20 hit).mono ?_); exact (S3.out.below h4); rintro e w5 ⟨bb,rfl,cb,lb,h5⟩; (have e0 := ck h5 d0); (have e1 := ck h5 d1); (have e2 := ck h5 d2); (have e3 := ck h5 d3); (have e4 := ck h5 d4); (have CB := Lib.hid cb); clear cb))
 try dsimp only [Exit.then]
 refine HKK.out _ _ ?_
 change Code.wp _ (tailAt 2 meetBody) _ _ _
 have ka := (K.out.below (Below.refl _ _).drew).below h1
 have kb := ka.below h2
 have kc := kb.below h3
 have kd := (kc.below h4).below h5
 have hDI := dists_isD OK.out his
 have hEI := dists_isD OKT.out (show it < (turnD h).node.length from hit)
 have hEI2 : IsD h.node.length h.dnF h.dn it (distsK h.dnF (h.dn.map (turnLink h.up.length h.dn.length)) it h.node.length) := (IsD.turn (turnLink h.up.length h.dn.length) (fun _ => rfl) (fun _ => rfl)).1 hEI
 have hDI' := hDI
 have hEI' := hEI2
 rw [← HIE.out] at hDI'
 rw [← HJE.out] at hEI'
 refine meet_loop kd.r kd.b ((CA.out.below h4 CA.out.lt).below h5 (CA.out.below h4 CA.out.lt).lt) CB.out hn (hDI.bnd OK.out) (hEI2.bnd OKD.out) (fun r d hm hd => ?_) (fun hd => ?_)
 ·rw [HIE.out] at hDI'
  rw [HJE.out] at hEI'
  exact .walk _ _ r d HC.out HKN.out (by rw [Int.toNat_natCast,HIE.out]; exact hDI) (by rw [Int.toNat_natCast,HJE.out]; exact hEI2) hm hd
 ·exact .none _ _ HC.out HKN.out (by rw [Int.toNat_natCast,HIE.out]; exact hDI) (by rw [Int.toNat_natCast,HJE.out]; exact hEI2) hd
theorem rmeet_any (A : HA) (h : HierD) (s t : Nat) (w : World) (see : HSee w A h) (hc : checkErr h = .nil) (htot : h.up.length + h.dn.length ≤ 1048576) (hs : s < h.node.length) (ht : t < h.node.length) :
  Calls Tryz.prog 75 #[hierVal A h, .int .i64 (s : Nat), .int .i64 (t : Nat)] w (RMeetNew h s t w) := by
 have SEE := Lib.hid see
 have HC := Lib.hid hc
 have hb0 := ((Below.refl w.heap.size w).alloc (Nat.le_refl _) (.cells (hierCells A h).toArray 25)).alloc (by simp) (.cells errZero.toArray 36)
 have K := Lib.hid (DK.mk (A := A) (h := h) ((Cells.new w 25 (hierCells A h)).alloc (.cells errZero.toArray 36)) (cells_at (by simp) 36 errZero) hb0)
 clear see hb0 hc
 unfold hierVal
 go_enter Tryz.func75, Tryz.ntmps75
 apply wp_seq_k
 intro K1 hK
 have HK1 := Lib.hid hK
 clear hK
 go_wp2_with fail
 refine HK1.out _ _ ?_
 change Code.wp _ (tailAt 1 meetBody) _ _ _
 exact meet_calls K.out SEE.out HC.out htot hs ht
end Go.Proofs.YtchhbgckonpedaaGreatDoor
/- The reference's DocMeet. -/
namespace Go.Proofs.YtchhbgckonpedaaGreatDoor
open Go.ChangeShapes Go.WideShapes Go.ChangeAt Go.RowKit Go.Joins Go.Deep
noncomputable def docMeetBody : Code := Tryz.f49.body.getD .skip
theorem docmeet_c {s0 s4 s5 s6 s7 s9 s10 s11 s12 s13 s14 s15 s16 s17 s18 s19 s20 s21 s22 s23 s24 s25 s26 s27 s28 s29 : Value} {A : HA} {h : HierD} {s t : Int} {w wx : World} (k : DK A h w wx) (see : HSee w A h) (hc : checkErr h = .nil) (hk : nodesErr h.node.length s t = .nil) (htot : h.up.length + h.dn.length ≤ 1048576) :
  Code.wp Tryz.prog (tailAt 3 docMeetBody) (bodyPost Tryz.prog Tryz.f49 (RMeetNew h s t w)) ⟨#[s0, .int .i64 s, .int .i64 t, .pointer (some ⟨w.heap.size,0,none⟩),s4,s5,s6,s7, .pointer (some ⟨(w.heap.size + 1),0,none⟩),s9,s10,s11,s12,s13,s14,s15,s16,s17,s18,s19,s20,s21,s22,s23,s24,s25,s26,s27,s28,s29], []⟩ wx := by
 obtain ⟨⟨hs0,hs1⟩,ht0,ht1⟩ := nodesErr_nil.1 hk
 obtain ⟨sn,rfl⟩ : ∃ sn : Nat,s = sn := ⟨s.toNat,by omega⟩
 obtain ⟨tn,rfl⟩ : ∃ tn : Nat,t = tn := ⟨t.toNat,by omega⟩
 have K := Lib.hid k
 have SEE := Lib.hid see
 have HC := Lib.hid hc
 obtain ⟨k0,k1,k2,k3,k4⟩ := hier_five k.x
 clear k see hc hk
 conv => arg 2; whnf
 go_wp2_with fail
 refine (rmeet_any A h sn tn _ (SEE.out.below K.out.b) HC.out htot (by omega) (by omega)).mono ?_
 rintro e w1 ⟨r,d,x,v,rfl,hv,hm,hb⟩
 obtain ⟨uc,ua,un,ucap,rfl⟩ := hv.form
 have K1 := Lib.hid (K.out.below hb)
 have HV := Lib.hid hv
 have HM := Lib.hid hm
 clear hb hv hm K k0 k1 k2 k3 k4
 have z0 : w1.cell? ⟨w.heap.size + 1,0,none⟩ = some (.int .i64 0) := K1.out.r.cell rfl
 have z1 : w1.cell? ⟨w.heap.size + 1,1,none⟩ = some (.slice none 0 0) := K1.out.r.cell rfl
 have g0 := K1.out.r.frozen 0
 have g1 := K1.out.r.frozen 1
 have lr := K1.out.r.lt
 go_wp2
 refine bodyPost_ret (results_tte rfl _ _ (w.heap.size + 1) 36 [.int .i64 uc, .slice ua un ucap] _ rfl ((K1.out.r.set 0 _).set 1 _) Tryz.underlying36 rfl (by rw [Tryz.sizeErr]; rfl)) rfl ?_
 exact ⟨r,d,x,_,rfl,HV.out.put K1.out.r _ _,HM.out,(K1.out.b.setCell (p := ⟨w.heap.size + 1,0,none⟩) (by simp) _).setCell (p := ⟨w.heap.size + 1,1,none⟩) (by simp) _⟩
theorem nodesErr_pos (n : Nat) (s t : Int) : (nodesErr n s t).pos := by
 unfold nodesErr
 split
 ·simp [EV.pos]
 ·split <;> simp [EV.pos]
theorem linksGo_pos (n ups : Nat) (all : List EndD) : ∀ k,(linksGo n ups all k).pos := by
 intro k
 induction k with
 | zero => simp [linksGo,EV.pos]
 | succ k ih =>
  unfold linksGo
  split
  ·split
   ·simp [EV.pos]
   ·split <;> simp [EV.pos]
  ·exact ih
theorem orderGo_pos (l : List Nat) : ∀ k,(orderGo l k).pos := by
 intro k
 induction k with
 | zero => simp [orderGo,EV.pos]
 | succ k ih =>
  unfold orderGo
  split
  ·split <;> simp [EV.pos]
  ·exact ih
theorem checkErr_pos (h : HierD) : (checkErr h).pos := by
 unfold checkErr
 split
 ·simp [EV.pos]
 ·split
  ·simp [EV.pos]
  ·split
   ·split
    ·split
     ·exact linksGo_pos _ _ _ _
     ·exact orderGo_pos _ _
    ·exact firstsErr_pos _ _
   ·exact firstsErr_pos _ _
theorem docmeet_b {s0 s4 s5 s6 s7 s9 s10 s11 s12 s13 s14 s15 s16 s17 s18 s19 s20 s21 s22 s23 s24 s25 s26 s27 s28 s29 : Value} {A : HA} {h : HierD} {s t : Int} {w wx : World} (k : DK A h w wx) (see : HSee w A h) (hc : checkErr h = .nil) (htot : h.up.length + h.dn.length ≤ 1048576) :
  Code.wp Tryz.prog (tailAt 2 docMeetBody) (bodyPost Tryz.prog Tryz.f49 (RMeetNew h s t w)) ⟨#[s0, .int .i64 s, .int .i64 t, .pointer (some ⟨w.heap.size,0,none⟩),s4,s5,s6,s7, .pointer (some ⟨(w.heap.size + 1),0,none⟩),s9,s10,s11,s12,s13,s14,s15,s16,s17,s18,s19,s20,s21,s22,s23,s24,s25,s26,s27,s28,s29], []⟩ wx := by
 have K := Lib.hid k
 have SEE := Lib.hid see
 obtain ⟨k0,k1,k2,k3,k4⟩ := hier_five k.x
 clear k see
 conv => arg 2; whnf
 apply wp_seq_k
 intro KK hK
 have HKK := Lib.hid hK
 clear hK
 go_wp2_with fail
 refine (rnodes_any A h s t _).mono ?_
 rintro e w1 ⟨v,rfl,hv,hb⟩
 obtain ⟨uc,ua,un,ucap,rfl⟩ := hv.form
 have ho := (Below.refl w1.heap.size w1).alloc (Nat.le_refl _) (.cells #[.int .i64 uc, .slice ua un ucap] 36)
 have K1 := Lib.hid ((K.out.below hb).below ho)
 have HV1 := Lib.hid (hv.below ho)
 have HC1 := Lib.hid (Cells.new w1 36 [.int .i64 uc, .slice ua un ucap])
 clear K hb hv k0 k1 k2 k3 k4 ho
 go_wp2_with fail
 refine (bad_any _ (nodesErr h.node.length s t) _ HV1.out (nodesErr_pos _ _ _)).mono ?_
 rintro e w2 ⟨rfl,hb⟩
 have K2 := Lib.hid (K1.out.below hb)
 have HV2 := Lib.hid (HV1.out.below hb)
 have HC2 := Lib.hid (HC1.out.below hb HC1.out.lt)
 obtain ⟨b9,hb9⟩ : ∃ b9,w1.heap.size = b9 := ⟨_,rfl⟩
 rw [hb9] at HC2 ⊢
 clear K1 HV1 HC1 hb hb9
 cases hnil : (nodesErr h.node.length s t).isNil
 ·have HNE := Lib.hid (show nodesErr h.node.length s t ≠ .nil from fun e => by rw [e] at hnil; simp [EV.isNil] at hnil)
  clear hnil
  have y0 : w2.cell? ⟨b9,0,none⟩ = some (.int .i64 uc) := HC2.out.cell rfl
  have y1 : w2.cell? ⟨b9,1,none⟩ = some (.slice ua un ucap) := HC2.out.cell rfl
  have z0 : w2.cell? ⟨w.heap.size + 1,0,none⟩ = some (.int .i64 0) := K2.out.r.cell rfl
  have z1 : w2.cell? ⟨w.heap.size + 1,1,none⟩ = some (.slice none 0 0) := K2.out.r.cell rfl
  have g0 := K2.out.r.frozen 0
  have g1 := K2.out.r.frozen 1
  have lr := K2.out.r.lt
  go_wp2_with fail
  go_region
  all_goals (try dsimp only [Exit.then])
  all_goals go_wp2_with fail
  all_goals refine bodyPost_ret (results_tte rfl _ _ (w.heap.size + 1) 36 [.int .i64 uc, .slice ua un ucap] _ rfl ((K2.out.r.drew.set 0 _).set 1 _) Tryz.underlying36 rfl (by rw [Tryz.sizeErr]; rfl)) rfl ?_
  all_goals exact ⟨0,0,nodesErr h.node.length s t,_,rfl,(HV2.out.below (Below.refl _ _).drew).put K2.out.r.drew _ _, .nodes hc HNE.out,((K2.out.b.drew).setCell (p := ⟨w.heap.size + 1,0,none⟩) (by simp) _).setCell (p := ⟨w.heap.size + 1,1,none⟩) (by simp) _⟩
 ·have HN := Lib.hid (EV.isNil_iff.1 hnil)
  clear hnil
  go_wp2_with fail
  refine HKK.out _ _ ?_
  change Code.wp _ (tailAt 3 docMeetBody) _ _ _
  exact docmeet_c K2.out SEE.out hc HN.out htot
theorem docmeet_a {s0 s4 s5 s6 s7 s9 s10 s11 s12 s13 s14 s15 s16 s17 s18 s19 s20 s21 s22 s23 s24 s25 s26 s27 s28 s29 : Value} {A : HA} {h : HierD} {s t : Int} {w wx : World} (k : DK A h w wx) (see : HSee w A h) (hk1 : h.up.length ≤ 140737488355328) (hk2 : h.dn.length ≤ 140737488355328) (hn64 : h.node.length ≤ 140737488355328) :
  Code.wp Tryz.prog (tailAt 1 docMeetBody) (bodyPost Tryz.prog Tryz.f49 (RMeetNew h s t w)) ⟨#[s0, .int .i64 s, .int .i64 t, .pointer (some ⟨w.heap.size,0,none⟩),s4,s5,s6,s7, .pointer (some ⟨(w.heap.size + 1),0,none⟩),s9,s10,s11,s12,s13,s14,s15,s16,s17,s18,s19,s20,s21,s22,s23,s24,s25,s26,s27,s28,s29], []⟩ wx := by
 have K := Lib.hid k
 have SEE := Lib.hid see
 obtain ⟨k0,k1,k2,k3,k4⟩ := hier_five k.x
 clear k see
 conv => arg 2; whnf
 apply wp_seq_k
 intro KK hK
 have HKK := Lib.hid hK
 clear hK
 go_wp2_with fail
 refine (rdoccheck_any A h _ (SEE.out.below K.out.b) hk1 hk2 hn64).mono ?_
 rintro e w1 ⟨v,rfl,hv,hb⟩
 obtain ⟨uc,ua,un,ucap,rfl⟩ := hv.form
 have ho := (Below.refl w1.heap.size w1).alloc (Nat.le_refl _) (.cells #[.int .i64 uc, .slice ua un ucap] 36)
 have K1 := Lib.hid ((K.out.below hb).below ho)
 have HV1 := Lib.hid (hv.below ho)
 have HC1 := Lib.hid (Cells.new w1 36 [.int .i64 uc, .slice ua un ucap])
 clear K hb hv k0 k1 k2 k3 k4 ho
 go_wp2_with fail
 refine (bad_any _ (checkErr h) _ HV1.out (checkErr_pos h)).mono ?_
 rintro e w2 ⟨rfl,hb⟩
 have K2 := Lib.hid (K1.out.below hb)
 have HV2 := Lib.hid (HV1.out.below hb)
 have HC2 := Lib.hid (HC1.out.below hb HC1.out.lt)
 obtain ⟨b9,hb9⟩ : ∃ b9,w1.heap.size = b9 := ⟨_,rfl⟩
 rw [hb9] at HC2 ⊢
 clear K1 HV1 HC1 hb hb9
 cases hnil : (checkErr h).isNil
 ·have HNE := Lib.hid (show checkErr h ≠ .nil from fun e => by rw [e] at hnil; simp [EV.isNil] at hnil)
  clear hnil
  have y0 : w2.cell? ⟨b9,0,none⟩ = some (.int .i64 uc) := HC2.out.cell rfl
  have y1 : w2.cell? ⟨b9,1,none⟩ = some (.slice ua un ucap) := HC2.out.cell rfl
  have z0 : w2.cell? ⟨w.heap.size + 1,0,none⟩ = some (.int .i64 0) := K2.out.r.cell rfl
  have z1 : w2.cell? ⟨w.heap.size + 1,1,none⟩ = some (.slice none 0 0) := K2.out.r.cell rfl
  have g0 := K2.out.r.frozen 0
  have g1 := K2.out.r.frozen 1
  have lr := K2.out.r.lt
  go_wp2_with fail
  go_region
  all_goals (try dsimp only [Exit.then])
  all_goals go_wp2_with fail
  all_goals refine bodyPost_ret (results_tte rfl _ _ (w.heap.size + 1) 36 [.int .i64 uc, .slice ua un ucap] _ rfl ((K2.out.r.drew.set 0 _).set 1 _) Tryz.underlying36 rfl (by rw [Tryz.sizeErr]; rfl)) rfl ?_
  all_goals exact ⟨0,0,checkErr h,_,rfl,(HV2.out.below (Below.refl _ _).drew).put K2.out.r.drew _ _, .form HNE.out,((K2.out.b.drew).setCell (p := ⟨w.heap.size + 1,0,none⟩) (by simp) _).setCell (p := ⟨w.heap.size + 1,1,none⟩) (by simp) _⟩
 ·have HN := Lib.hid (EV.isNil_iff.1 hnil)
  clear hnil
  go_wp2_with fail
  refine HKK.out _ _ ?_
  change Code.wp _ (tailAt 2 docMeetBody) _ _ _
  have hp := checkErr_parts HN.out
  exact docmeet_b K2.out SEE.out HN.out (hp.1.total SEE.out (firsts_nil hp.1.u hp.2.1) (firsts_nil hp.1.d hp.2.2.1))
theorem rdocmeet_any (A : HA) (h : HierD) (s t : Int) (w : World) (see : HSee w A h) (hk1 : h.up.length ≤ 140737488355328) (hk2 : h.dn.length ≤ 140737488355328) (hn64 : h.node.length ≤ 140737488355328) :
  Calls Tryz.prog 49 #[hierVal A h, .int .i64 s, .int .i64 t] w (RMeetNew h s t w) := by
 have SEE := Lib.hid see
 have hb0 := ((Below.refl w.heap.size w).alloc (Nat.le_refl _) (.cells (hierCells A h).toArray 25)).alloc (by simp) (.cells errZero.toArray 36)
 have K := Lib.hid (DK.mk (A := A) (h := h) ((Cells.new w 25 (hierCells A h)).alloc (.cells errZero.toArray 36)) (cells_at (by simp) 36 errZero) hb0)
 clear see hb0
 unfold hierVal
 go_enter Tryz.func49, Tryz.ntmps49
 apply wp_seq_k
 intro K1 hK
 have HK1 := Lib.hid hK
 clear hK
 go_wp2_with fail
 refine HK1.out _ _ ?_
 change Code.wp _ (tailAt 1 docMeetBody) _ _ _
 exact docmeet_a K.out SEE.out hk1 hk2 hn64
end Go.Proofs.YtchhbgckonpedaaGreatDoor
