/- The reference's Above: its last loops. -/
import Derived.Test.YtjbphoophgbmiaaDoorM19
namespace Go.Proofs.YtjbphoophgbmiaaDoor
open Go.ChangeShapes Go.WideShapes Go.ChangeAt Go.RowKit Go.Joins Go.Deep

noncomputable def rabBody : Code := Tryd.f56.body.getD .skip

/-- What the reference's Above answers: a square of its own, which tells all ways above a rank. -/
def RAboveNew (h : HierD) (lo : Nat) (w : World) (e : Ending) (w' : World) : Prop := ∃ bm rb, e = .returned (.slice (some ⟨bm, 0, none⟩) h.node.length h.node.length) ∧ MRep h.node.length (fun a b => farOf (aboveM h lo a b)) bm rb w' ∧ w.heap.size ≤ bm ∧ Below w.heap.size w w'
theorem pow_le14 {c : Nat} (h : c ≤ 14) : (2 : Int) ^ c * 140737488355328 ≤ 2305843009213693952 := by
  have h1 : (2 : Nat) ^ c ≤ 2 ^ 14 := Nat.pow_le_pow_right (by decide) h
  have h2 : ((2 ^ c : Nat) : Int) ≤ ((2 ^ 14 : Nat) : Int) := by exact_mod_cast h1
  rw [Int.natCast_pow] at h2
  have h3 : ((2 ^ 14 : Nat) : Int) = 16384 := by decide
  have h4 : ((2 : Nat) : Int) ^ c = (2 : Int) ^ c := rfl
  omega
set_option linter.unusedSimpArgs false in
set_option maxRecDepth 100000 in
set_option maxHeartbeats 8000000 in
theorem rab_fw {s0 s2 s3 s4 s7 s8 s9 s10 s11 s12 s13 s14 s15 s16 s17 s18 s19 s20 s21 s22 s23 s24 s25 s26 s27 s28 s29 s30 s31 s32 s33 s34 s35 s36 s37 s38 s39 s40 s41 s42 s43 s44 s45 s46 s47 s48 s49 s50 s51 s52 s53 s54 s55 s56 s57 s58 s59 s60 s61 s62 s63 s64 s65 s66 s67 s68 s69 s70 s71 s72 s73 s74 s75 s76 s77 s78 s79 s80 s81 s82 s83 s84 s85 s86 s87 s88 s89 s90 s91 s92 s93 s94 s95 s96 s97 s98 s99 s100 s101 s102 s103 s104 s105 s106 s107 s108 s109 s110 s111 s112 s113 s114 s115 s116 s117 s118 s119 s120 s121 s122 s123 s124 s125 s126 s127 s128 s129 s130 s131 s132 s133 s134 s135 s136 s137 s138 s139 s140 s141 s142 s143 s144 s145 s146 s147 s148 s149 s150 s151 : Value} {h : HierD} {lo bm : Nat} {r : Int} {rb : Nat → Nat} {M : Nat → Nat → Option Int} {w wx : World} (hr : (lo : Int) = r + 1) (hlo : lo ≤ h.node.length) (hn : h.node.length ≤ 14) (g : GoodM M) (bd : BdM 140737488355328 M) (hM : ∀ a b, fwN lo M (h.node.length - lo) a b = aboveM h lo a b) (hm : MOwn h.node.length (fun a b => farOf (M a b)) bm w.heap.size rb wx) (hb : Below w.heap.size w wx) : Code.wp Tryd.prog (tailAt 5 rabBody) (bodyPost Tryd.prog Tryd.f56 (RAboveNew h lo w)) ⟨#[s0, .int .i64 r, s2, s3, s4, .int .i64 (h.node.length : Nat), .slice (some ⟨bm, 0, none⟩) h.node.length h.node.length, s7, s8, s9, s10, s11, s12, s13, s14, s15, s16, s17, s18, s19, s20, s21, s22, s23, s24, s25, s26, s27, s28, s29, s30, s31, s32, s33, s34, s35, s36, s37, s38, s39, s40, s41, s42, s43, s44, s45, s46, s47, s48, s49, s50, s51, s52, s53, s54, s55, s56, s57, s58, s59, s60, s61, s62, s63, s64, s65, s66, s67, s68, s69, s70, s71, s72, s73, s74, s75, s76, s77, s78, s79, s80, s81, s82, s83, s84, s85, s86, s87, s88, s89, s90, s91, s92, s93, s94, s95, s96, s97, s98, s99, s100, s101, s102, s103, s104, s105, s106, s107, s108, s109, s110, s111, s112, s113, s114, s115, s116, s117, s118, s119, s120, s121, s122, s123, s124, s125, s126, s127, s128, s129, s130, s131, s132, s133, s134, s135, s136, s137, s138, s139, s140, s141, s142, s143, s144, s145, s146, s147, s148, s149, s150, s151], []⟩ wx := by
  have wrp : IntKind.i64.wrap (r + 1) = (lo : Int) := by rw [← hr]; exact IntWalk.i64_in _ (by omega)
  have G := Lib.hid g
  have BD := Lib.hid bd
  have HM := Lib.hid hM
  have HO := Lib.hid hm
  have HB := Lib.hid hb
  have HR := Lib.hid hr
  clear g bd hM hm hb hr
  conv => arg 2; whnf
  apply wp_seq_k
  intro KK hK
  have HKK := Lib.hid hK
  clear hK
  go_wp2_with fail
  go_loopg [11] (h.node.length - lo) (fun gg vi wr => ∃ c : Nat, vi = .int .i64 ((lo + c : Nat) : Int) ∧ lo + c ≤ h.node.length ∧ gg = h.node.length - (lo + c) ∧ MOwn h.node.length (fun a b => farOf (fwN lo M c a b)) bm w.heap.size rb wr ∧ Below w.heap.size w wr)
  case atStart => exact ⟨0, rfl, hlo, by rw [Nat.add_zero], HO.out, HB.out⟩
  case round =>
    obtain ⟨c, rfl, hc, hgc, hm, hb⟩ := hrel
    obtain ⟨wo, rfl⟩ : ∃ wo : World, wo = wr := ⟨_, rfl⟩
    have HGC := Lib.hid hgc
    have HO1 := Lib.hid hm
    have HB1 := Lib.hid hb
    have GC := Lib.hid (fwN_good (lo := lo) G.out c)
    have BC := Lib.hid (fwN_bd (lo := lo) (by decide) BD.out c)
    have PC := Lib.hid (pow_le14 (c := c) (by omega))
    obtain ⟨D, hD⟩ : ∃ D, fwN lo M c = D := ⟨_, rfl⟩
    obtain ⟨k, hk⟩ : ∃ k, lo + c = k := ⟨_, rfl⟩
    rw [hD] at HO1 GC BC
    have HD := Lib.hid hD
    have HK := Lib.hid hk
    rw [hk] at hc HGC ⊢
    clear hgc hm hb HO HB hD hk
    by_cases hkn : k < h.node.length
    · have hlk : lo ≤ k := by have := HK.out; omega
      go_wp2_with fail
      go_loopg [12] (h.node.length - lo) (fun gg vi wr => ∃ i : Nat, vi = .int .i64 (i : Int) ∧ lo ≤ i ∧ i ≤ h.node.length ∧ gg = h.node.length - i ∧ MOwn h.node.length (fun a b => farOf (mixM lo k D i lo a b)) bm w.heap.size rb wr ∧ Below w.heap.size w wr)
      case atStart => exact ⟨lo, rfl, Nat.le_refl _, by omega, rfl, by rw [mix_start]; exact HO1.out, HB1.out⟩
      case round =>
        obtain ⟨i, rfl, hli, hi, hgi, hm, hb⟩ := hrel
        obtain ⟨wp, rfl⟩ : ∃ wp : World, wp = wr := ⟨_, rfl⟩
        have HGI := Lib.hid hgi
        have HO2 := Lib.hid hm
        have HB2 := Lib.hid hb
        clear hgi hm hb HO1 HB1
        by_cases hin : i < h.node.length
        · go_wp2_with fail
          go_loopg [13] (h.node.length - lo) (fun gg vi wr => ∃ j : Nat, vi = .int .i64 (j : Int) ∧ lo ≤ j ∧ j ≤ h.node.length ∧ gg = h.node.length - j ∧ MOwn h.node.length (fun a b => farOf (mixM lo k D i j a b)) bm w.heap.size rb wr ∧ Below w.heap.size w wr)
          case atStart => exact ⟨lo, rfl, Nat.le_refl _, by omega, rfl, HO2.out, HB2.out⟩
          case round =>
            obtain ⟨j, rfl, hlj, hj, hgj, hm, hb⟩ := hrel
            obtain ⟨wu, rfl⟩ : ∃ wu : World, wu = wr := ⟨_, rfl⟩
            have HGJ := Lib.hid hgj
            have HO3 := Lib.hid hm
            have HB3 := Lib.hid hb
            clear hgj hm hb HO2 HB2
            by_cases hjn : j < h.node.length
            · have p0 := HO3.out.ptr hin
              have p1 := HO3.out.ptr hkn
              have c0 : wu.cell? ⟨rb i, k, none⟩ = some (.int .u64 (farOf (mixM lo k D i j i k))) := HO3.out.get hin hkn
              have c1 : wu.cell? ⟨rb k, j, none⟩ = some (.int .u64 (farOf (mixM lo k D i j k j))) := HO3.out.get hkn hjn
              have c2 : wu.cell? ⟨rb i, j, none⟩ = some (.int .u64 (farOf (mixM lo k D i j i j))) := HO3.out.get hin hjn
              rw [mix_col GC.out] at c0
              rw [mix_row GC.out] at c1
              rw [mix_here] at c2
              have MS := Lib.hid (fun a b => mix_step (lo := lo) (k := k) (D := D) i j hli hlj a b)
              cases hp : D i k with
              | none =>
                rw [hp] at c0
                simp only [farOf] at c0
                have HP := Lib.hid hp
                clear hp c1 c2 p1
                go_wp2_with fail
                go_roundg (h.node.length - (j + 1))
                case measure => rw [HGJ.out]; omega
                case rel =>
                  refine ⟨j + 1, by go_num, by omega, by omega, rfl, ?_, HB3.out⟩
                  refine HO3.out.congr (fun a b _ _ => ?_)
                  rw [MS.out a b, HP.out]
                  split
                  · rename_i e; obtain ⟨rfl, rfl⟩ := e; rw [mix_here]; cases D a b <;> rfl
                  · rfl
              | some x =>
                have hx0 := GC.out.nn _ _ _ hp
                have hx1 := Int.le_trans (BC.out _ _ _ hp) PC.out
                rw [hp] at c0
                simp only [farOf] at c0
                have t1 : (x == 18446744073709551615) = false := by simp; omega
                have t2 : (x != 18446744073709551615) = true := by simp; omega
                have HP := Lib.hid hp
                clear hp
                cases hq : D k j with
                | none =>
                  rw [hq] at c1
                  simp only [farOf] at c1
                  have HQ := Lib.hid hq
                  clear hq c2
                  go_wp2_with fail
                  go_roundg (h.node.length - (j + 1))
                  case measure => rw [HGJ.out]; omega
                  case rel =>
                    refine ⟨j + 1, by go_num, by omega, by omega, rfl, ?_, HB3.out⟩
                    refine HO3.out.congr (fun a b _ _ => ?_)
                    rw [MS.out a b, HP.out, HQ.out]
                    split
                    · rename_i e; obtain ⟨rfl, rfl⟩ := e; rw [mix_here]; cases D a b <;> rfl
                    · rfl
                | some y =>
                  have hy0 := GC.out.nn _ _ _ hq
                  have hy1 := Int.le_trans (BC.out _ _ _ hq) PC.out
                  rw [hq] at c1
                  simp only [farOf] at c1
                  have t3 : (y == 18446744073709551615) = false := by simp; omega
                  have t4 : (y != 18446744073709551615) = true := by simp; omega
                  have usum : IntKind.u64.wrap (x + y) = x + y := IntWalk.u64_in _ (by omega)
                  have HQ := Lib.hid hq
                  have g0 := (HO3.out.rep.r i hin).frozen j
                  have lr := (HO3.out.rep.r i hin).lt
                  have HW := Lib.hid (HB3.out.setCell (p := ⟨rb i, j, none⟩) (HO3.out.lo i hin) (.int .u64 (min (farOf (D i j)) (x + y))))
                  have HS := Lib.hid (HO3.out.set (a := i) (b := j) hin (min (farOf (D i j)) (x + y)))
                  have hs := Int.add_le_add hx1 hy1
                  have HSL := Lib.hid hs
                  clear hq hx0 hx1 hy0 hy1 hs
                  go_upto_region 30 with fail
                  go_still_tail 29, (by kernel_rfl)
                  change wpList _ _ _ _ _ wu.drew
                  go_wp2_with fail
                  go_roundg (h.node.length - (j + 1))
                  case measure => rw [HGJ.out]; omega
                  case rel =>
                    refine ⟨j + 1, by go_num, by omega, by omega, rfl, ?_, HW.out.drew⟩
                    refine (HS.out.congr (fun a b _ _ => ?_)).below ((Below.refl _ _).drew)
                    rw [MS.out a b, HP.out, HQ.out]
                    split
                    · exact (far_min (by have := HSL.out; omega)).symm
                    · rfl
            · obtain rfl : j = h.node.length := by omega
              have HO4 := Lib.hid (HO3.out.congr (fun a b _ hbn => by rw [mix_row_end lo k D i _ hbn]))
              go_wp2_with fail
              go_roundg (h.node.length - (i + 1))
              case measure => rw [HGI.out]; omega
              case rel => exact ⟨i + 1, by go_num, by omega, by omega, rfl, HO4.out, HB3.out⟩
        · obtain rfl : i = h.node.length := by omega
          have HO4 := Lib.hid (HO2.out.congr (fun a b han _ => by rw [mix_end lo k D _ han]))
          go_wp2_with fail
          go_roundg (h.node.length - (k + 1))
          case measure => rw [HGC.out]; omega
          case rel =>
            have h1 := HO4.out
            have h2 := HK.out
            have h3 : phase lo k D = fwN lo M (c + 1) := by rw [← HD.out, ← h2]; rfl
            rw [h3] at h1
            exact ⟨c + 1, by go_num, by omega, by omega, h1, HB2.out⟩
    · have hkn2 : k = h.node.length := by omega
      subst hkn2
      have hcl : c = h.node.length - lo := by have := HK.out; omega
      have HF := HO1.out
      rw [← HD.out, hcl] at HF
      have HF2 := Lib.hid (HF.congr (fun a b _ _ => by rw [HM.out a b]))
      clear HF
      go_wp2_with fail
      refine HKK.out _ _ ?_
      conv => arg 2; whnf
      go_wp2
      go_returns
      exact ⟨bm, rb, rfl, HF2.out.rep, HF2.out.bb, HB1.out⟩
end Go.Proofs.YtjbphoophgbmiaaDoor

/- The reference's Above: its arcs. -/
namespace Go.Proofs.YtjbphoophgbmiaaDoor
open Go.ChangeShapes Go.WideShapes Go.ChangeAt Go.RowKit Go.Joins Go.Deep

theorem addArc_far {lo : Nat} {D : Nat → Nat → Option Int} {x : EndD} (hr : lo ≤ x.rank) (hw : (x.link.wt : Int) ≤ 18446744073709551615) (a b : Nat) :
    farOf (addArc lo D x a b) = if a = x.tail ∧ b = x.head then min (farOf (D x.tail x.head)) (x.link.wt : Int) else farOf (D a b) := by
  unfold addArc
  by_cases e : a = x.tail ∧ b = x.head
  · obtain ⟨rfl, rfl⟩ := e
    rw [if_pos ⟨hr, rfl, rfl⟩, if_pos ⟨rfl, rfl⟩]
    exact far_min hw
  · rw [if_neg (fun h => e h.2), if_neg e]
theorem d0_bd : BdM 140737488355328 D0 := fun i j d h => by
  unfold D0 at h
  split at h
  · simp only [Option.some.injEq] at h; omega
  · cases h
theorem arcs_lit (A : HA) (h : HierD) (w : World) (see : HSee w A h) (u : FirstsOk h.node.length h.upF h.up.length) (d : FirstsOk h.node.length h.dnF h.dn.length) (hn : h.node.length ≤ 65536) (htot : h.up.length + h.dn.length ≤ 1048576) : Calls Tryd.prog 84 #[.agg #[.slice A.a0 h.node.length A.c0, .slice A.a1 h.upF.length A.c1, .slice A.a2 h.up.length A.c2, .slice A.a3 h.dnF.length A.c3, .slice A.a4 h.dn.length A.c4]] w (ArcsNew h w) := arcs_any A h w see u d hn htot

set_option linter.unusedSimpArgs false in
set_option maxRecDepth 100000 in
set_option maxHeartbeats 8000000 in
theorem rab18 {s0 s1 s3 s4 s5 s7 s8 s11 s12 s13 s14 s15 s16 s17 s18 s19 s20 s21 s22 s23 s24 s25 s26 s27 s28 s29 s30 s31 s32 s33 s34 s35 s36 s37 s38 s39 s40 s41 s42 s43 s44 s45 s46 s47 s48 s49 s50 s51 s52 s53 s54 s55 s56 s57 s58 s59 s60 s61 s62 s63 s64 s65 s66 s67 s68 s69 s70 s71 s72 s73 s74 s75 s76 s77 s78 s79 s80 s81 s82 s83 s84 s85 s86 s87 s88 s89 s90 s91 s92 s93 s94 s95 s96 s97 s98 s99 s100 s101 s102 s103 s104 s105 s106 s107 s108 s109 s110 s111 s112 s113 s114 s115 s116 s117 s118 s119 s120 s121 s122 s123 s124 s125 s126 s127 s128 s129 s130 s131 s132 s133 s134 s135 s136 s137 s138 s139 s140 s141 s142 s143 s144 s145 s146 s147 s148 s149 s150 s151 : Value} {V0 V1 V2 V3 V4 : Value} {x : LinkD} {wx : World} {bx bm be rt n tl hd k : Nat} {c : Int} (Q : Exit → Act → World → Prop)
    (hQp : ∀ c (a : Act) (t : Option Tmp) (v : Value) w', Q (.panic c) (a.put t v) w' → Q (.panic c) a w')
    (k0 : wx.cell? ⟨bm, tl, none⟩ = some (.slice (some ⟨rt, 0, none⟩) n n)) (k1 : wx.cell? ⟨be, 0, none⟩ = some (.int .i64 (tl : Nat))) (k2 : wx.cell? ⟨be, 1, none⟩ = some (.int .i64 (hd : Nat))) (k3 : wx.cell? ⟨bx, 0, none⟩ = some (V0)) (k4 : wx.cell? ⟨bx, 1, none⟩ = some (V1)) (k5 : wx.cell? ⟨bx, 2, none⟩ = some (V2)) (k6 : wx.cell? ⟨bx, 3, none⟩ = some (V3)) (k7 : wx.cell? ⟨bx, 4, none⟩ = some (V4)) (k8 : wx.cell? ⟨rt, hd, none⟩ = some (.int .u64 c)) (g0 : wx.frozen? ⟨rt, hd, none⟩ = false)
    (htl : tl < n) (hhd : hd < n) (hr1 : rt ≠ bm) (hr2 : rt ≠ be) (hr3 : rt ≠ bx)
    (hC : Calls Tryd.prog 71 #[.agg #[V0, V1, V2, V3, V4], .int .i64 (k : Nat)] wx.drew (LinkIsL x wx.drew))
    (hQ : ∀ (t60 t61 t62 t63 t64 t65 t66 t67 t68 t69 t70 t71 t72 t73 t74 t75 t76 t77 t78 t79 t80 t81 : Value) (w' : World), Below wx.heap.size wx w' → Q .normal ⟨#[s0, s1, .pointer (some ⟨bx, 0, none⟩), s3, s4, s5, .slice (some ⟨bm, 0, none⟩) n n, s7, s8, .int .i64 (k : Nat), .pointer (some ⟨be, 0, none⟩), s11, s12, s13, s14, s15, s16, s17, s18, s19, s20, s21, s22, s23, s24, s25, s26, s27, s28, s29, s30, s31, s32, s33, s34, s35, s36, s37, s38, s39, s40, s41, s42, s43, s44, s45, s46, s47, s48, s49, s50, s51, s52, s53, s54, s55, s56, s57, s58, s59, t60, t61, t62, t63, t64, t65, t66, t67, t68, t69, t70, t71, t72, t73, t74, t75, t76, t77, t78, t79, t80, t81, s82, s83, s84, s85, s86, s87, s88, s89, s90, s91, s92, s93, s94, s95, s96, s97, s98, s99, s100, s101, s102, s103, s104, s105, s106, s107, s108, s109, s110, s111, s112, s113, s114, s115, s116, s117, s118, s119, s120, s121, s122, s123, s124, s125, s126, s127, s128, s129, s130, s131, s132, s133, s134, s135, s136, s137, s138, s139, s140, s141, s142, s143, s144, s145, s146, s147, s148, s149, s150, s151], []⟩ (w'.setCell ⟨rt, hd, none⟩ (.int .u64 (min c (x.wt : Int))))) :
    Code.wp Tryd.prog ((regionAt 18 rabBody).getD .skip) Q ⟨#[s0, s1, .pointer (some ⟨bx, 0, none⟩), s3, s4, s5, .slice (some ⟨bm, 0, none⟩) n n, s7, s8, .int .i64 (k : Nat), .pointer (some ⟨be, 0, none⟩), s11, s12, s13, s14, s15, s16, s17, s18, s19, s20, s21, s22, s23, s24, s25, s26, s27, s28, s29, s30, s31, s32, s33, s34, s35, s36, s37, s38, s39, s40, s41, s42, s43, s44, s45, s46, s47, s48, s49, s50, s51, s52, s53, s54, s55, s56, s57, s58, s59, s60, s61, s62, s63, s64, s65, s66, s67, s68, s69, s70, s71, s72, s73, s74, s75, s76, s77, s78, s79, s80, s81, s82, s83, s84, s85, s86, s87, s88, s89, s90, s91, s92, s93, s94, s95, s96, s97, s98, s99, s100, s101, s102, s103, s104, s105, s106, s107, s108, s109, s110, s111, s112, s113, s114, s115, s116, s117, s118, s119, s120, s121, s122, s123, s124, s125, s126, s127, s128, s129, s130, s131, s132, s133, s134, s135, s136, s137, s138, s139, s140, s141, s142, s143, s144, s145, s146, s147, s148, s149, s150, s151], []⟩ wx := by
  have HQ := Lib.hid hQ
  have HQP := Lib.hid hQp
  have HC := Lib.hid hC
  have lrt := block_lt k8
  have hfd := Tryd.fieldLink1
  clear hQ hQp hC
  conv => arg 2; whnf
  refine wp_region_held_drew (S := fun W => W.cell? ⟨bm, tl, none⟩ = some (.slice (some ⟨rt, 0, none⟩) n n) ∧ W.cell? ⟨be, 0, none⟩ = some (.int .i64 (tl : Nat)) ∧ W.cell? ⟨be, 1, none⟩ = some (.int .i64 (hd : Nat)) ∧ W.cell? ⟨bx, 0, none⟩ = some (V0) ∧ W.cell? ⟨bx, 1, none⟩ = some (V1) ∧ W.cell? ⟨bx, 2, none⟩ = some (V2) ∧ W.cell? ⟨bx, 3, none⟩ = some (V3) ∧ W.cell? ⟨bx, 4, none⟩ = some (V4)) (by kernel_rfl) ⟨k0, k1, k2, k3, k4, k5, k6, k7⟩ (fun hHeld => ?_)
  simp only [List.size_toArray, List.length_cons, List.length_nil, Nat.reduceAdd, Array.replicate_succ, Array.replicate_zero, List.push_toArray, List.nil_append, List.cons_append]
  refine wpAnyH_take (i := 0) (oi := { dst := some 60, op := Op.move (Operand.tmp 6), type := 49, pos := "ref.go:25", after := #[], guard := none }) (v := .slice (some ⟨bm, 0, none⟩) n n) rfl (by kernel_rfl) (by kernel_rfl) (by kernel_rfl) (fun c a w' => HQP.out c a _ _ w') (Or.inl ⟨by rfl, ?_⟩) hHeld ?_
  · intro W hSw
    try dsimp only at hSw
    clear hSw
    clear hHeld
    go_simp
  simp only [Act.put, List.setIfInBounds_toArray, List.set_cons_zero, List.set_cons_succ]
  refine wpAnyH_take (i := 1) (oi := { dst := some 61, op := Op.fieldAddr 121 (Operand.tmp 10) 0, type := 0, pos := "ref.go:25", after := #[], guard := none }) (v := .pointer (some ⟨be, 0, none⟩)) rfl (by kernel_rfl) (by kernel_rfl) (by kernel_rfl) (fun c a w' => HQP.out c a _ _ w') (Or.inl ⟨by rfl, ?_⟩) hHeld ?_
  · intro W hSw
    try dsimp only at hSw
    clear hSw
    clear hHeld
    go_simp
  simp only [Act.put, List.setIfInBounds_toArray, List.set_cons_zero, List.set_cons_succ]
  refine wpAnyH_take (i := 2) (oi := { dst := some 62, op := Op.load 3 (Operand.tmp 61), type := 3, pos := "ref.go:25", after := #[{ on := 1, ground := Ground.data }], guard := none }) (v := .int .i64 (tl : Nat)) rfl (by kernel_rfl) (by kernel_rfl) (by kernel_rfl) (fun c a w' => HQP.out c a _ _ w') (Or.inl ⟨by rfl, ?_⟩) hHeld ?_
  · intro W hSw
    try dsimp only at hSw
    obtain ⟨m0, m1, m2, m3, m4, m5, m6, m7⟩ := hSw
    clear hHeld
    go_simp
  simp only [Act.put, List.setIfInBounds_toArray, List.set_cons_zero, List.set_cons_succ]
  refine wpAnyH_take (i := 3) (oi := { dst := some 63, op := Op.indexAddr 49 (Operand.tmp 60) (Operand.tmp 62), type := 0, pos := "ref.go:25", after := #[{ on := 0, ground := Ground.data }, { on := 2, ground := Ground.data }], guard := none }) (v := .pointer (some ⟨bm, tl, none⟩)) rfl (by kernel_rfl) (by kernel_rfl) (by kernel_rfl) (fun c a w' => HQP.out c a _ _ w') (Or.inl ⟨by rfl, ?_⟩) hHeld ?_
  · intro W hSw
    try dsimp only at hSw
    clear hSw
    clear hHeld
    go_simp
  simp only [Act.put, List.setIfInBounds_toArray, List.set_cons_zero, List.set_cons_succ]
  refine wpAnyH_take (i := 4) (oi := { dst := some 64, op := Op.load 57 (Operand.tmp 63), type := 57, pos := "ref.go:25", after := #[{ on := 3, ground := Ground.data }], guard := none }) (v := .slice (some ⟨rt, 0, none⟩) n n) rfl (by kernel_rfl) (by kernel_rfl) (by kernel_rfl) (fun c a w' => HQP.out c a _ _ w') (Or.inl ⟨by rfl, ?_⟩) hHeld ?_
  · intro W hSw
    try dsimp only at hSw
    obtain ⟨m0, m1, m2, m3, m4, m5, m6, m7⟩ := hSw
    clear hHeld
    go_simp
  simp only [Act.put, List.setIfInBounds_toArray, List.set_cons_zero, List.set_cons_succ]
  refine wpAnyH_take (i := 5) (oi := { dst := some 65, op := Op.fieldAddr 121 (Operand.tmp 10) 1, type := 0, pos := "ref.go:25", after := #[], guard := none }) (v := .pointer (some ⟨be, 1, none⟩)) rfl (by kernel_rfl) (by kernel_rfl) (by kernel_rfl) (fun c a w' => HQP.out c a _ _ w') (Or.inl ⟨by rfl, ?_⟩) hHeld ?_
  · intro W hSw
    try dsimp only at hSw
    clear hSw
    clear hHeld
    go_simp
  simp only [Act.put, List.setIfInBounds_toArray, List.set_cons_zero, List.set_cons_succ]
  refine wpAnyH_take (i := 6) (oi := { dst := some 66, op := Op.load 3 (Operand.tmp 65), type := 3, pos := "ref.go:25", after := #[{ on := 5, ground := Ground.data }], guard := none }) (v := .int .i64 (hd : Nat)) rfl (by kernel_rfl) (by kernel_rfl) (by kernel_rfl) (fun c a w' => HQP.out c a _ _ w') (Or.inl ⟨by rfl, ?_⟩) hHeld ?_
  · intro W hSw
    try dsimp only at hSw
    obtain ⟨m0, m1, m2, m3, m4, m5, m6, m7⟩ := hSw
    clear hHeld
    go_simp
  simp only [Act.put, List.setIfInBounds_toArray, List.set_cons_zero, List.set_cons_succ]
  refine wpAnyH_take (i := 7) (oi := { dst := some 67, op := Op.move (Operand.tmp 6), type := 49, pos := "ref.go:25", after := #[], guard := none }) (v := .slice (some ⟨bm, 0, none⟩) n n) rfl (by kernel_rfl) (by kernel_rfl) (by kernel_rfl) (fun c a w' => HQP.out c a _ _ w') (Or.inl ⟨by rfl, ?_⟩) hHeld ?_
  · intro W hSw
    try dsimp only at hSw
    clear hSw
    clear hHeld
    go_simp
  simp only [Act.put, List.setIfInBounds_toArray, List.set_cons_zero, List.set_cons_succ]
  refine wpAnyH_take (i := 8) (oi := { dst := some 68, op := Op.fieldAddr 121 (Operand.tmp 10) 0, type := 0, pos := "ref.go:25", after := #[], guard := none }) (v := .pointer (some ⟨be, 0, none⟩)) rfl (by kernel_rfl) (by kernel_rfl) (by kernel_rfl) (fun c a w' => HQP.out c a _ _ w') (Or.inl ⟨by rfl, ?_⟩) hHeld ?_
  · intro W hSw
    try dsimp only at hSw
    clear hSw
    clear hHeld
    go_simp
  simp only [Act.put, List.setIfInBounds_toArray, List.set_cons_zero, List.set_cons_succ]
  refine wpAnyH_take (i := 9) (oi := { dst := some 69, op := Op.load 3 (Operand.tmp 68), type := 3, pos := "ref.go:25", after := #[{ on := 8, ground := Ground.data }], guard := none }) (v := .int .i64 (tl : Nat)) rfl (by kernel_rfl) (by kernel_rfl) (by kernel_rfl) (fun c a w' => HQP.out c a _ _ w') (Or.inl ⟨by rfl, ?_⟩) hHeld ?_
  · intro W hSw
    try dsimp only at hSw
    obtain ⟨m0, m1, m2, m3, m4, m5, m6, m7⟩ := hSw
    clear hHeld
    go_simp
  simp only [Act.put, List.setIfInBounds_toArray, List.set_cons_zero, List.set_cons_succ]
  refine wpAnyH_take (i := 10) (oi := { dst := some 70, op := Op.indexAddr 49 (Operand.tmp 67) (Operand.tmp 69), type := 0, pos := "ref.go:25", after := #[{ on := 7, ground := Ground.data }, { on := 9, ground := Ground.data }], guard := none }) (v := .pointer (some ⟨bm, tl, none⟩)) rfl (by kernel_rfl) (by kernel_rfl) (by kernel_rfl) (fun c a w' => HQP.out c a _ _ w') (Or.inl ⟨by rfl, ?_⟩) hHeld ?_
  · intro W hSw
    try dsimp only at hSw
    clear hSw
    clear hHeld
    go_simp
  simp only [Act.put, List.setIfInBounds_toArray, List.set_cons_zero, List.set_cons_succ]
  refine wpAnyH_take (i := 11) (oi := { dst := some 71, op := Op.load 57 (Operand.tmp 70), type := 57, pos := "ref.go:25", after := #[{ on := 10, ground := Ground.data }], guard := none }) (v := .slice (some ⟨rt, 0, none⟩) n n) rfl (by kernel_rfl) (by kernel_rfl) (by kernel_rfl) (fun c a w' => HQP.out c a _ _ w') (Or.inl ⟨by rfl, ?_⟩) hHeld ?_
  · intro W hSw
    try dsimp only at hSw
    obtain ⟨m0, m1, m2, m3, m4, m5, m6, m7⟩ := hSw
    clear hHeld
    go_simp
  simp only [Act.put, List.setIfInBounds_toArray, List.set_cons_zero, List.set_cons_succ]
  refine wpAnyH_take (i := 12) (oi := { dst := some 72, op := Op.fieldAddr 121 (Operand.tmp 10) 1, type := 0, pos := "ref.go:25", after := #[], guard := none }) (v := .pointer (some ⟨be, 1, none⟩)) rfl (by kernel_rfl) (by kernel_rfl) (by kernel_rfl) (fun c a w' => HQP.out c a _ _ w') (Or.inl ⟨by rfl, ?_⟩) hHeld ?_
  · intro W hSw
    try dsimp only at hSw
    clear hSw
    clear hHeld
    go_simp
  simp only [Act.put, List.setIfInBounds_toArray, List.set_cons_zero, List.set_cons_succ]
  refine wpAnyH_take (i := 13) (oi := { dst := some 73, op := Op.load 3 (Operand.tmp 72), type := 3, pos := "ref.go:25", after := #[{ on := 12, ground := Ground.data }], guard := none }) (v := .int .i64 (hd : Nat)) rfl (by kernel_rfl) (by kernel_rfl) (by kernel_rfl) (fun c a w' => HQP.out c a _ _ w') (Or.inl ⟨by rfl, ?_⟩) hHeld ?_
  · intro W hSw
    try dsimp only at hSw
    obtain ⟨m0, m1, m2, m3, m4, m5, m6, m7⟩ := hSw
    clear hHeld
    go_simp
  simp only [Act.put, List.setIfInBounds_toArray, List.set_cons_zero, List.set_cons_succ]
  refine wpAnyH_take (i := 14) (oi := { dst := some 74, op := Op.indexAddr 57 (Operand.tmp 71) (Operand.tmp 73), type := 0, pos := "ref.go:25", after := #[{ on := 11, ground := Ground.data }, { on := 13, ground := Ground.data }], guard := none }) (v := .pointer (some ⟨rt, hd, none⟩)) rfl (by kernel_rfl) (by kernel_rfl) (by kernel_rfl) (fun c a w' => HQP.out c a _ _ w') (Or.inl ⟨by rfl, ?_⟩) hHeld ?_
  · intro W hSw
    try dsimp only at hSw
    clear hSw
    clear hHeld
    go_simp
  simp only [Act.put, List.setIfInBounds_toArray, List.set_cons_zero, List.set_cons_succ]
  refine wpAnyH_take (i := 16) (oi := { dst := some 76, op := Op.load 25 (Operand.tmp 2), type := 25, pos := "ref.go:25", after := #[], guard := none }) (v := .agg #[V0, V1, V2, V3, V4]) rfl (by kernel_rfl) (by kernel_rfl) (by kernel_rfl) (fun c a w' => HQP.out c a _ _ w') (Or.inl ⟨by rfl, ?_⟩) hHeld ?_
  · intro W hSw
    try dsimp only at hSw
    obtain ⟨m0, m1, m2, m3, m4, m5, m6, m7⟩ := hSw
    clear hHeld
    go_simp
  simp only [Act.put, List.setIfInBounds_toArray, List.set_cons_zero, List.set_cons_succ]
  refine wpAnyH_take (i := 17) (oi := { dst := some 77, op := Op.move (Operand.tmp 9), type := 3, pos := "ref.go:25", after := #[], guard := none }) (v := .int .i64 (k : Nat)) rfl (by kernel_rfl) (by kernel_rfl) (by kernel_rfl) (fun c a w' => HQP.out c a _ _ w') (Or.inl ⟨by rfl, ?_⟩) hHeld ?_
  · intro W hSw
    try dsimp only at hSw
    clear hSw
    clear hHeld
    go_simp
  simp only [Act.put, List.setIfInBounds_toArray, List.set_cons_zero, List.set_cons_succ]
  refine wpAnyH_ready (rs := [15, 18]) (by kernel_rfl) (by simp) ?_
  refine AllReadyH.cons (o := { dst := some 75, op := Op.load 37 (Operand.tmp 74), type := 37, pos := "ref.go:25", after := #[{ on := 14, ground := Ground.data }], guard := none }) rfl (fun K hK => ?_) (AllReadyH.cons (o := { dst := some 78, op := Op.call { callee := Callee.value (Operand.func 71), args := #[Operand.tmp 76, Operand.tmp 77], argTypes := #[25, 3] }, type := 39, pos := "ref.go:25", after := #[{ on := 16, ground := Ground.data }, { on := 17, ground := Ground.data }], guard := none }) rfl (fun K hK => ?_) AllReadyH.nil)
  · go_simp
    refine hK.out _ _ hHeld (fun hHeld => ?_)
    clear hK K
    simp only [Act.put, List.setIfInBounds_toArray, List.set_cons_zero, List.set_cons_succ]
    refine wpAnyH_ready (rs := [18]) (by kernel_rfl) (by simp) (AllReadyH.cons (o := { dst := some 78, op := Op.call { callee := Callee.value (Operand.func 71), args := #[Operand.tmp 76, Operand.tmp 77], argTypes := #[25, 3] }, type := 39, pos := "ref.go:25", after := #[{ on := 16, ground := Ground.data }, { on := 17, ground := Ground.data }], guard := none }) rfl (fun K hK => ?_) AllReadyH.nil)
    go_simp
    refine HC.out.mono ?_
    rintro e w1 ⟨rfl, h1⟩
    go_wp2_with fail
    have hh : Below wx.heap.size wx w1 := ((Below.refl wx.heap.size wx).drew).trans (h1.mono (Nat.le_refl _))
    have m0 := ck hh k0
    have m1 := ck hh k1
    have m2 := ck hh k2
    have m3 := ck hh k3
    have m4 := ck hh k4
    have m5 := ck hh k5
    have m6 := ck hh k6
    have m7 := ck hh k7
    have m8 := ck hh k8
    have m9 : w1.frozen? ⟨rt, hd, none⟩ = false := (hh.frozen (p := ⟨rt, hd, none⟩) lrt).trans g0
    have lrt1 : rt < w1.heap.size := by have := hh.size; omega
    have HH := Lib.hid hh
    clear h1 hh
    refine hK.out _ _ ⟨m0, m1, m2, m3, m4, m5, m6, m7⟩ (fun hHeld => ?_)
    clear hK K
    simp only [Act.put, List.setIfInBounds_toArray, List.set_cons_zero, List.set_cons_succ]
    refine wpAnyH_take (i := 19) (oi := { dst := some 79, op := Op.field 39 (Operand.tmp 78) 1, type := 37, pos := "ref.go:25", after := #[{ on := 18, ground := Ground.data }], guard := none }) (v := .int .u64 (x.wt : Nat)) rfl (by kernel_rfl) (by kernel_rfl) (by kernel_rfl) (fun c a w' => HQP.out c a _ _ w') (Or.inl ⟨by rfl, ?_⟩) hHeld ?_
    · intro W hSw
      try dsimp only at hSw
      clear hSw
      clear hHeld
      go_simp
    simp only [Act.put, List.setIfInBounds_toArray, List.set_cons_zero, List.set_cons_succ]
    refine wpAnyH_ready (rs := [20]) (by kernel_rfl) (by simp) (AllReadyH.cons (o := { dst := some 80, op := Op.call { callee := Callee.builtin Builtin.min, args := #[Operand.tmp 75, Operand.tmp 79], argTypes := #[37, 37] }, type := 37, pos := "ref.go:25", after := #[{ on := 15, ground := Ground.data }, { on := 19, ground := Ground.data }], guard := none }) rfl (fun K hK => ?_) AllReadyH.nil)
    go_simp
    refine hK.out _ _ hHeld (fun hHeld => ?_)
    clear hK K
    simp only [Act.put, List.setIfInBounds_toArray, List.set_cons_zero, List.set_cons_succ]
    refine wpAnyH_take (i := 21) (oi := { dst := some 81, op := Op.indexAddr 57 (Operand.tmp 64) (Operand.tmp 66), type := 0, pos := "ref.go:25", after := #[{ on := 4, ground := Ground.data }, { on := 6, ground := Ground.data }, { on := 0, ground := Ground.phase }, { on := 1, ground := Ground.phase }, { on := 2, ground := Ground.phase }, { on := 3, ground := Ground.phase }, { on := 4, ground := Ground.phase }, { on := 5, ground := Ground.phase }, { on := 6, ground := Ground.phase }, { on := 7, ground := Ground.phase }, { on := 8, ground := Ground.phase }, { on := 9, ground := Ground.phase }, { on := 10, ground := Ground.phase }, { on := 11, ground := Ground.phase }, { on := 12, ground := Ground.phase }, { on := 13, ground := Ground.phase }, { on := 14, ground := Ground.phase }, { on := 15, ground := Ground.phase }, { on := 16, ground := Ground.phase }, { on := 17, ground := Ground.phase }, { on := 18, ground := Ground.phase }, { on := 19, ground := Ground.phase }, { on := 20, ground := Ground.phase }], guard := none }) (v := .pointer (some ⟨rt, hd, none⟩)) rfl (by kernel_rfl) (by kernel_rfl) (by kernel_rfl) (fun c a w' => HQP.out c a _ _ w') (Or.inl ⟨by rfl, ?_⟩) hHeld ?_
    · intro W hSw
      try dsimp only at hSw
      clear hSw
      clear hHeld
      go_simp
    simp only [Act.put, List.setIfInBounds_toArray, List.set_cons_zero, List.set_cons_succ]
    refine wpAnyH_ready (rs := [22]) (by kernel_rfl) (by simp) (AllReadyH.cons (o := { dst := none, op := Op.store 37 (Operand.tmp 81) (Operand.tmp 80), type := 0, pos := "ref.go:25", after := #[{ on := 21, ground := Ground.data }, { on := 20, ground := Ground.data }, { on := 18, ground := Ground.chain }, { on := 0, ground := Ground.phase }, { on := 1, ground := Ground.phase }, { on := 2, ground := Ground.phase }, { on := 3, ground := Ground.phase }, { on := 4, ground := Ground.phase }, { on := 5, ground := Ground.phase }, { on := 6, ground := Ground.phase }, { on := 7, ground := Ground.phase }, { on := 8, ground := Ground.phase }, { on := 9, ground := Ground.phase }, { on := 10, ground := Ground.phase }, { on := 11, ground := Ground.phase }, { on := 12, ground := Ground.phase }, { on := 13, ground := Ground.phase }, { on := 14, ground := Ground.phase }, { on := 15, ground := Ground.phase }, { on := 16, ground := Ground.phase }, { on := 17, ground := Ground.phase }, { on := 18, ground := Ground.phase }, { on := 19, ground := Ground.phase }, { on := 20, ground := Ground.phase }], guard := none }) rfl (fun K hK => ?_) AllReadyH.nil)
    go_simp
    refine hK.out _ _ ⟨by rw [World.cell?_setCell_far _ _ _ _ (by simpa using hr1)]; exact m0, by rw [World.cell?_setCell_far _ _ _ _ (by simpa using hr2)]; exact m1, by rw [World.cell?_setCell_far _ _ _ _ (by simpa using hr2)]; exact m2, by rw [World.cell?_setCell_far _ _ _ _ (by simpa using hr3)]; exact m3, by rw [World.cell?_setCell_far _ _ _ _ (by simpa using hr3)]; exact m4, by rw [World.cell?_setCell_far _ _ _ _ (by simpa using hr3)]; exact m5, by rw [World.cell?_setCell_far _ _ _ _ (by simpa using hr3)]; exact m6, by rw [World.cell?_setCell_far _ _ _ _ (by simpa using hr3)]; exact m7⟩ (fun hHeld => ?_)
    clear hK K hHeld
    try simp only [Act.put, List.setIfInBounds_toArray, List.set_cons_zero, List.set_cons_succ]
    refine wpAnyH_done (by kernel_rfl) ?_ _
    exact HQ.out _ _ _ _ _ _ _ _ _ _ _ _ _ _ _ _ _ _ _ _ _ _ _ HH.out
  · go_simp
    refine HC.out.mono ?_
    rintro e w1 ⟨rfl, h1⟩
    go_wp2_with fail
    have hh : Below wx.heap.size wx w1 := ((Below.refl wx.heap.size wx).drew).trans (h1.mono (Nat.le_refl _))
    have m0 := ck hh k0
    have m1 := ck hh k1
    have m2 := ck hh k2
    have m3 := ck hh k3
    have m4 := ck hh k4
    have m5 := ck hh k5
    have m6 := ck hh k6
    have m7 := ck hh k7
    have m8 := ck hh k8
    have m9 : w1.frozen? ⟨rt, hd, none⟩ = false := (hh.frozen (p := ⟨rt, hd, none⟩) lrt).trans g0
    have lrt1 : rt < w1.heap.size := by have := hh.size; omega
    have HH := Lib.hid hh
    clear h1 hh
    refine hK.out _ _ ⟨m0, m1, m2, m3, m4, m5, m6, m7⟩ (fun hHeld => ?_)
    clear hK K
    simp only [Act.put, List.setIfInBounds_toArray, List.set_cons_zero, List.set_cons_succ]
    refine wpAnyH_take (i := 19) (oi := { dst := some 79, op := Op.field 39 (Operand.tmp 78) 1, type := 37, pos := "ref.go:25", after := #[{ on := 18, ground := Ground.data }], guard := none }) (v := .int .u64 (x.wt : Nat)) rfl (by kernel_rfl) (by kernel_rfl) (by kernel_rfl) (fun c a w' => HQP.out c a _ _ w') (Or.inl ⟨by rfl, ?_⟩) hHeld ?_
    · intro W hSw
      try dsimp only at hSw
      clear hSw
      clear hHeld
      go_simp
    simp only [Act.put, List.setIfInBounds_toArray, List.set_cons_zero, List.set_cons_succ]
    refine wpAnyH_ready (rs := [15]) (by kernel_rfl) (by simp) (AllReadyH.cons (o := { dst := some 75, op := Op.load 37 (Operand.tmp 74), type := 37, pos := "ref.go:25", after := #[{ on := 14, ground := Ground.data }], guard := none }) rfl (fun K hK => ?_) AllReadyH.nil)
    go_simp
    refine hK.out _ _ hHeld (fun hHeld => ?_)
    clear hK K
    simp only [Act.put, List.setIfInBounds_toArray, List.set_cons_zero, List.set_cons_succ]
    refine wpAnyH_ready (rs := [20]) (by kernel_rfl) (by simp) (AllReadyH.cons (o := { dst := some 80, op := Op.call { callee := Callee.builtin Builtin.min, args := #[Operand.tmp 75, Operand.tmp 79], argTypes := #[37, 37] }, type := 37, pos := "ref.go:25", after := #[{ on := 15, ground := Ground.data }, { on := 19, ground := Ground.data }], guard := none }) rfl (fun K hK => ?_) AllReadyH.nil)
    go_simp
    refine hK.out _ _ hHeld (fun hHeld => ?_)
    clear hK K
    simp only [Act.put, List.setIfInBounds_toArray, List.set_cons_zero, List.set_cons_succ]
    refine wpAnyH_take (i := 21) (oi := { dst := some 81, op := Op.indexAddr 57 (Operand.tmp 64) (Operand.tmp 66), type := 0, pos := "ref.go:25", after := #[{ on := 4, ground := Ground.data }, { on := 6, ground := Ground.data }, { on := 0, ground := Ground.phase }, { on := 1, ground := Ground.phase }, { on := 2, ground := Ground.phase }, { on := 3, ground := Ground.phase }, { on := 4, ground := Ground.phase }, { on := 5, ground := Ground.phase }, { on := 6, ground := Ground.phase }, { on := 7, ground := Ground.phase }, { on := 8, ground := Ground.phase }, { on := 9, ground := Ground.phase }, { on := 10, ground := Ground.phase }, { on := 11, ground := Ground.phase }, { on := 12, ground := Ground.phase }, { on := 13, ground := Ground.phase }, { on := 14, ground := Ground.phase }, { on := 15, ground := Ground.phase }, { on := 16, ground := Ground.phase }, { on := 17, ground := Ground.phase }, { on := 18, ground := Ground.phase }, { on := 19, ground := Ground.phase }, { on := 20, ground := Ground.phase }], guard := none }) (v := .pointer (some ⟨rt, hd, none⟩)) rfl (by kernel_rfl) (by kernel_rfl) (by kernel_rfl) (fun c a w' => HQP.out c a _ _ w') (Or.inl ⟨by rfl, ?_⟩) hHeld ?_
    · intro W hSw
      try dsimp only at hSw
      clear hSw
      clear hHeld
      go_simp
    simp only [Act.put, List.setIfInBounds_toArray, List.set_cons_zero, List.set_cons_succ]
    refine wpAnyH_ready (rs := [22]) (by kernel_rfl) (by simp) (AllReadyH.cons (o := { dst := none, op := Op.store 37 (Operand.tmp 81) (Operand.tmp 80), type := 0, pos := "ref.go:25", after := #[{ on := 21, ground := Ground.data }, { on := 20, ground := Ground.data }, { on := 18, ground := Ground.chain }, { on := 0, ground := Ground.phase }, { on := 1, ground := Ground.phase }, { on := 2, ground := Ground.phase }, { on := 3, ground := Ground.phase }, { on := 4, ground := Ground.phase }, { on := 5, ground := Ground.phase }, { on := 6, ground := Ground.phase }, { on := 7, ground := Ground.phase }, { on := 8, ground := Ground.phase }, { on := 9, ground := Ground.phase }, { on := 10, ground := Ground.phase }, { on := 11, ground := Ground.phase }, { on := 12, ground := Ground.phase }, { on := 13, ground := Ground.phase }, { on := 14, ground := Ground.phase }, { on := 15, ground := Ground.phase }, { on := 16, ground := Ground.phase }, { on := 17, ground := Ground.phase }, { on := 18, ground := Ground.phase }, { on := 19, ground := Ground.phase }, { on := 20, ground := Ground.phase }], guard := none }) rfl (fun K hK => ?_) AllReadyH.nil)
    go_simp
    refine hK.out _ _ ⟨by rw [World.cell?_setCell_far _ _ _ _ (by simpa using hr1)]; exact m0, by rw [World.cell?_setCell_far _ _ _ _ (by simpa using hr2)]; exact m1, by rw [World.cell?_setCell_far _ _ _ _ (by simpa using hr2)]; exact m2, by rw [World.cell?_setCell_far _ _ _ _ (by simpa using hr3)]; exact m3, by rw [World.cell?_setCell_far _ _ _ _ (by simpa using hr3)]; exact m4, by rw [World.cell?_setCell_far _ _ _ _ (by simpa using hr3)]; exact m5, by rw [World.cell?_setCell_far _ _ _ _ (by simpa using hr3)]; exact m6, by rw [World.cell?_setCell_far _ _ _ _ (by simpa using hr3)]; exact m7⟩ (fun hHeld => ?_)
    clear hK K hHeld
    try simp only [Act.put, List.setIfInBounds_toArray, List.set_cons_zero, List.set_cons_succ]
    refine wpAnyH_done (by kernel_rfl) ?_ _
    exact HQ.out _ _ _ _ _ _ _ _ _ _ _ _ _ _ _ _ _ _ _ _ _ _ _ HH.out
set_option linter.unusedSimpArgs false in
set_option maxRecDepth 100000 in
set_option maxHeartbeats 8000000 in
theorem rab_arcs {s0 s3 s4 s7 s8 s9 s10 s11 s12 s13 s14 s15 s16 s17 s18 s19 s20 s21 s22 s23 s24 s25 s26 s27 s28 s29 s30 s31 s32 s33 s34 s35 s36 s37 s38 s39 s40 s41 s42 s43 s44 s45 s46 s47 s48 s49 s50 s51 s52 s53 s54 s55 s56 s57 s58 s59 s60 s61 s62 s63 s64 s65 s66 s67 s68 s69 s70 s71 s72 s73 s74 s75 s76 s77 s78 s79 s80 s81 s82 s83 s84 s85 s86 s87 s88 s89 s90 s91 s92 s93 s94 s95 s96 s97 s98 s99 s100 s101 s102 s103 s104 s105 s106 s107 s108 s109 s110 s111 s112 s113 s114 s115 s116 s117 s118 s119 s120 s121 s122 s123 s124 s125 s126 s127 s128 s129 s130 s131 s132 s133 s134 s135 s136 s137 s138 s139 s140 s141 s142 s143 s144 s145 s146 s147 s148 s149 s150 s151 : Value} {A : HA} {h : HierD} {lo bm : Nat} {r : Int} {rb : Nat → Nat} {w wx : World} (see : HSee w A h) (hc : checkErr h = .nil) (hr : (lo : Int) = r + 1) (hlo : lo ≤ h.node.length) (hn : h.node.length ≤ 14) (hx : Cells wx w.heap.size 25 (hierCells A h)) (hb : Below w.heap.size w wx) (hm : MOwn h.node.length (fun a b => farOf (D0 a b)) bm w.heap.size rb wx) (hbx : bm ≠ w.heap.size) (hrx : ∀ v, v < h.node.length → rb v ≠ w.heap.size) : Code.wp Tryd.prog (tailAt 4 rabBody) (bodyPost Tryd.prog Tryd.f56 (RAboveNew h lo w)) ⟨#[s0, .int .i64 r, .pointer (some ⟨w.heap.size, 0, none⟩), s3, s4, .int .i64 (h.node.length : Nat), .slice (some ⟨bm, 0, none⟩) h.node.length h.node.length, s7, s8, s9, s10, s11, s12, s13, s14, s15, s16, s17, s18, s19, s20, s21, s22, s23, s24, s25, s26, s27, s28, s29, s30, s31, s32, s33, s34, s35, s36, s37, s38, s39, s40, s41, s42, s43, s44, s45, s46, s47, s48, s49, s50, s51, s52, s53, s54, s55, s56, s57, s58, s59, s60, s61, s62, s63, s64, s65, s66, s67, s68, s69, s70, s71, s72, s73, s74, s75, s76, s77, s78, s79, s80, s81, s82, s83, s84, s85, s86, s87, s88, s89, s90, s91, s92, s93, s94, s95, s96, s97, s98, s99, s100, s101, s102, s103, s104, s105, s106, s107, s108, s109, s110, s111, s112, s113, s114, s115, s116, s117, s118, s119, s120, s121, s122, s123, s124, s125, s126, s127, s128, s129, s130, s131, s132, s133, s134, s135, s136, s137, s138, s139, s140, s141, s142, s143, s144, s145, s146, s147, s148, s149, s150, s151], []⟩ wx := by
  have hp := checkErr_parts hc
  have hn6 := hp.1.n
  have u := firsts_nil hp.1.u hp.2.1
  have d := firsts_nil hp.1.d hp.2.2.1
  have htot := hp.1.total see u d
  have hlen := endsOf_length u d
  have UOK := Lib.hid u
  have DOK := Lib.hid d
  have SEE := Lib.hid see
  have HC := Lib.hid hc
  have HR := Lib.hid hr
  have HX0 := Lib.hid hx
  have HB0 := Lib.hid hb
  have HM0 := Lib.hid hm
  have HBX := Lib.hid hbx
  have HRX := Lib.hid hrx
  have HLEN := Lib.hid hlen
  obtain ⟨k0, k1, k2, k3, k4⟩ := hier_five hx
  clear hp u d see hc hr hx hb hm hbx hrx hlen
  conv => arg 2; whnf
  apply wp_seq_k
  intro KK hK
  have HKK := Lib.hid hK
  clear hK
  go_wp2_with fail
  refine (arcs_lit A h _ (SEE.out.below HB0.out) UOK.out DOK.out hn6 htot).mono ?_
  rintro e w1 ⟨ao, cap, rfl, sa, hnew, hb1⟩
  have SA1 := Lib.hid sa
  have HNEW := Lib.hid hnew
  have HLR := Lib.hid (fun v (hv : v < h.node.length) => (HM0.out.rep.r v hv).lt)
  have HX1 := Lib.hid (HX0.out.below hb1 HX0.out.lt)
  have HB1 := Lib.hid (HB0.out.trans (hb1.mono HB0.out.size))
  have HM1 := Lib.hid (HM0.out.below hb1)
  clear sa hnew hb1 HX0 HB0 HM0 k0 k1 k2 k3 k4
  obtain ⟨NN, hNN⟩ : ∃ NN, (endsOf h).length = NN := ⟨_, rfl⟩
  rw [hNN]
  have hNN2 : NN ≤ 1048576 := by have := HLEN.out; omega
  have HNN := Lib.hid hNN
  clear hNN
  go_wp2_with fail
  go_loopg [51] NN (fun gg vi wr => ∃ k : Nat, vi = .int .i64 (k : Int) ∧ k ≤ NN ∧ gg = NN - k ∧ MOwn h.node.length (fun a b => farOf (((endsOf h).take k).foldl (addArc lo) D0 a b)) bm w.heap.size rb wr ∧ Cells wr w.heap.size 25 (hierCells A h) ∧ See wr ao cap rendCells 3 (endsOf h) ∧ Below w.heap.size w wr)
  case atStart => exact ⟨0, rfl, Nat.zero_le _, rfl, HM1.out, HX1.out, SA1.out, HB1.out⟩
  case round =>
    obtain ⟨k, rfl, hk, hgk, hm, hx, hs, hb⟩ := hrel
    obtain ⟨wo, rfl⟩ : ∃ wo : World, wo = wr := ⟨_, rfl⟩
    have HGK := Lib.hid hgk
    have HM2 := Lib.hid hm
    have HX2 := Lib.hid hx
    have SA := Lib.hid hs
    have HB2 := Lib.hid hb
    clear hgk hm hx hs hb HM1 HX1 HB1 SA1
    by_cases hkn : k < NN
    · obtain ⟨x, hx⟩ : ∃ x, (endsOf h)[k]? = some x := ⟨_, List.getElem?_eq_getElem (by rw [HNN.out]; exact hkn)⟩
      obtain ⟨hw1, hw2, hw3, hw4, hw5, hw6⟩ := ends_web HC.out (List.mem_of_getElem? hx)
      have hlk : linkAt h k = x.link := by
        rw [← ends_link UOK.out DOK.out k (by have := HNN.out; have := HLEN.out; omega), List.getD_eq_getElem?_getD, hx]
        rfl
      have HLK := Lib.hid hlk
      have HXK := Lib.hid hx
      have htk : (endsOf h).take (k + 1) = (endsOf h).take k ++ [x] := by rw [List.take_add_one, hx]; rfl
      have HTK := Lib.hid htk
      obtain ⟨b2, o2, ea2, cc2⟩ := SA.out.cell k x hx
      have e0 := cc2 0 _ rfl
      have e1 := cc2 1 _ rfl
      have e2 := cc2 2 _ rfl
      rw [Nat.add_zero] at e0
      have EA := Lib.hid ea2
      obtain ⟨wq, hwq⟩ : ∃ wq, wo.alloc (.cells (rendCells x).toArray 121) = wq := ⟨_, rfl⟩
      have hle := Cells.new wo 121 (rendCells x)
      have ho := (Below.refl wo.heap.size wo).alloc (Nat.le_refl _) (.cells (rendCells x).toArray 121)
      rw [hwq] at hle ho
      have HM3 := Lib.hid (HM2.out.below ho)
      have HM2L := Lib.hid HM2.out
      have HX3 := Lib.hid (HX2.out.below ho HX2.out.lt)
      have SA3 := Lib.hid (SA.out.below ho)
      have HB3 := Lib.hid (HB2.out.trans (ho.mono HB2.out.size))
      have HLE := Lib.hid hle
      have HWQ := Lib.hid hwq
      have f0 : wq.cell? ⟨wo.heap.size, 0, none⟩ = some (.int .i64 x.tail) := hle.cell rfl
      have f1 : wq.cell? ⟨wo.heap.size, 1, none⟩ = some (.int .i64 x.head) := hle.cell rfl
      have f2 : wq.cell? ⟨wo.heap.size, 2, none⟩ = some (.int .i64 x.rank) := hle.cell rfl
      have lwq := ho.size
      clear ho hle hwq cc2 ea2 hx hlk htk HM2 HX2 SA HB2 hw1
      rw [EA.out]
      go_upto_region 17 with fail
      rw [show wo.alloc (.cells #[.int .i64 x.tail, .int .i64 x.head, .int .i64 x.rank] 121) = wq from HWQ.out]
      clear e0 e1 e2
      by_cases hrk : lo ≤ x.rank
      · have t1 : decide (r < (x.rank : Int)) = true := by have := HR.out; simp only [decide_eq_true_eq]; omega
        go_upto_region 18 with fail
        clear t1 f2
        obtain ⟨k0, k1, k2, k3, k4⟩ := hier_five HX3.out
        have p0 := HM3.out.ptr hw5
        obtain ⟨LK, hLK⟩ : ∃ LK, (endsOf h).take k = LK := ⟨_, rfl⟩
        rw [hLK] at HM3 HTK
        have p1 := HM3.out.get hw5 hw6
        have HLKK := Lib.hid hLK
        clear hLK
        have hne := HM3.out.ne _ hw5
        have hlo2 := HM3.out.lo _ hw5
        have hlt2 := (HM2L.out.rep.r _ hw5).lt
        have hrx := HRX.out _ hw5
        change Code.wp _ ((regionAt 18 rabBody).getD .skip) _ _ _
        refine rab18 (x := x.link) _ (fun _ _ t _ _ hq => by cases t <;> exact hq) p0 f0 f1 k0 k1 k2 k3 k4 p1 ((HM3.out.rep.r _ hw5).frozen _) hw5 hw6 hne (by omega) hrx (rlink_lit A h k x.link _ ((SEE.out.below HB3.out).below (Below.refl _ _).drew) HLK.out (by have := HNN.out; have := HLEN.out; omega) (by omega)) ?_
        intro t60 t61 t62 t63 t64 t65 t66 t67 t68 t69 t70 t71 t72 t73 t74 t75 t76 t77 t78 t79 t80 t81 w4 hb4
        have HM4 := Lib.hid (((HM3.out.below hb4).set hw5 (b := x.head) (min (farOf (LK.foldl (addArc lo) D0 x.tail x.head)) (x.link.wt : Int))).congr (Y := fun a b => farOf ((LK ++ [x]).foldl (addArc lo) D0 a b)) (fun a b _ _ => by
          rw [List.foldl_append, List.foldl_cons, List.foldl_nil]
          exact (addArc_far hrk (by omega) a b).symm))
        have HX4 := Lib.hid ((HX3.out.below hb4 HX3.out.lt).other (a := ⟨rb x.tail, x.head, none⟩) (fun e => hrx e.symm) (.int .u64 (min (farOf (LK.foldl (addArc lo) D0 x.tail x.head)) (x.link.wt : Int))))
        have HB4 := Lib.hid ((HB3.out.trans (hb4.mono HB3.out.size)))
        have SA4 := Lib.hid (SA3.out.below hb4)
        clear hb4 p0 p1 k0 k1 k2 k3 k4 f0 f1
        go_wp2_with fail
        rw [← EA.out]
        go_roundg (NN - (k + 1))
        case measure => rw [HGK.out]; omega
        case rel =>
          refine ⟨k + 1, by go_num, by omega, rfl, by rw [HTK.out]; exact HM4.out, HX4.out, ?_, HB4.out.setCell (p := ⟨rb x.tail, x.head, none⟩) hlo2 _⟩
          refine SA4.out.kept (bs := [rb x.tail]) ((Only.refl _ _).setCell (p := ⟨rb x.tail, x.head, none⟩) (.inl (by simp)) _) (fun b o e => ?_)
          have h1 := HNEW.out b o e
          have h2 := HLR.out _ hw5
          simp only [List.mem_singleton]
          omega
      · have t1 : decide (r < (x.rank : Int)) = false := by have := HR.out; simp only [decide_eq_false_iff_not]; omega
        go_wp2_with fail
        rw [← EA.out]
        go_roundg (NN - (k + 1))
        case measure => rw [HGK.out]; omega
        case rel =>
          refine ⟨k + 1, by go_num, by omega, rfl, ?_, HX3.out, SA3.out, HB3.out⟩
          refine HM3.out.congr (fun a b _ _ => ?_)
          rw [HTK.out, List.foldl_append, List.foldl_cons, List.foldl_nil]
          unfold addArc
          rw [if_neg (fun h => hrk h.1)]
    · obtain rfl : k = NN := by omega
      have HM3 := HM2.out
      rw [List.take_of_length_le (by rw [HNN.out]; exact Nat.le_refl _)] at HM3
      have HM4 := Lib.hid HM3
      have G := Lib.hid (foldl_good (lo := lo) (endsOf h) d0_good)
      have BD := Lib.hid (foldl_bd (lo := lo) (B := 140737488355328) (endsOf h) (fun x hx => by have := (ends_web HC.out hx).2.2.2.1; omega) d0_bd)
      clear HM3
      go_wp2_with fail
      refine HKK.out _ _ ?_
      change Code.wp _ (tailAt 5 rabBody) _ _ _
      exact rab_fw HR.out hlo hn G.out BD.out (fun a b => rfl) HM4.out HB2.out
end Go.Proofs.YtjbphoophgbmiaaDoor
