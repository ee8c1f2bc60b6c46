/- The reference's look at one link: the link before it, where it leads; the whole. -/
import Derived.Test.YtchhbgckonpedaaGreatDoorE25
set_option linter.unusedSimpArgs false
set_option maxRecDepth 100000
set_option maxHeartbeats 8000000
namespace Go.Proofs.YtchhbgckonpedaaGreatDoor
open Go.ChangeShapes Go.WideShapes Go.ChangeAt Go.RowKit Go.Joins Go.Deep
theorem link_prev {s0 s4 s5 s8 s11 s12 s13 s14 s15 s16 s17 s18 s19 s20 s21 s22 s23 s24 s25 s26 s27 s28 s29 s30 s31 s32 s33 s34 s35 s36 s37 s38 s39 s40 s41 s42 s43 s44 s45 s46 s47 s48 s49 s50 s51 s52 s53 s54 s55 s56 s57 s58 s59 s60 s61 s62 s63 s64 s65 s66 s67 s68 s69 s70 s71 s72 s73 s74 s75 s76 s77 s78 s79 s80 s81 s82 s83 s84 s85 s86 s87 s88 s89 s90 s91 s92 s93 s94 s95 s96 s97 s98 s99 s100 s101 s102 s103 s104 s105 s106 s107 s108 s109 s110 s111 s112 s113 s114 s115 s116 s117 s118 s119 s120 s121 s122 s123 s124 s125 s126 s127 s128 s129 s130 s131 s132 s133 s134 s135 s136 s137 s138 s139 s140 s141 s142 s143 s144 s145 s146 s147 s148 s149 s150 s151 s152 s153 s154 s155 s156 s157 s158 s159 s160 s161 s162 s163 s164 s165 s166 s167 s168 s169 s170 s171 s172 s173 s174 s175 s176 s177 s178 s179 s180 s181 s182 s183 s184 s185 s186 s187 s188 s189 s190 s191 s192 s193 : Value} {A : HA} {h : HierD} {l : LinkD} {x y z v : EndD} {w wx : World} {bl be i rc : Nat} {ra : Option Addr} {uc : Int} {ua : Option Addr} {un ucap : Nat} {x1 E : EV} (k : LK0 A h l w bl be [.int .i64 uc, .slice ua un ucap] x1 wx)
  (see : HSee w A h) (sr : See w ra rc i64Cells 1 (ranksL h)) (u : FirstsOk h.node.length h.upF h.up.length) (d : FirstsOk h.node.length h.dnF h.dn.length) (htot : h.up.length + h.dn.length ≤ 1048576) (hi : i < h.up.length + h.dn.length) (hx : (endsOf h).getD i default = x) (hz : (endsOf h).getD l.left default = z) (hv : (endsOf h).getD l.right default = v) (hl32 : l.left < 4294967296) (hr32 : l.right < 4294967296) (hy : (endsOf h).getD (i - 1) default = y) (hok : l.ok)
  (hE : E = if 0 < i ∧ i ≠ h.up.length ∧ y.rank = x.rank ∧ l.to ≤ y.link.to then x1 else if l.plain = true then (if l.wt ≤ 2147483647 then .nil else .at 4 i 8) else if l.left < h.up.length ∨ h.up.length + h.dn.length ≤ l.left ∨ h.up.length ≤ l.right then x1 else if z.tail = x.tail ∧ v.head = x.head ∧ z.rank = v.rank then (if l.wt ≤ 140737488355328 ∧ z.link.wt ≤ 140737488355328 ∧ v.link.wt ≤ 140737488355328 ∧ z.link.wt + v.link.wt = l.wt then .nil else .at 4 i 8) else x1) :
  Code.wp Tryz.prog (tailAt 4 linkBody) (bodyPost Tryz.prog Tryz.f54 (ErrNew E w)) ⟨#[s0, .slice ra (ranksL h).length rc, .int .i64 (i : Nat), .pointer (some ⟨w.heap.size,0,none⟩),s4,s5, .pointer (some ⟨(w.heap.size + 1),0,none⟩), .pointer (some ⟨bl,0,none⟩),s8, .int .i64 ((h.up.length : Int) + (h.dn.length : Int)), .pointer (some ⟨be,0,none⟩),s11,s12,s13,s14,s15,s16,s17,s18,s19,s20,s21,s22,s23,s24,s25,s26,s27,s28,s29,s30,s31,s32,s33,s34,s35,s36,s37,s38,s39,s40,s41,s42,s43,s44,s45,s46,s47,s48,s49,s50,s51,s52,s53,s54,s55,s56,s57,s58,s59,s60,s61,s62,s63,s64,s65,s66,s67,s68,s69,s70,s71,s72,s73,s74,s75,s76,s77,s78,s79,s80,s81,s82,s83,s84,s85,s86,s87,s88,s89,s90,s91,s92,s93,s94,s95,s96,s97,s98,s99,s100,s101,s102,s103,s104,s105,s106,s107,s108,s109,s110,s111,s112,s113,s114,s115,s116,s117,s118,s119,s120,s121,s122,s123,s124,s125,s126,s127,s128,s129,s130,s131,s132,s133,s134,s135,s136,s137,s138,s139,s140,s141,s142,s143,s144,s145,s146,s147,s148,s149,s150,s151,s152,s153,s154,s155,s156,s157,s158,s159,s160,s161,s162,s163,s164,s165,s166,s167,s168,s169,s170,s171,s172,s173,s174,s175,s176,s177,s178,s179,s180,s181,s182,s183,s184,s185,s186,s187,s188,s189,s190,s191,s192,s193], []⟩ wx := by
 have hlen := endsOf_length u d
 have hrl : (ranksL h).length = (endsOf h).length := by unfold ranksL; simp
 obtain ⟨b2,o2,hra,lb2,cc2⟩ := see_one (f := fun (n : Nat) => Value.int .i64 n) sr (by omega)
 subst hra
 have hgx := ranks_get (h := h) i (by omega)
 have hgy := ranks_get (h := h) (i - 1) (by omega)
 rw [hx] at hgx
 rw [hy] at hgy
 have c0 : wx.cell? ⟨bl,0,none⟩ = some (.int .u32 l.to) := k.l.cell rfl
 have cr1 : wx.cell? ⟨b2,o2 + i,none⟩ = some (.int .i64 x.rank) := ck k.b (cc2 i x.rank hgx)
 have cy1 : wx.cell? ⟨b2,o2 + (i - 1),none⟩ = some (.int .i64 y.rank) := ck k.b (cc2 (i - 1) y.rank hgy)
 obtain ⟨k0,k1,k2,k3,k4⟩ := hier_five k.x
 have hyl : linkAt h (i - 1) = y.link := by rw [← hy]; exact (ends_link u d (i - 1) (by omega)).symm
 have HYL := Lib.hid hyl
 have hil : i < (ranksL h).length := by omega
 have hil2 : i - 1 < (ranksL h).length := by omega
 have hi2 : i - 1 < h.up.length + h.dn.length := by omega
 have hd63 : h.dn.length ≤ 1048576 := by omega
 have K := Lib.hid k
 have SEE := Lib.hid see
 have SR := Lib.hid sr
 have UOK := Lib.hid u
 have DOK := Lib.hid d
 have HE := Lib.hid hE
 have HX := Lib.hid hx
 have HZ := Lib.hid hz
 have HV := Lib.hid hv
 have HOK := Lib.hid hok
 have HY := Lib.hid hy
 clear k see sr u d hE hx hz hv hok hy hyl hgx hgy cc2 lb2 hlen hrl
 conv => arg 2; whnf
 apply wp_seq_k
 intro KK hK
 have HK := Lib.hid hK
 clear hK
 go_upto_region 5 with fail
 dsimp only
 go_cut [80] (fun c wv => c = .bool (decide (0 < i ∧ i ≠ h.up.length ∧ y.rank = x.rank ∧ l.to ≤ y.link.to)) ∧ LK0 A h l w bl be [.int .i64 uc, .slice ua un ucap] x1 wv)
 case first =>
  by_cases b1 : i = 0
  ·have d1 : ((i : Int) != 0) = false := by simp; omega
   have Z1 := Lib.hid b1
   clear b1
   go_quiet (fail)
   go_wp2_with fail
   go_meet
   exact ⟨congrArg Value.bool (decide_eq_false (p := 0 < i ∧ i ≠ h.up.length ∧ y.rank = x.rank ∧ l.to ≤ y.link.to) (by have := Z1.out; omega)).symm,K.out.below (below_drewN (Below.refl _ _) _)⟩
  have d1 : ((i : Int) != 0) = true := by simp; omega
  by_cases b3 : i = h.up.length
  ·have d2 : ((i : Int) != (h.up.length : Int)) = false := by simp; omega
   have Z1 := Lib.hid b3
   clear b1 b3
   go_quiet (fail)
   go_wp2_with fail
   go_meet
   exact ⟨congrArg Value.bool (decide_eq_false (p := 0 < i ∧ i ≠ h.up.length ∧ y.rank = x.rank ∧ l.to ≤ y.link.to) (by have := Z1.out; omega)).symm,K.out.below (below_drewN (Below.refl _ _) _)⟩
  have d2 : ((i : Int) != (h.up.length : Int)) = true := by simp; omega
  have hsub : IntKind.i64.wrap ((i : Int) - 1) = ((i - 1 : Nat) : Int) := by rw [IntWalk.i64_in _ (by omega)]; omega
  have B1 := Lib.hid b1
  have B3 := Lib.hid b3
  clear b1 b3
  by_cases b4 : y.rank = x.rank
  ·have d3 : ((y.rank : Int) == (x.rank : Int)) = true := by simp; omega
   have B4 := Lib.hid b4
   clear b4
   have hfd := Tryz.fieldLink0
   go_region_held3 (fun W => W.cell? ⟨bl,0,none⟩ = some (.int .u32 l.to) ∧ W.cell? ⟨b2,o2 + i,none⟩ = some (.int .i64 x.rank) ∧ W.cell? ⟨b2,o2 + (i - 1),none⟩ = some (.int .i64 y.rank) ∧ W.cell? ⟨w.heap.size,0,none⟩ = some (.slice A.a0 h.node.length A.c0) ∧ W.cell? ⟨w.heap.size,1,none⟩ = some (.slice A.a1 h.upF.length A.c1) ∧ W.cell? ⟨w.heap.size,2,none⟩ = some (.slice A.a2 h.up.length A.c2) ∧ W.cell? ⟨w.heap.size,3,none⟩ = some (.slice A.a3 h.dnF.length A.c3) ∧ W.cell? ⟨w.heap.size,4,none⟩ = some (.slice A.a4 h.dn.length A.c4)) (go_keep)
    (first
    | (go_at_call 29; (with_reducible refine (rlink_lit A h (i - 1) y.link _ ?_ HYL.out hi2 hd63).mono ?_); exact (SEE.out.below K.out.b.drew); rintro e wG ⟨rfl,hb⟩; (have m0 := ck hb k0); (have m1 := ck hb k1); (have m2 := ck hb k2); (have m3 := ck hb k3); (have m4 := ck hb k4); (have m5 := ck hb c0); (have m6 := ck hb cr1); (have m7 := ck hb cy1)))
   go_wp2_with fail
   go_meet
   exact ⟨congrArg Value.bool (by rw [decide_eq_decide]; have := B1.out; have := B3.out; have := B4.out; omega),(K.out.below (Below.refl _ _).drew).below hb⟩
  ·have d3 : ((y.rank : Int) == (x.rank : Int)) = false := by simp; omega
   have Z1 := Lib.hid b4
   clear b4
   go_quiet (fail)
   go_wp2_with fail
   go_meet
   exact ⟨congrArg Value.bool (decide_eq_false (p := 0 < i ∧ i ≠ h.up.length ∧ y.rank = x.rank ∧ l.to ≤ y.link.to) (by have := Z1.out; omega)).symm,K.out.below (below_drewN (Below.refl _ _) _)⟩
 case rest =>
  obtain ⟨rfl,hk⟩ := hcut
  clear K c0 cr1 cy1 k0 k1 k2 k3 k4 HYL
  have K := Lib.hid hk
  clear hk
  by_cases bad : 0 < i ∧ i ≠ h.up.length ∧ y.rank = x.rank ∧ l.to ≤ y.link.to
  ·rw [decide_eq_true bad]
   have HER := Lib.hid (show E = x1 by rw [HE.out,if_pos bad])
   clear bad HE
   go_upto_region 6 with fail
   clear HK SEE SR UOK DOK HX HZ HV HOK HY
   change Code.wp _ ((regionAt 6 linkBody).getD .skip) _ _ _
   refine copy_r6 K.out.e K.out.r ?_
   go_wp2_with fail
   refine bodyPost_ret (results_e rfl _ _ (w.heap.size + 1) 36 [.int .i64 uc, .slice ua un ucap] _ rfl ((K.out.r.set 0 _).set 1 _) Tryz.underlying36 rfl (by rw [Tryz.sizeErr]; rfl)) rfl ?_
   rw [HER.out]
   exact ⟨_,rfl,K.out.u.put K.out.r _ _,(K.out.b.setCell (p := ⟨w.heap.size + 1,0,none⟩) (by simp) _).setCell (p := ⟨w.heap.size + 1,1,none⟩) (by simp) _⟩
  rw [decide_eq_false bad]
  have HER := Lib.hid (show E = if l.plain = true then (if l.wt ≤ 2147483647 then .nil else .at 4 i 8) else if l.left < h.up.length ∨ h.up.length + h.dn.length ≤ l.left ∨ h.up.length ≤ l.right then x1 else if z.tail = x.tail ∧ v.head = x.head ∧ z.rank = v.rank then (if l.wt ≤ 140737488355328 ∧ z.link.wt ≤ 140737488355328 ∧ v.link.wt ≤ 140737488355328 ∧ z.link.wt + v.link.wt = l.wt then .nil else .at 4 i 8) else x1 by rw [HE.out,if_neg bad])
  clear bad HE
  go_wp2_with fail
  refine HK.out _ _ ?_
  change Code.wp _ (tailAt 5 linkBody) _ _ _
  exact link_rest K.out SEE.out SR.out UOK.out DOK.out htot hi HX.out HZ.out HV.out hl32 hr32 HOK.out HER.out
theorem link_to {s0 s4 s5 s11 s12 s13 s14 s15 s16 s17 s18 s19 s20 s21 s22 s23 s24 s25 s26 s27 s28 s29 s30 s31 s32 s33 s34 s35 s36 s37 s38 s39 s40 s41 s42 s43 s44 s45 s46 s47 s48 s49 s50 s51 s52 s53 s54 s55 s56 s57 s58 s59 s60 s61 s62 s63 s64 s65 s66 s67 s68 s69 s70 s71 s72 s73 s74 s75 s76 s77 s78 s79 s80 s81 s82 s83 s84 s85 s86 s87 s88 s89 s90 s91 s92 s93 s94 s95 s96 s97 s98 s99 s100 s101 s102 s103 s104 s105 s106 s107 s108 s109 s110 s111 s112 s113 s114 s115 s116 s117 s118 s119 s120 s121 s122 s123 s124 s125 s126 s127 s128 s129 s130 s131 s132 s133 s134 s135 s136 s137 s138 s139 s140 s141 s142 s143 s144 s145 s146 s147 s148 s149 s150 s151 s152 s153 s154 s155 s156 s157 s158 s159 s160 s161 s162 s163 s164 s165 s166 s167 s168 s169 s170 s171 s172 s173 s174 s175 s176 s177 s178 s179 s180 s181 s182 s183 s184 s185 s186 s187 s188 s189 s190 s191 s192 s193 : Value} {A : HA} {h : HierD} {l : LinkD} {x y z v : EndD} {w wx : World} {bl be i rc : Nat} {ra : Option Addr} {uc : Int} {ua : Option Addr} {un ucap : Nat} {x1 E : EV} (k : LK0 A h l w bl be [.int .i64 uc, .slice ua un ucap] x1 wx)
  (see : HSee w A h) (sr : See w ra rc i64Cells 1 (ranksL h)) (u : FirstsOk h.node.length h.upF h.up.length) (d : FirstsOk h.node.length h.dnF h.dn.length) (htot : h.up.length + h.dn.length ≤ 1048576) (hi : i < h.up.length + h.dn.length) (hn : h.node.length ≤ 65536) (hx : (endsOf h).getD i default = x) (hz : (endsOf h).getD l.left default = z) (hv : (endsOf h).getD l.right default = v) (hl32 : l.left < 4294967296) (hr32 : l.right < 4294967296) (hy : (endsOf h).getD (i - 1) default = y) (hok : l.ok)
  (hE : E = if h.node.length ≤ l.to ∨ l.to ≤ x.rank then x1 else if 0 < i ∧ i ≠ h.up.length ∧ y.rank = x.rank ∧ l.to ≤ y.link.to then x1 else if l.plain = true then (if l.wt ≤ 2147483647 then .nil else .at 4 i 8) else if l.left < h.up.length ∨ h.up.length + h.dn.length ≤ l.left ∨ h.up.length ≤ l.right then x1 else if z.tail = x.tail ∧ v.head = x.head ∧ z.rank = v.rank then (if l.wt ≤ 140737488355328 ∧ z.link.wt ≤ 140737488355328 ∧ v.link.wt ≤ 140737488355328 ∧ z.link.wt + v.link.wt = l.wt then .nil else .at 4 i 8) else x1) :
  Code.wp Tryz.prog (tailAt 3 linkBody) (bodyPost Tryz.prog Tryz.f54 (ErrNew E w)) ⟨#[s0, .slice ra (ranksL h).length rc, .int .i64 (i : Nat), .pointer (some ⟨w.heap.size,0,none⟩),s4,s5, .pointer (some ⟨(w.heap.size + 1),0,none⟩), .pointer (some ⟨bl,0,none⟩), .int .i64 (h.node.length : Nat), .int .i64 ((h.up.length : Int) + (h.dn.length : Int)), .pointer (some ⟨be,0,none⟩),s11,s12,s13,s14,s15,s16,s17,s18,s19,s20,s21,s22,s23,s24,s25,s26,s27,s28,s29,s30,s31,s32,s33,s34,s35,s36,s37,s38,s39,s40,s41,s42,s43,s44,s45,s46,s47,s48,s49,s50,s51,s52,s53,s54,s55,s56,s57,s58,s59,s60,s61,s62,s63,s64,s65,s66,s67,s68,s69,s70,s71,s72,s73,s74,s75,s76,s77,s78,s79,s80,s81,s82,s83,s84,s85,s86,s87,s88,s89,s90,s91,s92,s93,s94,s95,s96,s97,s98,s99,s100,s101,s102,s103,s104,s105,s106,s107,s108,s109,s110,s111,s112,s113,s114,s115,s116,s117,s118,s119,s120,s121,s122,s123,s124,s125,s126,s127,s128,s129,s130,s131,s132,s133,s134,s135,s136,s137,s138,s139,s140,s141,s142,s143,s144,s145,s146,s147,s148,s149,s150,s151,s152,s153,s154,s155,s156,s157,s158,s159,s160,s161,s162,s163,s164,s165,s166,s167,s168,s169,s170,s171,s172,s173,s174,s175,s176,s177,s178,s179,s180,s181,s182,s183,s184,s185,s186,s187,s188,s189,s190,s191,s192,s193], []⟩ wx := by
 have hlen := endsOf_length u d
 have hrl : (ranksL h).length = (endsOf h).length := by unfold ranksL; simp
 obtain ⟨b2,o2,hra,lb2,cc2⟩ := see_one (f := fun (n : Nat) => Value.int .i64 n) sr (by omega)
 subst hra
 have hgx := ranks_get (h := h) i (by omega)
 rw [hx] at hgx
 have c0 : wx.cell? ⟨bl,0,none⟩ = some (.int .u32 l.to) := k.l.cell rfl
 have cr1 : wx.cell? ⟨b2,o2 + i,none⟩ = some (.int .i64 x.rank) := ck k.b (cc2 i x.rank hgx)
 have hil : i < (ranksL h).length := by omega
 have hl0 := hok.1
 have u1 : IntKind.u64.wrap (l.to : Int) = (l.to : Int) := IntWalk.u64_in _ (by omega)
 have u2 : IntKind.u64.wrap (h.node.length : Int) = (h.node.length : Int) := IntWalk.u64_in _ (by omega)
 have u3 : IntKind.i64.wrap (l.to : Int) = (l.to : Int) := IntWalk.i64_in _ (by omega)
 have K := Lib.hid k
 have SEE := Lib.hid see
 have SR := Lib.hid sr
 have UOK := Lib.hid u
 have DOK := Lib.hid d
 have HE := Lib.hid hE
 have HX := Lib.hid hx
 have HZ := Lib.hid hz
 have HV := Lib.hid hv
 have HOK := Lib.hid hok
 have HY := Lib.hid hy
 clear k see sr u d hE hx hz hv hok hy hgx cc2 lb2 hlen hrl
 conv => arg 2; whnf
 apply wp_seq_k
 intro KK hK
 have HK := Lib.hid hK
 clear hK
 by_cases a1 : h.node.length ≤ l.to
 ·have d1 : decide (h.node.length ≤ l.to) = true := by simpa using a1
  have HER := Lib.hid (show E = x1 by rw [HE.out,if_pos (.inl a1)])
  clear a1 HE
  go_wp2_with fail
  go_quiet (fail)
  go_upto_region 4 with fail
  have K := Lib.hid (K.out.below (below_drewN (Below.refl _ _) nq))
  clear HK SEE SR UOK DOK HX HZ HV HOK HY c0 cr1 u1 u2 u3 d1
  change Code.wp _ ((regionAt 4 linkBody).getD .skip) _ _ _
  refine copy_r4 K.out.e K.out.r ?_
  go_wp2_with fail
  refine bodyPost_ret (results_e rfl _ _ (w.heap.size + 1) 36 [.int .i64 uc, .slice ua un ucap] _ rfl ((K.out.r.set 0 _).set 1 _) Tryz.underlying36 rfl (by rw [Tryz.sizeErr]; rfl)) rfl ?_
  rw [HER.out]
  exact ⟨_,rfl,K.out.u.put K.out.r _ _,(K.out.b.setCell (p := ⟨w.heap.size + 1,0,none⟩) (by simp) _).setCell (p := ⟨w.heap.size + 1,1,none⟩) (by simp) _⟩
 by_cases a2 : l.to ≤ x.rank
 ·have d2 : decide (l.to ≤ x.rank) = true := by simpa using a2
  have d1 : decide (h.node.length ≤ l.to) = false := by simpa using a1
  have HER := Lib.hid (show E = x1 by rw [HE.out,if_pos (.inr a2)])
  clear a1 a2 HE
  go_wp2_with fail
  go_quiet (fail)
  go_upto_region 4 with fail
  have K := Lib.hid (K.out.below (below_drewN (Below.refl _ _) nq))
  clear HK SEE SR UOK DOK HX HZ HV HOK HY c0 cr1 u1 u2 u3 d1 d2
  change Code.wp _ ((regionAt 4 linkBody).getD .skip) _ _ _
  refine copy_r4 K.out.e K.out.r ?_
  go_wp2_with fail
  refine bodyPost_ret (results_e rfl _ _ (w.heap.size + 1) 36 [.int .i64 uc, .slice ua un ucap] _ rfl ((K.out.r.set 0 _).set 1 _) Tryz.underlying36 rfl (by rw [Tryz.sizeErr]; rfl)) rfl ?_
  rw [HER.out]
  exact ⟨_,rfl,K.out.u.put K.out.r _ _,(K.out.b.setCell (p := ⟨w.heap.size + 1,0,none⟩) (by simp) _).setCell (p := ⟨w.heap.size + 1,1,none⟩) (by simp) _⟩
 have d1 : decide (h.node.length ≤ l.to) = false := by simpa using a1
 have d2 : decide (l.to ≤ x.rank) = false := by simpa using a2
 have HER := Lib.hid (show E = if 0 < i ∧ i ≠ h.up.length ∧ y.rank = x.rank ∧ l.to ≤ y.link.to then x1 else if l.plain = true then (if l.wt ≤ 2147483647 then .nil else .at 4 i 8) else if l.left < h.up.length ∨ h.up.length + h.dn.length ≤ l.left ∨ h.up.length ≤ l.right then x1 else if z.tail = x.tail ∧ v.head = x.head ∧ z.rank = v.rank then (if l.wt ≤ 140737488355328 ∧ z.link.wt ≤ 140737488355328 ∧ v.link.wt ≤ 140737488355328 ∧ z.link.wt + v.link.wt = l.wt then .nil else .at 4 i 8) else x1 by rw [HE.out,if_neg (by omega)])
 clear a1 a2 HE
 go_wp2_with fail
 go_quiet (fail)
 go_wp2_with fail
 have K := Lib.hid (K.out.below (below_drewN (Below.refl _ _) nq))
 refine HK.out _ _ ?_
 change Code.wp _ (tailAt 4 linkBody) _ _ _
 exact link_prev K.out SEE.out SR.out UOK.out DOK.out htot hi HX.out HZ.out HV.out hl32 hr32 HY.out HOK.out HER.out
theorem linkErr_eq {h : HierD} {i : Nat} {l : LinkD} {x y z v : EndD} (hlen : (endsOf h).length = h.up.length + h.dn.length) (hl : x.link = l) (hx : (endsOf h).getD i default = x) (hz : (endsOf h).getD l.left default = z) (hv : (endsOf h).getD l.right default = v) (hy : (endsOf h).getD (i - 1) default = y) :
  linkErrD h i = if h.node.length ≤ l.to ∨ l.to ≤ x.rank then (.at 4 i 14) else if 0 < i ∧ i ≠ h.up.length ∧ y.rank = x.rank ∧ l.to ≤ y.link.to then (.at 4 i 14) else if l.plain = true then (if l.wt ≤ 2147483647 then .nil else .at 4 i 8) else if l.left < h.up.length ∨ h.up.length + h.dn.length ≤ l.left ∨ h.up.length ≤ l.right then (.at 4 i 14) else if z.tail = x.tail ∧ v.head = x.head ∧ z.rank = v.rank then (if l.wt ≤ 140737488355328 ∧ z.link.wt ≤ 140737488355328 ∧ v.link.wt ≤ 140737488355328 ∧ z.link.wt + v.link.wt = l.wt then .nil else .at 4 i 8) else (.at 4 i 14) := by
 subst hl
 unfold linkErrD weightB
 rw [shapeB_eq _ _ _ _ _ _ hx hy]
 simp only [hx,hz,hv,hlen]
 by_cases h1 : h.node.length ≤ x.link.to ∨ x.link.to ≤ x.rank
 ·simp only [if_pos h1,if_true]
 ·simp only [if_neg h1]
  by_cases h2 : 0 < i ∧ i ≠ h.up.length ∧ y.rank = x.rank ∧ x.link.to ≤ y.link.to
  ·simp only [if_pos h2,if_true]
  ·simp only [if_neg h2]
   by_cases h3 : x.link.plain = true
   ·simp only [if_pos h3]
    by_cases h4 : x.link.wt ≤ 2147483647 <;> simp [h4]
   ·simp only [if_neg h3]
    by_cases h5 : x.link.left < h.up.length ∨ h.up.length + h.dn.length ≤ x.link.left ∨ h.up.length ≤ x.link.right
    ·simp only [if_pos h5,if_true]
    ·simp only [if_neg h5]
     by_cases h6 : z.tail = x.tail ∧ v.head = x.head ∧ z.rank = v.rank
     ·simp only [if_pos h6]
      by_cases h7 : x.link.wt ≤ 140737488355328 ∧ z.link.wt ≤ 140737488355328 ∧ v.link.wt ≤ 140737488355328 ∧ z.link.wt + v.link.wt = x.link.wt
      ·simp [h6,h7]
      ·rw [decide_eq_true h6,decide_eq_false h7]
       simp [h7]
     ·simp [h6]
def LinkSt (A : HA) (h : HierD) (l : LinkD) (w : World) (s7 s8 s9 : Value) (wx : World) : Prop := ∃ bl,s7 = .pointer (some ⟨bl,0,none⟩) ∧ s8 = .int .i64 h.node.length ∧ s9 = .int .i64 ((h.up.length : Int) + (h.dn.length : Int)) ∧
 Cells wx bl 65 (linkCells l) ∧ Cells wx w.heap.size 25 (hierCells A h) ∧ Cells wx (w.heap.size + 1) 36 errZero ∧ Below w.heap.size w wx
theorem link_from {s0 s4 s5 s10 s11 s12 s13 s14 s15 s16 s17 s18 s19 s20 s21 s22 s23 s24 s25 s26 s27 s28 s29 s30 s31 s32 s33 s34 s35 s36 s37 s38 s39 s40 s41 s42 s43 s44 s45 s46 s47 s48 s49 s50 s51 s52 s53 s54 s55 s56 s57 s58 s59 s60 s61 s62 s63 s64 s65 s66 s67 s68 s69 s70 s71 s72 s73 s74 s75 s76 s77 s78 s79 s80 s81 s82 s83 s84 s85 s86 s87 s88 s89 s90 s91 s92 s93 s94 s95 s96 s97 s98 s99 s100 s101 s102 s103 s104 s105 s106 s107 s108 s109 s110 s111 s112 s113 s114 s115 s116 s117 s118 s119 s120 s121 s122 s123 s124 s125 s126 s127 s128 s129 s130 s131 s132 s133 s134 s135 s136 s137 s138 s139 s140 s141 s142 s143 s144 s145 s146 s147 s148 s149 s150 s151 s152 s153 s154 s155 s156 s157 s158 s159 s160 s161 s162 s163 s164 s165 s166 s167 s168 s169 s170 s171 s172 s173 s174 s175 s176 s177 s178 s179 s180 s181 s182 s183 s184 s185 s186 s187 s188 s189 s190 s191 s192 s193 : Value} {A : HA} {h : HierD} {l : LinkD} {x y z v : EndD} {w wx : World} {bl i rc : Nat} {ra : Option Addr} {E : EV} (kl : Cells wx bl 65 (linkCells l)) (kx : Cells wx w.heap.size 25 (hierCells A h)) (kr : Cells wx (w.heap.size + 1) 36 errZero) (kb : Below w.heap.size w wx)
  (see : HSee w A h) (sr : See w ra rc i64Cells 1 (ranksL h)) (u : FirstsOk h.node.length h.upF h.up.length) (d : FirstsOk h.node.length h.dnF h.dn.length) (htot : h.up.length + h.dn.length ≤ 1048576) (hi : i < h.up.length + h.dn.length) (hn : h.node.length ≤ 65536) (hx : (endsOf h).getD i default = x) (hz : (endsOf h).getD l.left default = z) (hv : (endsOf h).getD l.right default = v) (hl32 : l.left < 4294967296) (hr32 : l.right < 4294967296) (hy : (endsOf h).getD (i - 1) default = y) (hok : l.ok)
  (hE : E = if h.node.length ≤ l.to ∨ l.to ≤ x.rank then (.at 4 i 14) else if 0 < i ∧ i ≠ h.up.length ∧ y.rank = x.rank ∧ l.to ≤ y.link.to then (.at 4 i 14) else if l.plain = true then (if l.wt ≤ 2147483647 then .nil else .at 4 i 8) else if l.left < h.up.length ∨ h.up.length + h.dn.length ≤ l.left ∨ h.up.length ≤ l.right then (.at 4 i 14) else if z.tail = x.tail ∧ v.head = x.head ∧ z.rank = v.rank then (if l.wt ≤ 140737488355328 ∧ z.link.wt ≤ 140737488355328 ∧ v.link.wt ≤ 140737488355328 ∧ z.link.wt + v.link.wt = l.wt then .nil else .at 4 i 8) else (.at 4 i 14)) :
  Code.wp Tryz.prog (tailAt 2 linkBody) (bodyPost Tryz.prog Tryz.f54 (ErrNew E w)) ⟨#[s0, .slice ra (ranksL h).length rc, .int .i64 (i : Nat), .pointer (some ⟨w.heap.size,0,none⟩),s4,s5, .pointer (some ⟨(w.heap.size + 1),0,none⟩), .pointer (some ⟨bl,0,none⟩), .int .i64 (h.node.length : Nat), .int .i64 ((h.up.length : Int) + (h.dn.length : Int)),s10,s11,s12,s13,s14,s15,s16,s17,s18,s19,s20,s21,s22,s23,s24,s25,s26,s27,s28,s29,s30,s31,s32,s33,s34,s35,s36,s37,s38,s39,s40,s41,s42,s43,s44,s45,s46,s47,s48,s49,s50,s51,s52,s53,s54,s55,s56,s57,s58,s59,s60,s61,s62,s63,s64,s65,s66,s67,s68,s69,s70,s71,s72,s73,s74,s75,s76,s77,s78,s79,s80,s81,s82,s83,s84,s85,s86,s87,s88,s89,s90,s91,s92,s93,s94,s95,s96,s97,s98,s99,s100,s101,s102,s103,s104,s105,s106,s107,s108,s109,s110,s111,s112,s113,s114,s115,s116,s117,s118,s119,s120,s121,s122,s123,s124,s125,s126,s127,s128,s129,s130,s131,s132,s133,s134,s135,s136,s137,s138,s139,s140,s141,s142,s143,s144,s145,s146,s147,s148,s149,s150,s151,s152,s153,s154,s155,s156,s157,s158,s159,s160,s161,s162,s163,s164,s165,s166,s167,s168,s169,s170,s171,s172,s173,s174,s175,s176,s177,s178,s179,s180,s181,s182,s183,s184,s185,s186,s187,s188,s189,s190,s191,s192,s193], []⟩ wx := by
 have KL := Lib.hid kl
 have KX := Lib.hid kx
 have KR := Lib.hid kr
 have KB := Lib.hid kb
 have SEE := Lib.hid see
 have SR := Lib.hid sr
 have UOK := Lib.hid u
 have DOK := Lib.hid d
 have HE := Lib.hid hE
 have HX := Lib.hid hx
 have HZ := Lib.hid hz
 have HV := Lib.hid hv
 have HOK := Lib.hid hok
 have HY := Lib.hid hy
 clear kl kx kr kb see sr u d hE hx hz hv hok hy
 conv => arg 2; whnf
 apply wp_seq_k
 intro KK hK
 have HK := Lib.hid hK
 clear hK
 go_wp2_with fail
 refine (e_any 14 _).mono ?_
 rintro e w3 ⟨q,rfl,hq,hb⟩
 obtain rfl : q = _ := hq
 have KL1 := Lib.hid (KL.out.below hb KL.out.lt)
 have KX1 := Lib.hid (KX.out.below hb KX.out.lt)
 have KR1 := Lib.hid (KR.out.below hb KR.out.lt)
 have KB1 := Lib.hid (KB.out.trans (hb.mono KB.out.size))
 clear KL KX KR KB hb
 go_wp2_with fail
 refine (rat_any 4 i 14 _).mono ?_
 rintro e w4 ⟨q,rfl,hq,hb⟩
 obtain ⟨uc,ua,un,ucap,rfl⟩ := hq.form
 have hb2 := KB1.out.trans (hb.mono KB1.out.size)
 have K := Lib.hid (LK0.mk ((KL1.out.below hb KL1.out.lt).alloc (.cells [.int .i64 uc, .slice ua un ucap].toArray 36)) ((KX1.out.below hb KX1.out.lt).alloc _) ((KR1.out.below hb KR1.out.lt).alloc _) (hb2.alloc hb2.size _) (Cells.new w4 36 [.int .i64 uc, .slice ua un ucap]) (hq.below ((Below.refl _ _).alloc (Nat.le_refl _) _)))
 clear KL1 KX1 KR1 KB1 hb hq hb2
 go_wp2_with fail
 refine HK.out _ _ ?_
 change Code.wp _ (tailAt 3 linkBody) _ _ _
 exact link_to K.out SEE.out SR.out UOK.out DOK.out htot hi hn HX.out HZ.out HV.out hl32 hr32 HY.out HOK.out HE.out
theorem rlinkerr_any (A : HA) (h : HierD) (i : Nat) (ra : Option Addr) (rc : Nat) (w : World) (see : HSee w A h) (sr : See w ra rc i64Cells 1 (ranksL h)) (u : FirstsOk h.node.length h.upF h.up.length) (d : FirstsOk h.node.length h.dnF h.dn.length) (htot : h.up.length + h.dn.length ≤ 1048576) (hi : i < h.up.length + h.dn.length) (hn : h.node.length ≤ 65536) :
  Calls Tryz.prog 54 #[hierVal A h, .slice ra (ranksL h).length rc, .int .i64 i] w (ErrNew (linkErrD h i) w) := by
 have hlen := endsOf_length u d
 have hrl : (ranksL h).length = (endsOf h).length := by unfold ranksL; simp
 have hil : i < (ranksL h).length := by omega
 have hu63 : h.up.length ≤ 1048576 := by omega
 have hd63 : h.dn.length ≤ 1048576 := by omega
 have SEE := Lib.hid see
 have SR := Lib.hid sr
 have UOK := Lib.hid u
 have DOK := Lib.hid d
 have HLEN := Lib.hid hlen
 have HRL := Lib.hid hrl
 have HX0 := Lib.hid ((Cells.new w 25 (hierCells A h)).alloc (.cells errZero.toArray 36))
 have hR0 : Cells ((w.alloc (.cells (hierCells A h).toArray 25)).alloc (.cells errZero.toArray 36)) (w.heap.size + 1) 36 errZero := cells_at (by simp) _ _
 have HR0 := Lib.hid hR0
 have HB0 := Lib.hid (((Below.refl w.heap.size w).alloc (Nat.le_refl _) (.cells (hierCells A h).toArray 25)).alloc (by simp) (.cells errZero.toArray 36))
 obtain ⟨l,hl⟩ : ∃ l,linkAt h i = l := ⟨_,rfl⟩
 have HLL := Lib.hid hl
 clear see sr u d hlen hrl hR0 hl
 unfold hierVal
 go_enter Tryz.func54, Tryz.ntmps54
 go_upto_region 1 with fail
 go_cut [7,8,9] (fun s7 s8 s9 wx => LinkSt A h l w s7 s8 s9 wx)
 case first =>
  obtain ⟨wz,hwz⟩ : ∃ wz,(w.alloc (.cells (hierCells A h).toArray 25)).alloc (.cells errZero.toArray 36) = wz := ⟨_,rfl⟩
  have hx0 := HX0.out
  have hb0 := HB0.out
  have hr0 := HR0.out
  rw [hwz] at hx0 hb0 hr0
  obtain ⟨k0,k1,k2,k3,k4⟩ := hier_five hx0
  have lz := hr0.lt
  have nz1 : ¬ wz.heap.size = w.heap.size := by omega
  have nz2 : ¬ w.heap.size = wz.heap.size := by omega
  have HXz := Lib.hid hx0
  have HBz := Lib.hid hb0
  have HRz := Lib.hid hr0
  clear hx0 hb0 hr0
  rw [show (w.alloc (.cells #[.slice A.a0 h.node.length A.c0, .slice A.a1 h.upF.length A.c1, .slice A.a2 h.up.length A.c2, .slice A.a3 h.dnF.length A.c3, .slice A.a4 h.dn.length A.c4] 25)).alloc (.cells #[.int .i64 0, .slice none 0 0] 36) = wz from hwz]
  clear hwz
  go_region_held3 (fun W => W.cell? ⟨w.heap.size,0,none⟩ = some (.slice A.a0 h.node.length A.c0) ∧ W.cell? ⟨w.heap.size,1,none⟩ = some (.slice A.a1 h.upF.length A.c1) ∧ W.cell? ⟨w.heap.size,2,none⟩ = some (.slice A.a2 h.up.length A.c2) ∧ W.cell? ⟨w.heap.size,3,none⟩ = some (.slice A.a3 h.dnF.length A.c3) ∧ W.cell? ⟨w.heap.size,4,none⟩ = some (.slice A.a4 h.dn.length A.c4)) (go_keep)
   (first
    | (go_at_call 29; (with_reducible refine (rlink_lit A h i l _ ?_ HLL.out hi hd63).mono ?_); exact (SEE.out.below HBz.out.drew); rintro e w1 ⟨rfl,hb⟩; (have m0 := ck hb k0); (have m1 := ck hb k1); (have m2 := ck hb k2); (have m3 := ck hb k3); (have m4 := ck hb k4))
    | (go_at_call 29; (with_reducible refine (rlink_lit A h i l _ ?_ HLL.out hi hd63).mono ?_); exact (SEE.out.below (HBz.out.drew.alloc HBz.out.size (.cells #[.int .u32 0, .int .u64 0, .int .u32 0, .int .u32 0] 65))); rintro e w1 ⟨rfl,hb⟩; (have hxa := (HXz.out.drew.alloc (.cells #[.int .u32 0, .int .u64 0, .int .u32 0, .int .u32 0] 65)).below hb (by simp; omega)); (have hla : Cells w1 wz.heap.size 65 [.int .u32 0, .int .u64 0, .int .u32 0, .int .u32 0] := (cells_at (w := wz.drew) rfl _ _).below hb (by simp)); (have HXA := Lib.hid hxa); (have HLA := Lib.hid hla); (have lla := hla.lt); (have ff0 := hla.frozen 0); (have ff1 := hla.frozen 1); (have ff2 := hla.frozen 2); (have ff3 := hla.frozen 3); (have nn0 := hla.cell (i := 0) rfl); (have nn1 := hla.cell (i := 1) rfl); (have nn2 := hla.cell (i := 2) rfl); (have nn3 := hla.cell (i := 3) rfl); (have m0 := hxa.cell (i := 0) rfl); (have m1 := hxa.cell (i := 1) rfl); (have m2 := hxa.cell (i := 2) rfl); (have m3 := hxa.cell (i := 3) rfl); (have m4 := hxa.cell (i := 4) rfl)))
  ·go_wp2_with fail
   go_meet
   have hb' : Below w.heap.size w w1 := HBz.out.drew.trans (hb.mono HBz.out.size)
   exact ⟨w1.heap.size,rfl,rfl,by rw [IntWalk.i64_in _ (by omega)],Cells.new w1 _ (linkCells l),(HXz.out.drew.below hb HXz.out.lt).alloc _,(HRz.out.drew.below hb lz).alloc _,hb'.alloc hb'.size _⟩
  ·go_wp2_with fail
   go_meet
   have hb' : Below w.heap.size w w1 := (HBz.out.drew.alloc HBz.out.size (.cells #[.int .u32 0, .int .u64 0, .int .u32 0, .int .u32 0] 65)).trans (hb.mono (by simp; omega))
   have hra := (HRz.out.drew.alloc (.cells #[.int .u32 0, .int .u64 0, .int .u32 0, .int .u32 0] 65)).below hb (by simp; omega)
   have hz : w.heap.size ≤ wz.heap.size := by omega
   exact ⟨wz.heap.size,rfl,rfl,by rw [IntWalk.i64_in _ (by omega)],(((HLA.out.set 0 _).set 1 _).set 2 _).set 3 _,(((HXA.out.other (a := ⟨wz.heap.size,0,none⟩) nz2 _).other (a := ⟨wz.heap.size,1,none⟩) nz2 _).other (a := ⟨wz.heap.size,2,none⟩) nz2 _).other (a := ⟨wz.heap.size,3,none⟩) nz2 _,
    (((hra.other (a := ⟨wz.heap.size,0,none⟩) (by simp; omega) _).other (a := ⟨wz.heap.size,1,none⟩) (by simp; omega) _).other (a := ⟨wz.heap.size,2,none⟩) (by simp; omega) _).other (a := ⟨wz.heap.size,3,none⟩) (by simp; omega) _,
    (((hb'.setCell (p := ⟨wz.heap.size,0,none⟩) hz _).setCell (p := ⟨wz.heap.size,1,none⟩) hz _).setCell (p := ⟨wz.heap.size,2,none⟩) hz _).setCell (p := ⟨wz.heap.size,3,none⟩) hz _⟩
 case rest =>
  obtain ⟨bl,rfl,rfl,rfl,hcl,hcx,hcr,hbl⟩ := hcut
  go_step
  change Code.wp _ (tailAt 2 linkBody) _ _ _
  have hlk := ends_link UOK.out DOK.out i hi
  rw [HLL.out] at hlk
  have hok : l.ok := by rw [← HLL.out]; exact linkAt_ok SEE.out i hi
  exact link_from hcl hcx hcr hbl SEE.out SR.out UOK.out DOK.out htot hi hn rfl rfl rfl hok.2.2.1 hok.2.2.2 rfl hok (linkErr_eq HLEN.out hlk rfl rfl rfl rfl)
end Go.Proofs.YtchhbgckonpedaaGreatDoor
