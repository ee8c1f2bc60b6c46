/- The reference's look at one link: the ends of a link and its children; the children's numbers. -/
import Derived.Test.YtchhbgckonpedaaGreatDoorE19
set_option linter.unusedSimpArgs false
set_option maxRecDepth 100000
set_option maxHeartbeats 8000000
namespace Go.Proofs.YtchhbgckonpedaaGreatDoor
open Go.ChangeShapes Go.WideShapes Go.ChangeAt Go.RowKit Go.Joins Go.Deep
theorem link_three {s0 s4 s5 s8 s9 s12 s13 s14 s15 s16 s17 s18 s19 s20 s21 s22 s23 s24 s25 s26 s27 s28 s29 s30 s31 s32 s33 s34 s35 s36 s37 s38 s39 s40 s41 s42 s43 s44 s45 s46 s47 s48 s49 s50 s51 s52 s53 s54 s55 s56 s57 s58 s59 s60 s61 s62 s63 s64 s65 s66 s67 s68 s69 s70 s71 s72 s73 s74 s75 s76 s77 s78 s79 s80 s81 s82 s83 s84 s85 s86 s87 s88 s89 s90 s91 s92 s93 s94 s95 s96 s97 s98 s99 s100 s101 s102 s103 s104 s105 s106 s107 s108 s109 s110 s111 s112 s113 s114 s115 s116 s117 s118 s119 s120 s121 s122 s123 s124 s125 s126 s127 s128 s129 s130 s131 s132 s133 s134 s135 s136 s137 s138 s139 s140 s141 s142 s143 s144 s145 s146 s147 s148 s149 s150 s151 s152 s153 s154 s155 s156 s157 s158 s159 s160 s161 s162 s163 s164 s165 s166 s167 s168 s169 s170 s171 s172 s173 s174 s175 s176 s177 s178 s179 s180 s181 s182 s183 s184 s185 s186 s187 s188 s189 s190 s191 s192 s193 : Value} {A : HA} {h : HierD} {l : LinkD} {x z v : EndD} {w wx : World} {bl be bD i rc : Nat} {ra : Option Addr} {uc vc : Int} {ua va : Option Addr} {un ucap vn vcap : Nat} {x1 x2 E : EV} (k : LK A h l w bl be bD [.int .i64 uc, .slice ua un ucap] [.int .i64 vc, .slice va vn vcap] x1 x2 wx)
  (see : HSee w A h) (sr : See w ra rc i64Cells 1 (ranksL h)) (u : FirstsOk h.node.length h.upF h.up.length) (d : FirstsOk h.node.length h.dnF h.dn.length) (htot : h.up.length + h.dn.length ≤ 1048576) (hi : i < h.up.length + h.dn.length) (hlt : l.left < h.up.length + h.dn.length) (hrt : l.right < h.up.length + h.dn.length) (hx : (endsOf h).getD i default = x) (hz : (endsOf h).getD l.left default = z) (hv : (endsOf h).getD l.right default = v) (hl32 : l.left < 4294967296) (hr32 : l.right < 4294967296)
  (hE : E = if z.tail = x.tail ∧ v.head = x.head ∧ z.rank = v.rank then (if l.wt ≤ 140737488355328 ∧ z.link.wt ≤ 140737488355328 ∧ v.link.wt ≤ 140737488355328 ∧ z.link.wt + v.link.wt = l.wt then .nil else x2) else x1) :
  Code.wp Tryz.prog (tailAt 8 linkBody) (bodyPost Tryz.prog Tryz.f54 (ErrNew E w)) ⟨#[s0, .slice ra (ranksL h).length rc, .int .i64 (i : Nat), .pointer (some ⟨w.heap.size,0,none⟩),s4,s5, .pointer (some ⟨(w.heap.size + 1),0,none⟩), .pointer (some ⟨bl,0,none⟩),s8,s9, .pointer (some ⟨be,0,none⟩), .pointer (some ⟨bD,0,none⟩),s12,s13,s14,s15,s16,s17,s18,s19,s20,s21,s22,s23,s24,s25,s26,s27,s28,s29,s30,s31,s32,s33,s34,s35,s36,s37,s38,s39,s40,s41,s42,s43,s44,s45,s46,s47,s48,s49,s50,s51,s52,s53,s54,s55,s56,s57,s58,s59,s60,s61,s62,s63,s64,s65,s66,s67,s68,s69,s70,s71,s72,s73,s74,s75,s76,s77,s78,s79,s80,s81,s82,s83,s84,s85,s86,s87,s88,s89,s90,s91,s92,s93,s94,s95,s96,s97,s98,s99,s100,s101,s102,s103,s104,s105,s106,s107,s108,s109,s110,s111,s112,s113,s114,s115,s116,s117,s118,s119,s120,s121,s122,s123,s124,s125,s126,s127,s128,s129,s130,s131,s132,s133,s134,s135,s136,s137,s138,s139,s140,s141,s142,s143,s144,s145,s146,s147,s148,s149,s150,s151,s152,s153,s154,s155,s156,s157,s158,s159,s160,s161,s162,s163,s164,s165,s166,s167,s168,s169,s170,s171,s172,s173,s174,s175,s176,s177,s178,s179,s180,s181,s182,s183,s184,s185,s186,s187,s188,s189,s190,s191,s192,s193], []⟩ wx := by
 obtain ⟨k0,k1,k2,k3,k4⟩ := hier_five k.x
 have c2 : wx.cell? ⟨bl,2,none⟩ = some (.int .u32 l.left) := k.l.cell rfl
 have c3 : wx.cell? ⟨bl,3,none⟩ = some (.int .u32 l.right) := k.l.cell rfl
 have hl' : linkAt h l.left = z.link := by rw [← hz]; exact (ends_link u d _ hlt).symm
 have hr' : linkAt h l.right = v.link := by rw [← hv]; exact (ends_link u d _ hrt).symm
 conv => arg 2; whnf
 apply wp_seq_k
 intro KK hK
 change Code.wp _ ((regionAt 14 linkBody).getD .skip) _ _ _
 refine reg14 (bh := w.heap.size) (bl := bl) (iv := (i : Nat)) (lv := (l.left : Nat)) (rv := (l.right : Nat)) (RV := .slice ra (ranksL h).length rc) (x0 := x.tail) (x1 := x.head) (x2 := x.rank) (z0 := z.tail) (z1 := z.head) (z2 := z.rank) (v0 := v.tail) (v1 := v.head) (v2 := v.rank) _ _ _ _ _ _ _ _ _ _ _ _ _ _ _ _ _ _ _ _ _ _ _ _ _ _ _ _ _ _ _ _ _ _ _ _ _ _ _ _ _ _ _ _ _ _ _ _ _ _ _ _ _ _ _ _ _ _ _ _ _ _ _ _ _ _ _ _ _ _ _ _ _ _ _ _ _ _ _ _ _ _ _ _ _ _ _ _ _ _ _ _ _ _ _ _ _ _ _ _ _ _ _ _ _ _ _ _ _ _ _ _ _ _ _ _ _ _ _ _ _ _ _ _ _ _ _ _ _ _ _ _ _ _ _ _ _ _ _ _ _ _ _ _ _ _ _ _ _ _ _ _ _ _ _ _ _ _ _ _ _ _ _ _ _ _ _ _ _ _ _ _ _ _ _ _ _ _ _ _ _ _ _ _ _ _ _ _ _ _ _ _ (fun _ _ t _ _ hq => by cases t <;> exact hq) k0 k1 k2 k3 k4 c2 c3 (IntWalk.i64_in _ (by omega)) (IntWalk.i64_in _ (by omega)) ?_ ?_ ?_ ?_
 ·intro w' hb
  have hb2 := k.b.trans (hb.mono k.b.size)
  have hc := rendof_lit A h i ra rc w' (see.below hb2) (sr.below hb2) u d htot hi
  rw [hx] at hc
  exact hc
 ·intro w' hb
  have hb2 := k.b.trans (hb.mono k.b.size)
  have hc := rendof_lit A h l.left ra rc w' (see.below hb2) (sr.below hb2) u d htot hlt
  rw [hz] at hc
  exact hc
 ·intro w' hb
  have hb2 := k.b.trans (hb.mono k.b.size)
  have hc := rendof_lit A h l.right ra rc w' (see.below hb2) (sr.below hb2) u d htot hrt
  rw [hv] at hc
  exact hc
 ·intro p1 p2 p3 t125 t126 t127 t128 t129 t130 t131 t132 t133 t134 t135 t136 t137 t138 t139 t140 w' H1 H2 H3 hb
  try dsimp only [Exit.then]
  refine hK _ _ ?_
  change Code.wp _ (tailAt 9 linkBody) _ _ _
  exact link_ends (k.below hb) see hlt hrt (by omega) hl' hr' hl32 hr32 H1 H2 H3 hE
theorem link_nums {s0 s4 s5 s8 s12 s13 s14 s15 s16 s17 s18 s19 s20 s21 s22 s23 s24 s25 s26 s27 s28 s29 s30 s31 s32 s33 s34 s35 s36 s37 s38 s39 s40 s41 s42 s43 s44 s45 s46 s47 s48 s49 s50 s51 s52 s53 s54 s55 s56 s57 s58 s59 s60 s61 s62 s63 s64 s65 s66 s67 s68 s69 s70 s71 s72 s73 s74 s75 s76 s77 s78 s79 s80 s81 s82 s83 s84 s85 s86 s87 s88 s89 s90 s91 s92 s93 s94 s95 s96 s97 s98 s99 s100 s101 s102 s103 s104 s105 s106 s107 s108 s109 s110 s111 s112 s113 s114 s115 s116 s117 s118 s119 s120 s121 s122 s123 s124 s125 s126 s127 s128 s129 s130 s131 s132 s133 s134 s135 s136 s137 s138 s139 s140 s141 s142 s143 s144 s145 s146 s147 s148 s149 s150 s151 s152 s153 s154 s155 s156 s157 s158 s159 s160 s161 s162 s163 s164 s165 s166 s167 s168 s169 s170 s171 s172 s173 s174 s175 s176 s177 s178 s179 s180 s181 s182 s183 s184 s185 s186 s187 s188 s189 s190 s191 s192 s193 : Value} {A : HA} {h : HierD} {l : LinkD} {x z v : EndD} {w wx : World} {bl be bD i rc : Nat} {ra : Option Addr} {uc vc : Int} {ua va : Option Addr} {un ucap vn vcap : Nat} {x1 x2 E : EV} (k : LK A h l w bl be bD [.int .i64 uc, .slice ua un ucap] [.int .i64 vc, .slice va vn vcap] x1 x2 wx)
  (see : HSee w A h) (sr : See w ra rc i64Cells 1 (ranksL h)) (u : FirstsOk h.node.length h.upF h.up.length) (d : FirstsOk h.node.length h.dnF h.dn.length) (htot : h.up.length + h.dn.length ≤ 1048576) (hi : i < h.up.length + h.dn.length) (hx : (endsOf h).getD i default = x) (hz : (endsOf h).getD l.left default = z) (hv : (endsOf h).getD l.right default = v) (hl32 : l.left < 4294967296) (hr32 : l.right < 4294967296)
  (hE : E = if l.left < h.up.length ∨ h.up.length + h.dn.length ≤ l.left ∨ h.up.length ≤ l.right then x1 else if z.tail = x.tail ∧ v.head = x.head ∧ z.rank = v.rank then (if l.wt ≤ 140737488355328 ∧ z.link.wt ≤ 140737488355328 ∧ v.link.wt ≤ 140737488355328 ∧ z.link.wt + v.link.wt = l.wt then .nil else x2) else x1) :
  Code.wp Tryz.prog (tailAt 7 linkBody) (bodyPost Tryz.prog Tryz.f54 (ErrNew E w)) ⟨#[s0, .slice ra (ranksL h).length rc, .int .i64 (i : Nat), .pointer (some ⟨w.heap.size,0,none⟩),s4,s5, .pointer (some ⟨(w.heap.size + 1),0,none⟩), .pointer (some ⟨bl,0,none⟩),s8, .int .i64 ((h.up.length : Int) + (h.dn.length : Int)), .pointer (some ⟨be,0,none⟩), .pointer (some ⟨bD,0,none⟩),s12,s13,s14,s15,s16,s17,s18,s19,s20,s21,s22,s23,s24,s25,s26,s27,s28,s29,s30,s31,s32,s33,s34,s35,s36,s37,s38,s39,s40,s41,s42,s43,s44,s45,s46,s47,s48,s49,s50,s51,s52,s53,s54,s55,s56,s57,s58,s59,s60,s61,s62,s63,s64,s65,s66,s67,s68,s69,s70,s71,s72,s73,s74,s75,s76,s77,s78,s79,s80,s81,s82,s83,s84,s85,s86,s87,s88,s89,s90,s91,s92,s93,s94,s95,s96,s97,s98,s99,s100,s101,s102,s103,s104,s105,s106,s107,s108,s109,s110,s111,s112,s113,s114,s115,s116,s117,s118,s119,s120,s121,s122,s123,s124,s125,s126,s127,s128,s129,s130,s131,s132,s133,s134,s135,s136,s137,s138,s139,s140,s141,s142,s143,s144,s145,s146,s147,s148,s149,s150,s151,s152,s153,s154,s155,s156,s157,s158,s159,s160,s161,s162,s163,s164,s165,s166,s167,s168,s169,s170,s171,s172,s173,s174,s175,s176,s177,s178,s179,s180,s181,s182,s183,s184,s185,s186,s187,s188,s189,s190,s191,s192,s193], []⟩ wx := by
 have K := Lib.hid k
 have SEE := Lib.hid see
 have SR := Lib.hid sr
 have UOK := Lib.hid u
 have DOK := Lib.hid d
 have HE := Lib.hid hE
 have HX := Lib.hid hx
 have HZ := Lib.hid hz
 have HV := Lib.hid hv
 obtain ⟨k0,k1,k2,k3,k4⟩ := hier_five k.x
 have c2 : wx.cell? ⟨bl,2,none⟩ = some (.int .u32 l.left) := k.l.cell rfl
 have c3 : wx.cell? ⟨bl,3,none⟩ = some (.int .u32 l.right) := k.l.cell rfl
 have u4 : IntKind.u64.wrap (l.left : Int) = (l.left : Int) := IntWalk.u64_in _ (by omega)
 have u5 : IntKind.u64.wrap (l.right : Int) = (l.right : Int) := IntWalk.u64_in _ (by omega)
 have u6 : IntKind.u64.wrap ((h.up.length : Int) + (h.dn.length : Int)) = (h.up.length : Int) + (h.dn.length : Int) := IntWalk.u64_in _ (by omega)
 have u7 : IntKind.i64.wrap (l.left : Int) = (l.left : Int) := IntWalk.i64_in _ (by omega)
 have u8 : IntKind.i64.wrap (l.right : Int) = (l.right : Int) := IntWalk.i64_in _ (by omega)
 clear k see sr u d hE hx hz hv
 conv => arg 2; whnf
 apply wp_seq_k
 intro KK hK
 have HK := Lib.hid hK
 clear hK
 by_cases g1 : h.up.length + h.dn.length ≤ l.left
 ·have e1 : decide ((h.up.length : Int) + (h.dn.length : Int) ≤ (l.left : Int)) = true := by simp; omega
  have HER := Lib.hid (show E = x1 by rw [HE.out,if_pos (by omega)])
  clear g1  HE
  go_upto_region 13 with fail
  clear k0 k1 k2 k3 k4 c2 c3 u4 u5 u6 u7 u8 e1 HK HX HZ HV SEE SR UOK DOK
  change Code.wp _ ((regionAt 13 linkBody).getD .skip) _ _ _
  refine copy_r13 K.out.e K.out.r ?_
  go_wp2_with fail
  refine bodyPost_ret (results_e rfl _ _ (w.heap.size + 1) 36 [.int .i64 uc, .slice ua un ucap] _ rfl ((K.out.r.set 0 _).set 1 _) Tryz.underlying36 rfl (by rw [Tryz.sizeErr]; rfl)) rfl ?_
  rw [HER.out]
  exact ⟨_,rfl,K.out.u.put K.out.r _ _,(K.out.b.setCell (p := ⟨w.heap.size + 1,0,none⟩) (by simp) _).setCell (p := ⟨w.heap.size + 1,1,none⟩) (by simp) _⟩
 have e1 : decide ((h.up.length : Int) + (h.dn.length : Int) ≤ (l.left : Int)) = false := by simp; omega
 by_cases g2 : h.up.length + h.dn.length ≤ l.right
 ·have e2 : decide ((h.up.length : Int) + (h.dn.length : Int) ≤ (l.right : Int)) = true := by simp; omega
  have HER := Lib.hid (show E = x1 by rw [HE.out,if_pos (by omega)])
  clear g2 g1  HE
  go_upto_region 13 with fail
  clear k0 k1 k2 k3 k4 c2 c3 u4 u5 u6 u7 u8 e2 HK HX HZ HV SEE SR UOK DOK
  change Code.wp _ ((regionAt 13 linkBody).getD .skip) _ _ _
  refine copy_r13 K.out.e K.out.r ?_
  go_wp2_with fail
  refine bodyPost_ret (results_e rfl _ _ (w.heap.size + 1) 36 [.int .i64 uc, .slice ua un ucap] _ rfl ((K.out.r.set 0 _).set 1 _) Tryz.underlying36 rfl (by rw [Tryz.sizeErr]; rfl)) rfl ?_
  rw [HER.out]
  exact ⟨_,rfl,K.out.u.put K.out.r _ _,(K.out.b.setCell (p := ⟨w.heap.size + 1,0,none⟩) (by simp) _).setCell (p := ⟨w.heap.size + 1,1,none⟩) (by simp) _⟩
 have e2 : decide ((h.up.length : Int) + (h.dn.length : Int) ≤ (l.right : Int)) = false := by simp; omega
 by_cases g3 : l.left < h.up.length
 ·have e3 : decide (l.left < h.up.length) = true := by simp; omega
  have HER := Lib.hid (show E = x1 by rw [HE.out,if_pos (by omega)])
  clear g3 g1 g2  HE
  go_upto_region 13 with fail
  clear k0 k1 k2 k3 k4 c2 c3 u4 u5 u6 u7 u8 e3 HK HX HZ HV SEE SR UOK DOK
  change Code.wp _ ((regionAt 13 linkBody).getD .skip) _ _ _
  refine copy_r13 K.out.e K.out.r ?_
  go_wp2_with fail
  refine bodyPost_ret (results_e rfl _ _ (w.heap.size + 1) 36 [.int .i64 uc, .slice ua un ucap] _ rfl ((K.out.r.set 0 _).set 1 _) Tryz.underlying36 rfl (by rw [Tryz.sizeErr]; rfl)) rfl ?_
  rw [HER.out]
  exact ⟨_,rfl,K.out.u.put K.out.r _ _,(K.out.b.setCell (p := ⟨w.heap.size + 1,0,none⟩) (by simp) _).setCell (p := ⟨w.heap.size + 1,1,none⟩) (by simp) _⟩
 have e3 : decide (l.left < h.up.length) = false := by simp; omega
 by_cases g4 : h.up.length ≤ l.right
 ·have e4 : decide (h.up.length ≤ l.right) = true := by simp; omega
  have HER := Lib.hid (show E = x1 by rw [HE.out,if_pos (by omega)])
  clear g4 g1 g2 g3  HE
  go_upto_region 13 with fail
  clear k0 k1 k2 k3 k4 c2 c3 u4 u5 u6 u7 u8 e4 HK HX HZ HV SEE SR UOK DOK
  change Code.wp _ ((regionAt 13 linkBody).getD .skip) _ _ _
  refine copy_r13 K.out.e K.out.r ?_
  go_wp2_with fail
  refine bodyPost_ret (results_e rfl _ _ (w.heap.size + 1) 36 [.int .i64 uc, .slice ua un ucap] _ rfl ((K.out.r.set 0 _).set 1 _) Tryz.underlying36 rfl (by rw [Tryz.sizeErr]; rfl)) rfl ?_
  rw [HER.out]
  exact ⟨_,rfl,K.out.u.put K.out.r _ _,(K.out.b.setCell (p := ⟨w.heap.size + 1,0,none⟩) (by simp) _).setCell (p := ⟨w.heap.size + 1,1,none⟩) (by simp) _⟩
 have e4 : decide (h.up.length ≤ l.right) = false := by simp; omega
 have HER := Lib.hid (show E = if z.tail = x.tail ∧ v.head = x.head ∧ z.rank = v.rank then (if l.wt ≤ 140737488355328 ∧ z.link.wt ≤ 140737488355328 ∧ v.link.wt ≤ 140737488355328 ∧ z.link.wt + v.link.wt = l.wt then .nil else x2) else x1 by rw [HE.out,if_neg (by omega)])
 have hlt : l.left < h.up.length + h.dn.length := by omega
 have hrt : l.right < h.up.length + h.dn.length := by omega
 clear HE g1 g2 g3 g4 
 go_wp2_with fail
 refine HK.out _ _ ?_
 change Code.wp _ (tailAt 8 linkBody) _ _ _
 exact link_three K.out SEE.out SR.out UOK.out DOK.out htot hi hlt hrt HX.out HZ.out HV.out hl32 hr32 HER.out
end Go.Proofs.YtchhbgckonpedaaGreatDoor
/- The reference's look at one link: a plain link; the error of its weight. -/
namespace Go.Proofs.YtchhbgckonpedaaGreatDoor
open Go.ChangeShapes Go.WideShapes Go.ChangeAt Go.RowKit Go.Joins Go.Deep
structure LK0 (A : HA) (h : HierD) (l : LinkD) (w : World) (bl be : Nat) (e1 : List Value) (x1 : EV) (wx : World) : Prop where
 l : Cells wx bl 65 (linkCells l)
 x : Cells wx w.heap.size 25 (hierCells A h)
 r : Cells wx (w.heap.size + 1) 36 errZero
 b : Below w.heap.size w wx
 e : Cells wx be 36 e1
 u : ErrV wx (.agg e1.toArray) x1
theorem LK0.below {A : HA} {h : HierD} {l : LinkD} {w : World} {bl be : Nat} {e1 : List Value} {x1 : EV} {wx wy : World} (k : LK0 A h l w bl be e1 x1 wx) (o : Below wx.heap.size wx wy) : LK0 A h l w bl be e1 x1 wy :=
 ⟨k.l.below o k.l.lt,k.x.below o k.x.lt,k.r.below o k.r.lt,k.b.trans (o.mono k.b.size),k.e.below o k.e.lt,k.u.below o⟩
theorem link_plain {s0 s4 s5 s8 s12 s13 s14 s15 s16 s17 s18 s19 s20 s21 s22 s23 s24 s25 s26 s27 s28 s29 s30 s31 s32 s33 s34 s35 s36 s37 s38 s39 s40 s41 s42 s43 s44 s45 s46 s47 s48 s49 s50 s51 s52 s53 s54 s55 s56 s57 s58 s59 s60 s61 s62 s63 s64 s65 s66 s67 s68 s69 s70 s71 s72 s73 s74 s75 s76 s77 s78 s79 s80 s81 s82 s83 s84 s85 s86 s87 s88 s89 s90 s91 s92 s93 s94 s95 s96 s97 s98 s99 s100 s101 s102 s103 s104 s105 s106 s107 s108 s109 s110 s111 s112 s113 s114 s115 s116 s117 s118 s119 s120 s121 s122 s123 s124 s125 s126 s127 s128 s129 s130 s131 s132 s133 s134 s135 s136 s137 s138 s139 s140 s141 s142 s143 s144 s145 s146 s147 s148 s149 s150 s151 s152 s153 s154 s155 s156 s157 s158 s159 s160 s161 s162 s163 s164 s165 s166 s167 s168 s169 s170 s171 s172 s173 s174 s175 s176 s177 s178 s179 s180 s181 s182 s183 s184 s185 s186 s187 s188 s189 s190 s191 s192 s193 : Value} {A : HA} {h : HierD} {l : LinkD} {x z v : EndD} {w wx : World} {bl be bD i rc : Nat} {ra : Option Addr} {uc vc : Int} {ua va : Option Addr} {un ucap vn vcap : Nat} {x1 E : EV} (k : LK A h l w bl be bD [.int .i64 uc, .slice ua un ucap] [.int .i64 vc, .slice va vn vcap] x1 (.at 4 i 8) wx)
  (see : HSee w A h) (sr : See w ra rc i64Cells 1 (ranksL h)) (u : FirstsOk h.node.length h.upF h.up.length) (d : FirstsOk h.node.length h.dnF h.dn.length) (htot : h.up.length + h.dn.length ≤ 1048576) (hi : i < h.up.length + h.dn.length) (hx : (endsOf h).getD i default = x) (hz : (endsOf h).getD l.left default = z) (hv : (endsOf h).getD l.right default = v) (hl32 : l.left < 4294967296) (hr32 : l.right < 4294967296) (hok : l.ok)
  (hE : E = if l.plain = true then (if l.wt ≤ 2147483647 then .nil else .at 4 i 8) else if l.left < h.up.length ∨ h.up.length + h.dn.length ≤ l.left ∨ h.up.length ≤ l.right then x1 else if z.tail = x.tail ∧ v.head = x.head ∧ z.rank = v.rank then (if l.wt ≤ 140737488355328 ∧ z.link.wt ≤ 140737488355328 ∧ v.link.wt ≤ 140737488355328 ∧ z.link.wt + v.link.wt = l.wt then .nil else .at 4 i 8) else x1) :
  Code.wp Tryz.prog (tailAt 6 linkBody) (bodyPost Tryz.prog Tryz.f54 (ErrNew E w)) ⟨#[s0, .slice ra (ranksL h).length rc, .int .i64 (i : Nat), .pointer (some ⟨w.heap.size,0,none⟩),s4,s5, .pointer (some ⟨(w.heap.size + 1),0,none⟩), .pointer (some ⟨bl,0,none⟩),s8, .int .i64 ((h.up.length : Int) + (h.dn.length : Int)), .pointer (some ⟨be,0,none⟩), .pointer (some ⟨bD,0,none⟩),s12,s13,s14,s15,s16,s17,s18,s19,s20,s21,s22,s23,s24,s25,s26,s27,s28,s29,s30,s31,s32,s33,s34,s35,s36,s37,s38,s39,s40,s41,s42,s43,s44,s45,s46,s47,s48,s49,s50,s51,s52,s53,s54,s55,s56,s57,s58,s59,s60,s61,s62,s63,s64,s65,s66,s67,s68,s69,s70,s71,s72,s73,s74,s75,s76,s77,s78,s79,s80,s81,s82,s83,s84,s85,s86,s87,s88,s89,s90,s91,s92,s93,s94,s95,s96,s97,s98,s99,s100,s101,s102,s103,s104,s105,s106,s107,s108,s109,s110,s111,s112,s113,s114,s115,s116,s117,s118,s119,s120,s121,s122,s123,s124,s125,s126,s127,s128,s129,s130,s131,s132,s133,s134,s135,s136,s137,s138,s139,s140,s141,s142,s143,s144,s145,s146,s147,s148,s149,s150,s151,s152,s153,s154,s155,s156,s157,s158,s159,s160,s161,s162,s163,s164,s165,s166,s167,s168,s169,s170,s171,s172,s173,s174,s175,s176,s177,s178,s179,s180,s181,s182,s183,s184,s185,s186,s187,s188,s189,s190,s191,s192,s193], []⟩ wx := by
 have K0 := Lib.hid k
 have SEE := Lib.hid see
 have SR := Lib.hid sr
 have UOK := Lib.hid u
 have DOK := Lib.hid d
 have HE := Lib.hid hE
 have HX := Lib.hid hx
 have HZ := Lib.hid hz
 have HV := Lib.hid hv
 have HOK := Lib.hid hok
 have c0 : wx.cell? ⟨bl,0,none⟩ = some (.int .u32 l.to) := k.l.cell rfl
 have c1 : wx.cell? ⟨bl,1,none⟩ = some (.int .u64 l.wt) := k.l.cell rfl
 have c2 : wx.cell? ⟨bl,2,none⟩ = some (.int .u32 l.left) := k.l.cell rfl
 have c3 : wx.cell? ⟨bl,3,none⟩ = some (.int .u32 l.right) := k.l.cell rfl
 clear k see sr u d hE hx hz hv hok
 conv => arg 2; whnf
 apply wp_seq_k
 intro KK hK
 have HK := Lib.hid hK
 clear hK
 go_wp2_with fail
 refine (rplain_lit l _ HOK.out).mono ?_
 rintro e w5 ⟨rfl,hb⟩
 have K := Lib.hid (K0.out.below hb)
 clear K0 c0 c1 c2 c3
 by_cases hp : l.plain = true
 ·rw [hp]
  have c1 : w5.cell? ⟨bl,1,none⟩ = some (.int .u64 l.wt) := K.out.l.cell rfl
  by_cases hw : l.wt ≤ 2147483647
  ·have HER := Lib.hid (show E = .nil by rw [HE.out,if_pos hp,if_pos hw])
   have e1 : decide ((2147483647 : Int) < (l.wt : Int)) = false := by simp; omega
   clear hp hw HE
   go_upto_region 11 with fail
   clear c1 e1 hb SEE SR UOK DOK HX HZ HV HOK HK
   change Code.wp _ ((regionAt 11 linkBody).getD .skip) _ _ _
   refine zero_r11 K.out.r ?_
   go_wp2_with fail
   refine bodyPost_ret (results_e rfl _ _ (w.heap.size + 1) 36 [.int .i64 0, .slice none 0 0] _ rfl ((K.out.r.set 0 _).set 1 _) Tryz.underlying36 rfl (by rw [Tryz.sizeErr]; rfl)) rfl ?_
   rw [HER.out]
   exact ⟨_,rfl,rfl,(K.out.b.setCell (p := ⟨w.heap.size + 1,0,none⟩) (by simp) _).setCell (p := ⟨w.heap.size + 1,1,none⟩) (by simp) _⟩
  ·have HER := Lib.hid (show E = .at 4 i 8 by rw [HE.out,if_pos hp,if_neg hw])
   have e1 : decide ((2147483647 : Int) < (l.wt : Int)) = true := by simp; omega
   clear hp hw HE
   go_upto_region 10 with fail
   clear c1 e1 hb SEE SR UOK DOK HX HZ HV HOK HK
   change Code.wp _ ((regionAt 10 linkBody).getD .skip) _ _ _
   refine copy_r10 K.out.d K.out.r ?_
   go_wp2_with fail
   refine bodyPost_ret (results_e rfl _ _ (w.heap.size + 1) 36 [.int .i64 vc, .slice va vn vcap] _ rfl ((K.out.r.set 0 _).set 1 _) Tryz.underlying36 rfl (by rw [Tryz.sizeErr]; rfl)) rfl ?_
   rw [HER.out]
   exact ⟨_,rfl,K.out.v.put K.out.r _ _,(K.out.b.setCell (p := ⟨w.heap.size + 1,0,none⟩) (by simp) _).setCell (p := ⟨w.heap.size + 1,1,none⟩) (by simp) _⟩
 have hpf : l.plain = false := by simpa using hp
 rw [hpf]
 have HER := Lib.hid (show E = if l.left < h.up.length ∨ h.up.length + h.dn.length ≤ l.left ∨ h.up.length ≤ l.right then x1 else if z.tail = x.tail ∧ v.head = x.head ∧ z.rank = v.rank then (if l.wt ≤ 140737488355328 ∧ z.link.wt ≤ 140737488355328 ∧ v.link.wt ≤ 140737488355328 ∧ z.link.wt + v.link.wt = l.wt then .nil else .at 4 i 8) else x1 by rw [HE.out,if_neg hp])
 clear hp hpf HE
 go_wp2_with fail
 refine HK.out _ _ ?_
 change Code.wp _ (tailAt 7 linkBody) _ _ _
 exact link_nums K.out SEE.out SR.out UOK.out DOK.out htot hi HX.out HZ.out HV.out hl32 hr32 HER.out
theorem link_rest {s0 s4 s5 s8 s11 s12 s13 s14 s15 s16 s17 s18 s19 s20 s21 s22 s23 s24 s25 s26 s27 s28 s29 s30 s31 s32 s33 s34 s35 s36 s37 s38 s39 s40 s41 s42 s43 s44 s45 s46 s47 s48 s49 s50 s51 s52 s53 s54 s55 s56 s57 s58 s59 s60 s61 s62 s63 s64 s65 s66 s67 s68 s69 s70 s71 s72 s73 s74 s75 s76 s77 s78 s79 s80 s81 s82 s83 s84 s85 s86 s87 s88 s89 s90 s91 s92 s93 s94 s95 s96 s97 s98 s99 s100 s101 s102 s103 s104 s105 s106 s107 s108 s109 s110 s111 s112 s113 s114 s115 s116 s117 s118 s119 s120 s121 s122 s123 s124 s125 s126 s127 s128 s129 s130 s131 s132 s133 s134 s135 s136 s137 s138 s139 s140 s141 s142 s143 s144 s145 s146 s147 s148 s149 s150 s151 s152 s153 s154 s155 s156 s157 s158 s159 s160 s161 s162 s163 s164 s165 s166 s167 s168 s169 s170 s171 s172 s173 s174 s175 s176 s177 s178 s179 s180 s181 s182 s183 s184 s185 s186 s187 s188 s189 s190 s191 s192 s193 : Value} {A : HA} {h : HierD} {l : LinkD} {x z v : EndD} {w wx : World} {bl be i rc : Nat} {ra : Option Addr} {uc : Int} {ua : Option Addr} {un ucap : Nat} {x1 E : EV} (k : LK0 A h l w bl be [.int .i64 uc, .slice ua un ucap] x1 wx)
  (see : HSee w A h) (sr : See w ra rc i64Cells 1 (ranksL h)) (u : FirstsOk h.node.length h.upF h.up.length) (d : FirstsOk h.node.length h.dnF h.dn.length) (htot : h.up.length + h.dn.length ≤ 1048576) (hi : i < h.up.length + h.dn.length) (hx : (endsOf h).getD i default = x) (hz : (endsOf h).getD l.left default = z) (hv : (endsOf h).getD l.right default = v) (hl32 : l.left < 4294967296) (hr32 : l.right < 4294967296) (hok : l.ok)
  (hE : E = if l.plain = true then (if l.wt ≤ 2147483647 then .nil else .at 4 i 8) else if l.left < h.up.length ∨ h.up.length + h.dn.length ≤ l.left ∨ h.up.length ≤ l.right then x1 else if z.tail = x.tail ∧ v.head = x.head ∧ z.rank = v.rank then (if l.wt ≤ 140737488355328 ∧ z.link.wt ≤ 140737488355328 ∧ v.link.wt ≤ 140737488355328 ∧ z.link.wt + v.link.wt = l.wt then .nil else .at 4 i 8) else x1) :
  Code.wp Tryz.prog (tailAt 5 linkBody) (bodyPost Tryz.prog Tryz.f54 (ErrNew E w)) ⟨#[s0, .slice ra (ranksL h).length rc, .int .i64 (i : Nat), .pointer (some ⟨w.heap.size,0,none⟩),s4,s5, .pointer (some ⟨(w.heap.size + 1),0,none⟩), .pointer (some ⟨bl,0,none⟩),s8, .int .i64 ((h.up.length : Int) + (h.dn.length : Int)), .pointer (some ⟨be,0,none⟩),s11,s12,s13,s14,s15,s16,s17,s18,s19,s20,s21,s22,s23,s24,s25,s26,s27,s28,s29,s30,s31,s32,s33,s34,s35,s36,s37,s38,s39,s40,s41,s42,s43,s44,s45,s46,s47,s48,s49,s50,s51,s52,s53,s54,s55,s56,s57,s58,s59,s60,s61,s62,s63,s64,s65,s66,s67,s68,s69,s70,s71,s72,s73,s74,s75,s76,s77,s78,s79,s80,s81,s82,s83,s84,s85,s86,s87,s88,s89,s90,s91,s92,s93,s94,s95,s96,s97,s98,s99,s100,s101,s102,s103,s104,s105,s106,s107,s108,s109,s110,s111,s112,s113,s114,s115,s116,s117,s118,s119,s120,s121,s122,s123,s124,s125,s126,s127,s128,s129,s130,s131,s132,s133,s134,s135,s136,s137,s138,s139,s140,s141,s142,s143,s144,s145,s146,s147,s148,s149,s150,s151,s152,s153,s154,s155,s156,s157,s158,s159,s160,s161,s162,s163,s164,s165,s166,s167,s168,s169,s170,s171,s172,s173,s174,s175,s176,s177,s178,s179,s180,s181,s182,s183,s184,s185,s186,s187,s188,s189,s190,s191,s192,s193], []⟩ wx := by
 have K0 := Lib.hid k
 have SEE := Lib.hid see
 have SR := Lib.hid sr
 have UOK := Lib.hid u
 have DOK := Lib.hid d
 have HE := Lib.hid hE
 have HX := Lib.hid hx
 have HZ := Lib.hid hz
 have HV := Lib.hid hv
 have HOK := Lib.hid hok
 clear k see sr u d hE hx hz hv hok
 conv => arg 2; whnf
 apply wp_seq_k
 intro KK hK
 have HK := Lib.hid hK
 clear hK
 go_wp2_with fail
 refine (e_any 8 _).mono ?_
 rintro e w3 ⟨y,rfl,hy,hb⟩
 obtain rfl : y = _ := hy
 have K1 := Lib.hid (K0.out.below hb)
 clear K0 hb
 go_wp2_with fail
 refine (rat_any 4 i 8 _).mono ?_
 rintro e w4 ⟨y,rfl,hy,hb⟩
 obtain ⟨vc,va,vn,vcap,rfl⟩ := hy.form
 have K2 := K1.out.below hb
 have K := Lib.hid (LK.mk (K2.l.alloc (.cells [.int .i64 vc, .slice va vn vcap].toArray 36)) (K2.x.alloc _) (K2.r.alloc _) (K2.b.alloc K2.b.size _) (K2.e.alloc _) (Cells.new w4 36 [.int .i64 vc, .slice va vn vcap]) (K2.u.below ((Below.refl _ _).alloc (Nat.le_refl _) _)) (hy.below ((Below.refl _ _).alloc (Nat.le_refl _) _)))
 clear K1 K2 hb hy
 go_wp2_with fail
 refine HK.out _ _ ?_
 change Code.wp _ (tailAt 6 linkBody) _ _ _
 exact link_plain K.out SEE.out SR.out UOK.out DOK.out htot hi HX.out HZ.out HV.out hl32 hr32 HOK.out HE.out
end Go.Proofs.YtchhbgckonpedaaGreatDoor
