/- The law UnpackMemory: its walk. -/
import Derived.Test.YtchhbgckonpedaaGreatDoorE48
set_option linter.unusedSimpArgs false
set_option maxRecDepth 100000
set_option maxHeartbeats 8000000
namespace Go.Proofs.YtchhbgckonpedaaGreatDoor
open Go.ChangeShapes Go.WideShapes Go.ChangeAt Go.RowKit Go.Joins Go.Deep
noncomputable def umBody : Code := Tryz.f6.body.getD .skip
theorem um_end {s0 s5 s6 s7 s8 s9 s10 s11 s13 s14 s15 s17 s18 s19 s22 s23 s24 s25 s26 s27 s28 s29 s30 s31 s32 s33 s34 s35 s36 s37 s38 s39 s40 s41 s42 s43 s44 s45 s46 s47 s48 s49 s50 s51 s52 s53 s54 s55 s56 s57 s58 s59 s60 s61 s62 s63 s64 s65 s66 s67 s68 s69 s70 s71 s72 s73 s74 s75 s76 s77 s78 s79 s80 s81 s82 s83 s84 s85 s86 s87 s88 s89 s90 s91 s92 s93 s94 s95 s96 s97 s98 s99 s100 s101 s102 s103 s104 s105 s106 s107 s108 s109 s110 s111 s112 s113 s114 s115 s116 s117 s118 s119 s120 s121 s122 s123 s124 s125 s126 s127 s128 s129 s130 s131 s132 s133 s134 s135 s136 s137 s138 s139 s140 s141 s142 s143 s144 s145 s146 s147 s148 s149 s150 s151 s152 s153 s154 s155 s156 s157 s158 s159 s160 s161 s162 : Value} {A : HA} {h : HierD} {i s t : Int} {w wx : World} {ab ad aq : Option Addr} {cb cd cq : Nat} {q : List Nat} {vq : Value} {r : Nat} {d : Int} {x : EV} (hg : EVar w) (see : HSee w A h) (hk1 : h.up.length ≤ 140737488355328) (hk2 : h.dn.length ≤ 140737488355328) (hn64 : h.node.length ≤ 140737488355328) (hi64 : i ≤ 9223372036854775807) (k : UX A h w wx) (hm : MeetIs h s t r d x) (hqn : x ≠ .nil → q = []) (hqp : x = .nil → PathIs h s.toNat t.toNat d q) (hv : ErrIs wx vq x) (lb : See wx ab cb i64Cells 1 (linksRes h i).1) (ld : See wx ad cd i64Cells 1 (nodesRes h i).1) (lq : See wx aq cq i64Cells 1 q) :
  Code.wp Tryz.prog (tailAt 12 umBody) (bodyPost Tryz.prog Tryz.f6 (BoolIs true w)) ⟨#[s0, .int .i64 i, .int .i64 s, .int .i64 t, .pointer (some ⟨w.heap.size,0,none⟩),s5,s6,s7,s8,s9,s10,s11, .slice ab (linksRes h i).1.length cb,s13,s14,s15, .slice ad (nodesRes h i).1.length cd,s17,s18,s19, .slice aq q.length cq,vq,s22,s23,s24,s25,s26,s27,s28,s29,s30,s31,s32,s33,s34,s35,s36,s37,s38,s39,s40,s41,s42,s43,s44,s45,s46,s47,s48,s49,s50,s51,s52,s53,s54,s55,s56,s57,s58,s59,s60,s61,s62,s63,s64,s65,s66,s67,s68,s69,s70,s71,s72,s73,s74,s75,s76,s77,s78,s79,s80,s81,s82,s83,s84,s85,s86,s87,s88,s89,s90,s91,s92,s93,s94,s95,s96,s97,s98,s99,s100,s101,s102,s103,s104,s105,s106,s107,s108,s109,s110,s111,s112,s113,s114,s115,s116,s117,s118,s119,s120,s121,s122,s123,s124,s125,s126,s127,s128,s129,s130,s131,s132,s133,s134,s135,s136,s137,s138,s139,s140,s141,s142,s143,s144,s145,s146,s147,s148,s149,s150,s151,s152,s153,s154,s155,s156,s157,s158,s159,s160,s161,s162], []⟩ wx := by
 have hk : h.up.length + h.dn.length ≤ 281474976710656 := by omega
 have HG := Lib.hid hg
 have SEE := Lib.hid see
 have K0 := Lib.hid k
 have HM := Lib.hid hm
 have HPN := Lib.hid (And.intro hqn hqp)
 have HV0 := Lib.hid hv
 have LB0 := Lib.hid lb
 have LD0 := Lib.hid ld
 have LQ0 := Lib.hid lq
 obtain ⟨k0,k1,k2,k3,k4⟩ := hier_five k.x
 have lx := k.x.lt
 have HDL := Lib.hid (fun W sw => rdoclinks_any A h i W sw hk1 hk2 hn64 hi64)
 have HDN := Lib.hid (fun W sw => rdocnodes_any A h i W sw hk1 hk2 hn64 hi64)
 have HDP := Lib.hid (fun W sw => rdocpath_any A h s t W sw hk1 hk2 hn64)
 unfold hierVal at HDL HDN HDP
 clear hg see k hm hqn hqp hv lb ld lq
 conv => arg 2; whnf
 go_wp2_with fail
 refine (HDL.out _ (SEE.out.below K0.out.b)).mono ?_
 rintro e w1 ⟨a1,c1,v1,rfl,hv1,hn1,hb⟩
 obtain ⟨uc,ua,un,ucap,rfl⟩ := hv1.form
 have hb1 := hb.trans ((Below.refl w1.heap.size w1).alloc (Nat.le_refl _) (.cells #[.int .i64 uc, .slice ua un ucap] 36) |>.mono hb.size)
 have K1 := Lib.hid (K0.out.below hb1)
 have HV1 := Lib.hid (HV0.out.below hb1)
 have LB1 := Lib.hid (LB0.out.below hb1)
 have LD1 := Lib.hid (LD0.out.below hb1)
 have LQ1 := Lib.hid (LQ0.out.below hb1)
 have LM1 := Lib.hid (hn1.see.1.alloc (.cells #[.int .i64 uc, .slice ua un ucap] 36))
 obtain ⟨wz,hwz⟩ : ∃ wz,w1.alloc (.cells #[.int .i64 uc, .slice ua un ucap] 36) = wz := ⟨_,rfl⟩
 rw [hwz] at K1 HV1 LB1 LD1 LQ1 LM1
 obtain ⟨k0,k1,k2,k3,k4⟩ := hier_five K1.out.x
 have lx := K1.out.x.lt
 clear hb hb1 hv1 hn1 K0 HV0 LB0 LD0 LQ0
 go_wp2_with fail
 try rw [hwz]
 refine (HDN.out _ (SEE.out.below K1.out.b)).mono ?_
 rintro e w2 ⟨a2,c2,v2,rfl,hv2,hn2,hb⟩
 obtain ⟨tc,ta,tn,tcap,rfl⟩ := hv2.form
 have hb2 := hb.trans ((Below.refl w2.heap.size w2).alloc (Nat.le_refl _) (.cells #[.int .i64 tc, .slice ta tn tcap] 36) |>.mono hb.size)
 have K2 := Lib.hid (K1.out.below hb2)
 have HV2 := Lib.hid (HV1.out.below hb2)
 have LB2 := Lib.hid (LB1.out.below hb2)
 have LD2 := Lib.hid (LD1.out.below hb2)
 have LQ2 := Lib.hid (LQ1.out.below hb2)
 have LM2 := Lib.hid (LM1.out.below hb2)
 have LN2 := Lib.hid (hn2.see.1.alloc (.cells #[.int .i64 tc, .slice ta tn tcap] 36))
 clear hwz
 obtain ⟨wy,hwy⟩ : ∃ wy,w2.alloc (.cells #[.int .i64 tc, .slice ta tn tcap] 36) = wy := ⟨_,rfl⟩
 rw [hwy] at K2 HV2 LB2 LD2 LQ2 LM2 LN2
 clear hb hb2 hv2 hn2 K1 HV1 LB1 LD1 LQ1 LM1 k0 k1 k2 k3 k4 lx
 go_wp2_with fail
 try rw [hwy]
 refine (samenats_any (linksRes h i).1 ab a1 _ _ cb c1 _ rfl rfl LB2.out LM2.out).mono ?_
 rintro e w3 ⟨rfl,hb⟩
 have K3 := Lib.hid (K2.out.below hb)
 have HV3 := Lib.hid (HV2.out.below hb)
 have LD3 := Lib.hid (LD2.out.below hb)
 have LQ3 := Lib.hid (LQ2.out.below hb)
 have LN3 := Lib.hid (LN2.out.below hb)
 clear hwy hb K2 HV2 LB2 LD2 LQ2 LM2 LN2
 go_wp2_with fail
 refine (samenats_any (nodesRes h i).1 ad a2 _ _ cd c2 _ rfl rfl LD3.out LN3.out).mono ?_
 rintro e w4 ⟨rfl,hb⟩
 have K4 := Lib.hid (K3.out.below hb)
 have HV4 := Lib.hid (HV3.out.below hb)
 have HL4 := Lib.hid (LQ3.out.below hb)
 obtain ⟨k0,k1,k2,k3,k4⟩ := hier_five K4.out.x
 clear hb K3 HV3 LD3 LQ3 LN3
 go_wp2_with fail
 refine (HDP.out _ (SEE.out.below K4.out.b)).mono ?_
 rintro e w5 ⟨r2,d2,x2,v2,rfl,hv,hm2,hb⟩
 obtain ⟨rfl,rfl,rfl⟩ := hm2.same HM.out
 obtain ⟨uc,ua,un,ucap,rfl⟩ := hv.form
 have ho := (Below.refl w5.heap.size w5).alloc (Nat.le_refl _) (.cells #[.int .i64 uc, .slice ua un ucap] 36)
 have K5 := Lib.hid ((K4.out.below hb).below ho)
 have F5 := Lib.hid (UF.mk (Cells.new w5 36 [.int .i64 uc, .slice ua un ucap]) (hv.below ho))
 have HV5 := Lib.hid ((HV4.out.below hb).below ho)
 have HL5 := Lib.hid ((HL4.out.below hb).below ho)
 obtain ⟨bf,hbf⟩ : ∃ bf,w5.heap.size = bf := ⟨_,rfl⟩
 rw [hbf] at F5
 obtain ⟨wz,hwz⟩ : ∃ wz,w5.alloc (.cells #[.int .i64 uc, .slice ua un ucap] 36) = wz := ⟨_,rfl⟩
 rw [hwz] at K5 F5 HV5 HL5
 clear hb ho hv hm2 K4 HV4 HL4 k0 k1 k2 k3 k4
 have y0 : wz.cell? ⟨bf,0,none⟩ = some (.int .i64 uc) := F5.out.f.cell rfl
 have y1 : wz.cell? ⟨bf,1,none⟩ = some (.slice ua un ucap) := F5.out.f.cell rfl
 go_wp2_with fail
 try rw [hwz]
 try rw [hbf]
 clear hbf hwz
 refine (bad_any _ x2 _ F5.out.v (meet_pos HM.out)).mono ?_
 rintro e w6 ⟨rfl,hb⟩
 have K6 := Lib.hid (K5.out.below hb)
 have F6 := Lib.hid (F5.out.below hb)
 have HV6 := Lib.hid (HV5.out.below hb)
 have HL6 := Lib.hid (HL5.out.below hb)
 clear hb y0 y1 K5 F5 HV5 HL5
 cases hnil : x2.isNil with
 | false =>
  have y0 : w6.cell? ⟨bf,0,none⟩ = some (.int .i64 uc) := F6.out.f.cell rfl
  have y1 : w6.cell? ⟨bf,1,none⟩ = some (.slice ua un ucap) := F6.out.f.cell rfl
  clear hnil
  go_wp2_with fail
  refine (same_any x2 _ _ _ (meet_pos HM.out) (HG.out.below K6.out.b) HV6.out F6.out.v).mono ?_
  rintro e w7 ⟨rfl,hb⟩
  have HB7 := Lib.hid (K6.out.b.trans (hb.mono K6.out.b.size))
  clear hb y0 y1
  go_wp2_with fail
  go_returns
  exact ⟨rfl,HB7.out⟩
 | true =>
  have hxe : x2 = .nil := EV.isNil_iff.1 hnil
  subst hxe
  have HPI := Lib.hid (HPN.out.2 rfl)
  have hvn := HV6.out.nilv rfl
  subst hvn
  obtain ⟨D,E,hc,hne, -⟩ := HM.out.parts rfl
  obtain ⟨hs2,ht2⟩ := nodesErr_nil.1 hne
  have htot := cnt_le hc hk
  have HGP := Lib.hid (fun W see => rgraph_any A h W see hc htot)
  unfold hierVal at HGP
  obtain ⟨k0,k1,k2,k3,k4⟩ := hier_five K6.out.x
  have HC := Lib.hid hc
  clear hnil hc hne htot D E
  go_wp2_with fail
  refine (HGP.out _ (SEE.out.below K6.out.b)).mono ?_
  rintro e w7 ⟨ga,gc,gl,rfl,hgp,hgo,hb⟩
  obtain ⟨s',hs'⟩ : ∃ s' : Nat,s = (s' : Int) := ⟨s.toNat,by omega⟩
  obtain ⟨t',ht'⟩ : ∃ t' : Nat,t = (t' : Int) := ⟨t.toNat,by omega⟩
  subst hs' ht'
  have hn6 := (checkErr_parts HC.out).1.n
  obtain ⟨hpl,es,hwk,hsum⟩ := HPI.out.ok HC.out (by rw [Int.toNat_natCast]; omega) hgp
  rw [Int.toNat_natCast,Int.toNat_natCast] at hwk
  have hgl : gl.length ≤ 1048576 := by
   rw [hgp.length_eq]
   have h1 := arcsTo_len h (endsOf h).length
   rw [arcsTo_all,cnt_ends HC.out] at h1
   have h2 := cnt_le HC.out hk
   unfold cntOf at h1
   omega
  have HWA := Lib.hid (rwalk_any h.node.length ga gl.length gc gl es aq cq q.length q s' t' w7 hgo.see.1 rfl hgl (HL6.out.below hb) rfl (by omega) hwk)
  have HB7 := Lib.hid (K6.out.b.trans (hb.mono K6.out.b.size))
  have HSUM := Lib.hid hsum
  clear hb hgp hgo hpl hwk hsum hgl k0 k1 k2 k3 k4
  go_wp2_with fail
  refine HWA.out.mono ?_
  rintro e w8 ⟨rfl,hb⟩
  have HB8 := Lib.hid (HB7.out.trans (hb.mono HB7.out.size))
  have hsm := HSUM.out
  obtain ⟨sm,hsme⟩ : ∃ sm,(es.map fun x : AF => x.2.2.val).sum = sm := ⟨_,rfl⟩
  rw [hsme] at hsm ⊢
  have q1 : decide ((sm : Int) ≤ d2) = true := by simp; omega
  clear hb hsm hsme
  go_wp2_with fail
  go_returns
  exact ⟨rfl,HB8.out⟩
theorem own_obj {w : World} {e : TypeId} {v : Value} {n : Nat} {xs : List Value} (h : w.ownsRow 0 e 1 v n xs) {q : Nat} (hq : v.ownBlock = some q) : ∃ cur,w.heap[q]? = some (.cells cur e) := by
 rcases h.2 with ⟨h1,h2⟩ | ⟨g2,cap2,cur,e1,hb,hg,hn,hc,hcs,ht⟩
 ·rw [h1] at hq
  simp [Value.ownBlock] at hq
 ·rw [e1] at hq
  simp only [Value.ownBlock,Option.some.injEq] at hq
  subst hq
  exact ⟨cur,hg⟩
theorem ErrIs.keptI {w w' : World} {v : Value} {x : EV} {S : List Nat} (h : ErrIs w v x) (o : Only S w w') (hS : ∀ q ∈ S, ∃ cur,w.heap[q]? = some (.cells cur 3)) : ErrIs w' v x := by
 cases x with
 | nil => exact h
 | code n => exact h
 | «at» k i n =>
  obtain ⟨g,e,hg⟩ := h
  refine ⟨g,e,hg.kept o fun hm => ?_⟩
  obtain ⟨cur,hc⟩ := hS g hm
  have := (show w.heap[g]? = _ from hg).symm.trans hc
  simp at this
structure UmL (V : Nat → Value) (L : Nat → List Nat) (w wx : World) : Prop where
 own : ∀ j,j < 3 → wx.ownsRow 0 3 1 (V j) (L j).length ((L j).flatMap i64Cells)
 len : ∀ j,j < 3 → (L j).length ≤ 1048576
 dis : ∀ i j,i < 3 → j < 3 → i ≠ j → ∀ q,(V i).ownBlock = some q → (V j).ownBlock ≠ some q
 low : ∀ j,j < 3 → ∀ q,(V j).ownBlock = some q → w.heap.size < q
def foot3 (V : Nat → Value) : List Nat := (V 0).ownBlock.toList ++ (V 1).ownBlock.toList ++ (V 2).ownBlock.toList
theorem foot3_mem {V : Nat → Value} {j q : Nat} (hj : j < 3) (h : q ∈ (V j).ownBlock.toList) : q ∈ foot3 V := by
 unfold foot3
 have : j = 0 ∨ j = 1 ∨ j = 2 := by omega
 rcases this with rfl | rfl | rfl <;> simp only [List.mem_append] <;> simp [h]
theorem foot3_of {V : Nat → Value} {q : Nat} (h : q ∈ foot3 V) : ∃ j,j < 3 ∧ (V j).ownBlock = some q := by
 unfold foot3 at h
 simp only [List.mem_append] at h
 rcases h with (h | h) | h
 ·exact ⟨0,by omega,own_mem h⟩
 ·exact ⟨1,by omega,own_mem h⟩
 ·exact ⟨2,by omega,own_mem h⟩
def UmI (V : Nat → Value) (gb k : Nat) (N : Nat → Nat) (wx wr : World) : Prop :=
 Cells wr gb 28 [V 0,V 1,V 2] ∧ (∀ j,k ≤ j → j < 3 → ∃ xs,wr.ownsRow 0 3 1 (V j) (N j) xs) ∧ Only (foot3 V) wx wr
theorem um_loop {s0 s5 s6 s7 s8 s9 s11 s13 s15 s17 s19 s22 s23 s24 s25 s26 s27 s28 s29 s30 s31 s32 s33 s34 s35 s36 s37 s38 s39 s40 s41 s42 s43 s44 s45 s46 s47 s48 s49 s50 s51 s52 s53 s54 s55 s56 s57 s58 s59 s60 s61 s62 s63 s64 s65 s66 s67 s68 s69 s70 s71 s72 s73 s74 s75 s76 s77 s78 s79 s80 s81 s82 s83 s84 s85 s86 s87 s88 s89 s90 s91 s92 s93 s94 s95 s96 s97 s98 s99 s100 s101 s102 s103 s104 s105 s106 s107 s108 s109 s110 s111 s112 s113 s114 s115 s116 s117 s118 s119 s120 s121 s122 s123 s124 s125 s126 s127 s128 s129 s130 s131 s132 s133 s134 s135 s136 s137 s138 s139 s140 s141 s142 s143 s144 s145 s146 s147 s148 s149 s150 s151 s152 s153 s154 s155 s156 s157 s158 s159 s160 s161 s162 : Value} {A : HA} {h : HierD} {i s t : Int} {w wx : World} {ab ad aq : Option Addr} {cb cd cq : Nat} {q : List Nat} {vq : Value} {r : Nat} {d : Int} {x : EV} {V : Nat → Value} {L : Nat → List Nat} (hg : EVar w) (see : HSee w A h) (hk1 : h.up.length ≤ 140737488355328) (hk2 : h.dn.length ≤ 140737488355328) (hn64 : h.node.length ≤ 140737488355328) (hi64 : i ≤ 9223372036854775807) (k : UX A h w wx) (hm : MeetIs h s t r d x) (hqn : x ≠ .nil → q = []) (hqp : x = .nil → PathIs h s.toNat t.toNat d q) (hv : ErrIs wx vq x) (lb : See wx ab cb i64Cells 1 (linksRes h i).1) (ld : See wx ad cd i64Cells 1 (nodesRes h i).1) (lq : See wx aq cq i64Cells 1 q)
  (um : UmL V L w wx) (fb : ∀ b o,ab = some ⟨b,o,none⟩ → b ∉ foot3 V) (fd : ∀ b o,ad = some ⟨b,o,none⟩ → b ∉ foot3 V) (fq : ∀ b o,aq = some ⟨b,o,none⟩ → b ∉ foot3 V) :
  Code.wp Tryz.prog (tailAt 11 umBody) (bodyPost Tryz.prog Tryz.f6 (BoolIs true w)) ⟨#[s0, .int .i64 i, .int .i64 s, .int .i64 t, .pointer (some ⟨w.heap.size,0,none⟩),s5,s6,s7,s8,s9,(V 0),s11, .slice ab (linksRes h i).1.length cb,s13,(V 1),s15, .slice ad (nodesRes h i).1.length cd,s17,(V 2),s19, .slice aq q.length cq,vq,s22,s23,s24,s25,s26,s27,s28,s29,s30,s31,s32,s33,s34,s35,s36,s37,s38,s39,s40,s41,s42,s43,s44,s45,s46,s47,s48,s49,s50,s51,s52,s53,s54,s55,s56,s57,s58,s59,s60,s61,s62,s63,s64,s65,s66,s67,s68,s69,s70,s71,s72,s73,s74,s75,s76,s77,s78,s79,s80,s81,s82,s83,s84,s85,s86,s87,s88,s89,s90,s91,s92,s93,s94,s95,s96,s97,s98,s99,s100,s101,s102,s103,s104,s105,s106,s107,s108,s109,s110,s111,s112,s113,s114,s115,s116,s117,s118,s119,s120,s121,s122,s123,s124,s125,s126,s127,s128,s129,s130,s131,s132,s133,s134,s135,s136,s137,s138,s139,s140,s141,s142,s143,s144,s145,s146,s147,s148,s149,s150,s151,s152,s153,s154,s155,s156,s157,s158,s159,s160,s161,s162], []⟩ wx := by
 have HALL := Lib.hid (And.intro hg (And.intro see (And.intro hm (And.intro hqn hqp))))
 have HV := Lib.hid hv
 have K0 := Lib.hid k
 have LB := Lib.hid lb
 have LD := Lib.hid ld
 have LQ := Lib.hid lq
 have UM := Lib.hid um
 have FF := Lib.hid (And.intro fb (And.intro fd fq))
 have HS := Lib.hid (show ∀ q ∈ foot3 V, ∃ cur,wx.heap[q]? = some (.cells cur 3) from fun q hq => by
  obtain ⟨j,hj,hq2⟩ := foot3_of hq
  exact own_obj (um.own j hj) hq2)
 have hI : UmI V wx.heap.size 0 (fun j => (L j).length) wx (wx.alloc (.cells #[V 0,V 1,V 2] 28)) := ⟨Cells.new wx 28 [V 0,V 1,V 2],fun j _ hj => ⟨_,own_kept (bs := []) (um.own j hj) ((Only.refl _ wx).alloc _) (fun q _ => by simp)⟩,(Only.refl _ wx).alloc _⟩
 obtain ⟨a0,p0,e0⟩ := own_form' (um.own 0 (by omega))
 obtain ⟨a1,p1,e1⟩ := own_form' (um.own 1 (by omega))
 obtain ⟨a2,p2,e2⟩ := own_form' (um.own 2 (by omega))
 rw [e0,e1,e2] at hI ⊢
 have HI := Lib.hid hI
 clear e0 e1 e2 hg see hm hqn hqp hv lb ld lq um k fb fd fq hI
 conv => arg 2; whnf
 apply wp_seq_k
 intro KK hK
 have HKK := Lib.hid hK
 clear hK
 go_wp2_with fail
 go_loopg [87] 3 (fun gg vk wr => ∃ k : Nat,vk = .int .i64 k ∧ k ≤ 3 ∧ gg = 3 - k ∧ UmI V wx.heap.size k (fun j => (L j).length) wx wr)
 case atStart => exact ⟨0,rfl,by omega,rfl,HI.out⟩
 case round =>
  obtain ⟨k,rfl,hk3,hgm,hcg,hown,ho⟩ := hrel
  obtain ⟨wo,rfl⟩ : ∃ wo : World,wo = wr := ⟨_,rfl⟩
  have HGM := Lib.hid hgm
  have HCG := Lib.hid hcg
  have HOWN := Lib.hid hown
  have HO := Lib.hid ho
  have lg := hcg.lt
  clear hgm hown ho HI
  by_cases hk : k < 3
  ·obtain ⟨xs,hxs⟩ := HOWN.out k (Nat.le_refl _) hk
   obtain ⟨ao,cap,hvk⟩ := own_form' hxs
   have hlen := UM.out.len k hk
   obtain ⟨n,hn⟩ : ∃ n,(L k).length = n := ⟨_,rfl⟩
   have hcell : wo.cell? ⟨wx.heap.size,k,none⟩ = some (V k) := by
    refine hcg.cell ?_
    have : k = 0 ∨ k = 1 ∨ k = 2 := by omega
    rcases this with rfl | rfl | rfl <;> rfl
   dsimp only at hxs hvk
   rw [hn] at hxs hlen hvk
   have HVK := Lib.hid hvk
   rw [hvk] at hcell hxs
   have HXS := Lib.hid hxs
   have HNN := Lib.hid hn
   clear hcg hvk hxs hn
   go_wp2_with fail
   have HGG := Lib.hid (And.intro HCG.out HO.out)
   have lgr := lg
   clear HCG HO hcell lg
   go_loopg [93,24] n (fun gg vi v24 wr' => ∃ i' : Nat,vi = .int .i64 i' ∧ i' ≤ n ∧ gg = n - i' ∧ (∃ xs,wr'.ownsRow 0 3 1 (.slice ao n cap) n xs) ∧ Only (Value.slice ao n cap).ownBlock.toList wo wr')
   case atStart => exact ⟨0,rfl,Nat.zero_le _,rfl,⟨_,HXS.out⟩,Only.refl _ _⟩
   case round =>
    obtain ⟨j,rfl,hj,hg2,⟨ys,hys⟩,ho2⟩ := hrel
    have HG2 := Lib.hid hg2
    have HYS := Lib.hid hys
    have HO2 := Lib.hid ho2
    clear hg2 ho2
    by_cases hjn : j < n
    ·obtain ⟨g,c2,e2, -,hgl⟩ := own_form hys (by omega)
     simp only [Value.slice.injEq] at e2
     obtain ⟨rfl, -,rfl⟩ := e2
     have hyl := hys.1
     have hcl := hys.cellAt j (by omega)
     rw [List.getElem?_eq_getElem (by omega)] at hcl
     have hfz := hys.frozenAt j
     obtain ⟨uu,huu⟩ : ∃ uu,ys[j]'(by omega) = uu := ⟨_,rfl⟩
     rw [huu] at hcl
     have HST := Lib.hid (hys.stored j (.int .i64 (-9))).1
     clear hys hyl huu
     go_wp2_with fail
     go_roundg (n - (j + 1))
     case measure => rw [HG2.out]; omega
     case rel => exact ⟨j + 1,by go_num,by omega,rfl,⟨_,HST.out⟩,HO2.out.setCell (p := ⟨g,j,none⟩) (.inl (by simp [Value.ownBlock])) _⟩
    ·obtain rfl : j = n := by omega
     clear hys
     go_wp2_with (at_builtin; refine wpList_app _ rfl _ _ 28 rfl 3 (.int .i64 0) 1 8 Tryz.underlying28 Tryz.infoInt rfl (by decide) (.slice ao j cap) j ys rfl ?own ⟨wr.heap.size,0,none⟩ 2 2 [.int .i64 1, .int .i64 2] rfl rfl ?c1 ?c2 ?c3 ?c4 ?_)
     case own => exact own_kept (bs := []) HYS.out ((Only.refl _ wr).alloc _) (fun q _ => by simp)
     case c1 => exact cells_new wr 3 [.int .i64 1, .int .i64 2]
     case c2 => intro u hu; simp at hu; rcases hu with rfl | rfl <;> rfl
     case c3 => unfold maxLen; omega
     case c4 => omega
     intro ao6 cap6 w6 hown6 ho6 hk6
     have hO6 : Only (Value.slice ao j cap).ownBlock.toList wo w6 := (HO2.out.alloc (.cells #[.int .i64 1, .int .i64 2] 3)).trans ho6 (fun x hx => .inl hx)
     have HO6 := Lib.hid hO6
     have q1 : (((j + 2 : Nat) : Int) != (j : Int) + 2) = false := by simp
     have q2 : (((j + 2 : Nat) : Int) == (j : Int) + 2) = true := by simp
     have cj2 := IntWalk.i64_in ((j : Int) + 2) (by omega)
     clear hown6 ho6 hk6 hO6
     go_wp2_with fail
     go_roundg (3 - (k + 1))
     case measure => rw [HGM.out]; omega
     case rel =>
      have hin : ∀ q,q ∈ (Value.slice ao j cap).ownBlock.toList → (V k).ownBlock = some q := fun q hq => by rw [HVK.out]; exact own_mem hq
      have hgs : wx.heap.size ∉ (Value.slice ao j cap).ownBlock.toList := fun hm => by
       have := ((UM.out.own k hk).lt _ (hin _ hm)).2
       omega
      refine ⟨k + 1,by go_num,by omega,rfl,HGG.out.1.kept HO6.out hgs,fun i' h1 h2 => ?_,HGG.out.2.trans HO6.out (fun x hx => .inl (foot3_mem hk (by rw [HVK.out]; exact hx)))⟩
      obtain ⟨zs,hzs⟩ := HOWN.out i' (by omega) h2
      exact ⟨zs,own_kept hzs HO6.out (fun q hq hm => UM.out.dis k i' hk h2 (by omega) q (hin q hm) hq)⟩
  ·obtain rfl : k = 3 := by omega
   clear hcg
   go_wp2_with fail
   refine HKK.out _ _ ?_
   change Code.wp _ (tailAt 12 umBody) _ _ _
   have hlow : ∀ q ∈ foot3 V,w.heap.size < q := fun q hq => by
    obtain ⟨j,hj,hq2⟩ := foot3_of hq
    exact UM.out.low j hj q hq2
   have hkk : UX A h w wo := ⟨K0.out.x.kept HO.out (fun hm => by have := hlow _ hm; omega),K0.out.b.trans (HO.out.below (B := w.heap.size) K0.out.b.size (fun q hq => by have := hlow _ hq; omega))⟩
   exact um_end HALL.out.1 HALL.out.2.1 hk1 hk2 hn64 hi64 hkk HALL.out.2.2.1 HALL.out.2.2.2.1 HALL.out.2.2.2.2 (HV.out.keptI HO.out HS.out) (LB.out.kept HO.out FF.out.1) (LD.out.kept HO.out FF.out.2.1) (LQ.out.kept HO.out FF.out.2.2)
theorem linksRes_len (h : HierD) (i : Int) : (linksRes h i).1.length ≤ 131072 := by
 by_cases e : (linksRes h i).2 = .nil
 ·exact (linksRes_ok e).2.1
 ·rw [linksRes_err e]; simp
theorem nodesRes_len (h : HierD) (i : Int) : (nodesRes h i).1.length ≤ 131073 := by
 unfold nodesRes
 have h1 := linksRes_len h i
 split
 ·have := nodesL_len (h := h) (linksRes h i).1
  simp only
  omega
 ·simp
theorem unpackMemory_any (A : HA) (h : HierD) (i s t : Int) (w : World) (hg : EVar w) (see : HSee w A h) (hr : Reach5 h) (hi64 : i ≤ 9223372036854775807) (hs64 : s ≤ 9223372036854775807) (ht64 : t ≤ 9223372036854775807) :
  Calls Tryz.prog 6 #[hierVal A h, .int .i64 i, .int .i64 s, .int .i64 t] w (BoolIs true w) := by
 have hk1 : h.up.length ≤ 140737488355328 := by have := hr.up; omega
 have hk2 : h.dn.length ≤ 140737488355328 := by have := hr.dn; omega
 have hn64 : h.node.length ≤ 140737488355328 := by have := hr.n; omega
 have hk : h.up.length + h.dn.length ≤ 281474976710656 := by omega
 have HG := Lib.hid hg
 have SEE := Lib.hid see
 have HRE := Lib.hid hr
 have K0 := Lib.hid (UX.mk (A := A) (h := h) (w := w) (Cells.new w 25 (hierCells A h)) ((Below.refl w.heap.size w).alloc (Nat.le_refl _) (.cells (hierCells A h).toArray 25)))
 clear hg see hr
 unfold hierVal
 go_enter Tryz.func6, Tryz.ntmps6
 apply wp_seq_k
 intro J0 hK
 have HJ0 := Lib.hid hK
 clear hK
 go_wp2_with fail
 refine HJ0.out _ _ ?_
 clear HJ0
 apply wp_seq_k
 intro J1 hK
 have HJ1 := Lib.hid hK
 clear hK
 go_wp2_with fail
 refine (awake22_any _).mono ?_
 rintro e w1 ⟨rfl,hb⟩
 have K1 := Lib.hid (K0.out.below hb)
 clear hb K0
 go_wp2_with fail
 refine HJ1.out _ _ ?_
 clear HJ1
 apply wp_seq_k
 intro J2 hK
 have HJ2 := Lib.hid hK
 clear hK
 obtain ⟨k0,k1,k2,k3,k4⟩ := hier_five K1.out.x
 go_wp2_with fail
 refine (great22v_any A h _ hk).mono ?_
 rintro e w2 ⟨b,rfl,hgr,hb⟩
 have K2 := Lib.hid (K1.out.below hb)
 clear hb K1 k0 k1 k2 k3 k4
 cases b
 case true =>
  clear hgr
  go_wp2
  go_returns
  exact ⟨rfl,K2.out.b⟩
 case false =>
  have HGO := Lib.hid (hgr rfl)
  clear hgr
  go_wp2_with fail
  refine HJ2.out _ _ ?_
  clear HJ2
  apply wp_seq_k
  intro J hK
  have HJ := Lib.hid hK
  clear hK
  obtain ⟨k0,k1,k2,k3,k4⟩ := hier_five K2.out.x
  go_wp2_with fail
  refine (twin_any A h _ (SEE.out.below K2.out.b) HRE.out).mono ?_
  rintro e w3 ⟨A3,rfl,see3, -,hb⟩
  have ho := (Below.refl w3.heap.size w3).alloc (Nat.le_refl _) (.cells (hierCells A3 h).toArray 25)
  have K4 := Lib.hid ((K2.out.below hb).below ho)
  have z4 : w.heap.size < (w3.alloc (.cells (hierCells A3 h).toArray 25)).heap.size := by have := (K2.out.below hb).x.lt; simp; omega
  have X4 := Lib.hid (Cells.new w3 25 (hierCells A3 h))
  have S4 := Lib.hid (see3.below ho)
  obtain ⟨xb,hxb⟩ : ∃ xb,w3.heap.size = xb := ⟨_,rfl⟩
  rw [hxb] at X4
  obtain ⟨wx0,hwy⟩ : ∃ wx0,w3.alloc (.cells (hierCells A3 h).toArray 25) = wx0 := ⟨_,rfl⟩
  have hwz : w3.alloc (.cells #[.slice A3.a0 h.node.length A3.c0, .slice A3.a1 h.upF.length A3.c1, .slice A3.a2 h.up.length A3.c2, .slice A3.a3 h.dnF.length A3.c3, .slice A3.a4 h.dn.length A3.c4] 25) = wx0 := hwy
  rw [hwy] at K4 X4 S4 z4
  clear hwy
  clear hb ho see3 K2 k0 k1 k2 k3 k4
  unfold hierVal
  go_wp2_with fail
  try rw [hwz]
  try rw [hxb]
  clear hwz hxb
  refine HJ.out _ _ ?_
  clear HJ
  apply wp_seq_k
  intro J hK
  have HJ := Lib.hid hK
  clear hK
  obtain ⟨k0,k1,k2,k3,k4⟩ := hier_five X4.out
  go_wp2_with fail
  refine (ulinks_any A3 h i _ S4.out hk hi64).mono ?_
  rintro e w5 ⟨aa,ca,va,rfl, -,hn,hb⟩
  have K5 := Lib.hid (K4.out.below hb)
  have X5 := Lib.hid (X4.out.below hb X4.out.lt)
  have S5 := Lib.hid (S4.out.below hb)
  have La5 := Lib.hid hn
  have Ra := Lib.hid (show ∀ b,(Value.slice aa _ ca).ownBlock = some b → wx0.heap.size ≤ b ∧ b < w5.heap.size from fun b hb' => ⟨hn.new b hb',(hn.own.lt b hb').2⟩)
  have z5 : wx0.heap.size ≤ w5.heap.size := hb.size
  clear hb hn K4 X4 S4 k0 k1 k2 k3 k4 
  go_wp2_with fail
  refine HJ.out _ _ ?_
  clear HJ
  apply wp_seq_k
  intro J hK
  have HJ := Lib.hid hK
  clear hK
  obtain ⟨k0,k1,k2,k3,k4⟩ := hier_five X5.out
  go_wp2_with fail
  refine (ulinks_any A3 h i _ S5.out hk hi64).mono ?_
  rintro e w6 ⟨ab,cb,vb,rfl, -,hn,hb⟩
  have K6 := Lib.hid (K5.out.below hb)
  have X6 := Lib.hid (X5.out.below hb X5.out.lt)
  have S6 := Lib.hid (S5.out.below hb)
  have Lb6 := Lib.hid hn
  have Rb := Lib.hid (show ∀ b,(Value.slice ab _ cb).ownBlock = some b → w5.heap.size ≤ b ∧ b < w6.heap.size from fun b hb' => ⟨hn.new b hb',(hn.own.lt b hb').2⟩)
  have z6 : w5.heap.size ≤ w6.heap.size := hb.size
  have La6 := Lib.hid (La5.out.below hb)
  clear hb hn K5 X5 S5 k0 k1 k2 k3 k4 La5
  go_wp2_with fail
  refine HJ.out _ _ ?_
  clear HJ
  apply wp_seq_k
  intro J hK
  have HJ := Lib.hid hK
  clear hK
  obtain ⟨k0,k1,k2,k3,k4⟩ := hier_five X6.out
  go_wp2_with fail
  refine (unodesOf_any A3 h i _ S6.out hk hi64).mono ?_
  rintro e w7 ⟨ac,cc,vc,rfl, -,hn,hb⟩
  have K7 := Lib.hid (K6.out.below hb)
  have X7 := Lib.hid (X6.out.below hb X6.out.lt)
  have S7 := Lib.hid (S6.out.below hb)
  have Lc7 := Lib.hid hn
  have Rc := Lib.hid (show ∀ b,(Value.slice ac _ cc).ownBlock = some b → w6.heap.size ≤ b ∧ b < w7.heap.size from fun b hb' => ⟨hn.new b hb',(hn.own.lt b hb').2⟩)
  have z7 : w6.heap.size ≤ w7.heap.size := hb.size
  have La7 := Lib.hid (La6.out.below hb)
  have Lb7 := Lib.hid (Lb6.out.below hb)
  clear hb hn K6 X6 S6 k0 k1 k2 k3 k4 La6 Lb6
  go_wp2_with fail
  refine HJ.out _ _ ?_
  clear HJ
  apply wp_seq_k
  intro J hK
  have HJ := Lib.hid hK
  clear hK
  obtain ⟨k0,k1,k2,k3,k4⟩ := hier_five X7.out
  go_wp2_with fail
  refine (unodesOf_any A3 h i _ S7.out hk hi64).mono ?_
  rintro e w8 ⟨ad,cd,vd,rfl, -,hn,hb⟩
  have K8 := Lib.hid (K7.out.below hb)
  have X8 := Lib.hid (X7.out.below hb X7.out.lt)
  have S8 := Lib.hid (S7.out.below hb)
  have Ld8 := Lib.hid hn
  have Rd := Lib.hid (show ∀ b,(Value.slice ad _ cd).ownBlock = some b → w7.heap.size ≤ b ∧ b < w8.heap.size from fun b hb' => ⟨hn.new b hb',(hn.own.lt b hb').2⟩)
  have z8 : w7.heap.size ≤ w8.heap.size := hb.size
  have La8 := Lib.hid (La7.out.below hb)
  have Lb8 := Lib.hid (Lb7.out.below hb)
  have Lc8 := Lib.hid (Lc7.out.below hb)
  clear hb hn K7 X7 S7 k0 k1 k2 k3 k4 La7 Lb7 Lc7
  go_wp2_with fail
  refine HJ.out _ _ ?_
  clear HJ
  apply wp_seq_k
  intro J hK
  have HJ := Lib.hid hK
  clear hK
  obtain ⟨k0,k1,k2,k3,k4⟩ := hier_five X8.out
  go_wp2_with fail
  refine (upath_any A3 h s t _ S8.out hk hs64 ht64 (plainly_all A3 h _ _ hk HGO.out)).mono ?_
  rintro e w9 ⟨rp,dp,xp,vp,pp,ap,cp,rfl,hv,hm,hpn,hpp,hn,hb⟩
  have HEp := Lib.hid (And.intro hv (And.intro hm (And.intro hpn hpp)))
  clear hv hm hpn hpp
  have K9 := Lib.hid (K8.out.below hb)
  have X9 := Lib.hid (X8.out.below hb X8.out.lt)
  have S9 := Lib.hid (S8.out.below hb)
  have Lp9 := Lib.hid hn
  have Rp := Lib.hid (show ∀ b,(Value.slice ap _ cp).ownBlock = some b → w8.heap.size ≤ b ∧ b < w9.heap.size from fun b hb' => ⟨hn.new b hb',(hn.own.lt b hb').2⟩)
  have z9 : w8.heap.size ≤ w9.heap.size := hb.size
  have La9 := Lib.hid (La8.out.below hb)
  have Lb9 := Lib.hid (Lb8.out.below hb)
  have Lc9 := Lib.hid (Lc8.out.below hb)
  have Ld9 := Lib.hid (Ld8.out.below hb)
  clear hb hn K8 X8 S8 k0 k1 k2 k3 k4 La8 Lb8 Lc8 Ld8
  go_wp2_with fail
  refine HJ.out _ _ ?_
  clear HJ
  apply wp_seq_k
  intro J hK
  have HJ := Lib.hid hK
  clear hK
  obtain ⟨k0,k1,k2,k3,k4⟩ := hier_five X9.out
  go_wp2_with fail
  refine (upath_any A3 h s t _ S9.out hk hs64 ht64 (plainly_all A3 h _ _ hk HGO.out)).mono ?_
  rintro e w10 ⟨rq,dq,xq,vq,pq,aq,cq,rfl,hv,hm,hpn,hpp,hn,hb⟩
  have HEq := Lib.hid (And.intro hv (And.intro hm (And.intro hpn hpp)))
  clear hv hm hpn hpp
  have K10 := Lib.hid (K9.out.below hb)
  have X10 := Lib.hid (X9.out.below hb X9.out.lt)
  have S10 := Lib.hid (S9.out.below hb)
  have Lq10 := Lib.hid hn
  have Rq := Lib.hid (show ∀ b,(Value.slice aq _ cq).ownBlock = some b → w9.heap.size ≤ b ∧ b < w10.heap.size from fun b hb' => ⟨hn.new b hb',(hn.own.lt b hb').2⟩)
  have z10 : w9.heap.size ≤ w10.heap.size := hb.size
  have La10 := Lib.hid (La9.out.below hb)
  have Lb10 := Lib.hid (Lb9.out.below hb)
  have Lc10 := Lib.hid (Lc9.out.below hb)
  have Ld10 := Lib.hid (Ld9.out.below hb)
  have Lp10 := Lib.hid (Lp9.out.below hb)
  clear hb hn K9 X9 S9 k0 k1 k2 k3 k4 La9 Lb9 Lc9 Ld9 Lp9
  go_wp2_with fail
  refine HJ.out _ _ ?_
  clear HJ
  apply wp_seq_k
  intro J hK
  have HJ := Lib.hid hK
  clear hK
  obtain ⟨k0,k1,k2,k3,k4⟩ := hier_five X10.out
  obtain ⟨m0,m1,m2,m3,m4⟩ := hier_five K10.out.x
  have lx := X10.out.lt
  have lk := K10.out.x.lt
  go_wp2_with fail
  refine (rsame_any A3 A h _ S10.out (SEE.out.below K10.out.b)).mono ?_
  rintro e w11 ⟨rfl,hb⟩
  have K11 := Lib.hid (K10.out.below hb)
  have La11 := Lib.hid (La10.out.below hb)
  have Lb11 := Lib.hid (Lb10.out.below hb).see.1
  have Lc11 := Lib.hid (Lc10.out.below hb)
  have Ld11 := Lib.hid (Ld10.out.below hb).see.1
  have Lp11 := Lib.hid (Lp10.out.below hb)
  have Lq11 := Lib.hid (Lq10.out.below hb).see.1
  have HV11 := Lib.hid (HEq.out.1.below hb)
  clear hb k0 k1 k2 k3 k4 m0 m1 m2 m3 m4 lx K10 X10 S10 La10 Lb10 Lc10 Ld10 Lp10 Lq10
  go_wp2_with fail
  refine HJ.out _ _ ?_
  change Code.wp _ (tailAt 11 umBody) _ _ _
  have hz4 : w.heap.size < wx0.heap.size := z4
  have hpl : pp.length ≤ 1048576 := by
   by_cases e : xp = .nil
   ·subst e
    obtain ⟨D,E,hc,hne, -⟩ := HEp.out.2.1.parts rfl
    obtain ⟨hs2,ht2⟩ := nodesErr_nil.1 hne
    have h1 := ((HEp.out.2.2.2 rfl).ok hc (by omega) (List.Perm.refl _)).1
    have h2 := (checkErr_parts hc).1.n
    omega
   ·rw [HEp.out.2.2.1 e]; simp
  have um : UmL (fun j => match j with | 0 => .slice aa (linksRes h i).1.length ca | 1 => .slice ac (nodesRes h i).1.length cc | _ => .slice ap pp.length cp) (fun j => match j with | 0 => (linksRes h i).1 | 1 => (nodesRes h i).1 | _ => pp) w w11 := by
   refine ⟨fun j hj => ?_,fun j hj => ?_,fun i' j hi hj hne q hq hq2 => ?_,fun j hj q hq => ?_⟩
   ·have : j = 0 ∨ j = 1 ∨ j = 2 := by omega
    rcases this with rfl | rfl | rfl
    ·exact La11.out.own
    ·exact Lc11.out.own
    ·exact Lp11.out.own
   ·have : j = 0 ∨ j = 1 ∨ j = 2 := by omega
    rcases this with rfl | rfl | rfl
    ·have := linksRes_len h i; simp only; omega
    ·have := nodesRes_len h i; simp only; omega
    ·exact hpl
   ·have h1 : i' = 0 ∨ i' = 1 ∨ i' = 2 := by omega
    have h2 : j = 0 ∨ j = 1 ∨ j = 2 := by omega
    rcases h1 with rfl | rfl | rfl <;> rcases h2 with rfl | rfl | rfl
    ·exact hne rfl
    ·have a1 := Ra.out q hq; have a2 := Rc.out q hq2; omega
    ·have a1 := Ra.out q hq; have a2 := Rp.out q hq2; omega
    ·have a1 := Rc.out q hq; have a2 := Ra.out q hq2; omega
    ·exact hne rfl
    ·have a1 := Rc.out q hq; have a2 := Rp.out q hq2; omega
    ·have a1 := Rp.out q hq; have a2 := Ra.out q hq2; omega
    ·have a1 := Rp.out q hq; have a2 := Rc.out q hq2; omega
    ·exact hne rfl
   ·have : j = 0 ∨ j = 1 ∨ j = 2 := by omega
    rcases this with rfl | rfl | rfl
    ·have a1 := Ra.out q hq; omega
    ·have a1 := Rc.out q hq; omega
    ·have a1 := Rp.out q hq; omega
  have far : ∀ b,(∀ q,(Value.slice aa (linksRes h i).1.length ca).ownBlock = some q → q ≠ b) → (∀ q,(Value.slice ac (nodesRes h i).1.length cc).ownBlock = some q → q ≠ b) → (∀ q,(Value.slice ap pp.length cp).ownBlock = some q → q ≠ b) → b ∉ foot3 (fun j => match j with | 0 => .slice aa (linksRes h i).1.length ca | 1 => .slice ac (nodesRes h i).1.length cc | _ => .slice ap pp.length cp) := by
   intro b h0 h1 h2 hm
   obtain ⟨j,hj,hq⟩ := foot3_of hm
   have : j = 0 ∨ j = 1 ∨ j = 2 := by omega
   rcases this with rfl | rfl | rfl
   ·exact h0 b hq rfl
   ·exact h1 b hq rfl
   ·exact h2 b hq rfl
  refine um_loop HG.out SEE.out hk1 hk2 hn64 hi64 K11.out HEq.out.2.1 HEq.out.2.2.1 HEq.out.2.2.2 HV11.out Lb11.out Ld11.out Lq11.out um (fun b o e => ?_) (fun b o e => ?_) (fun b o e => ?_)
  ·subst e
   have hb := Rb.out b rfl
   exact far b (fun q hq e => by have := Ra.out q hq; omega) (fun q hq e => by have := Rc.out q hq; omega) (fun q hq e => by have := Rp.out q hq; omega)
  ·subst e
   have hb := Rd.out b rfl
   exact far b (fun q hq e => by have := Ra.out q hq; omega) (fun q hq e => by have := Rc.out q hq; omega) (fun q hq e => by have := Rp.out q hq; omega)
  ·subst e
   have hb := Rq.out b rfl
   exact far b (fun q hq e => by have := Ra.out q hq; omega) (fun q hq e => by have := Rc.out q hq; omega) (fun q hq e => by have := Rp.out q hq; omega)
end Go.Proofs.YtchhbgckonpedaaGreatDoor
