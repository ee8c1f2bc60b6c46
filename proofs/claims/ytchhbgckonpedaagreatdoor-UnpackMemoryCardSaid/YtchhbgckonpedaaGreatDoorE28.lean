/- The reference's look at a hierarchy: the firsts. -/
import Derived.Test.YtchhbgckonpedaaGreatDoorE27
import Derived.Test.YtchhbgckonpedaaGreatDoorE19
set_option linter.unusedSimpArgs false
set_option maxRecDepth 100000
set_option maxHeartbeats 8000000
namespace Go.Proofs.YtchhbgckonpedaaGreatDoor
open Go.ChangeShapes Go.WideShapes Go.ChangeAt Go.RowKit Go.Joins Go.Deep
theorem doc_bad {s0 s5 s6 s7 s8 s9 s10 s11 s12 s13 s14 s15 s16 s17 s18 s19 s20 s21 s22 s23 s24 s25 s26 s27 s28 s29 s30 s31 s32 s33 s34 s35 s36 s37 s38 s39 s40 s41 s42 s43 s44 s45 s46 s47 s48 s49 s50 s51 s52 s53 s54 s55 s56 s57 s58 s59 s60 s61 s62 s63 s64 s65 s66 s67 s68 s69 s70 s71 s72 s73 s74 s75 s76 s77 s78 s79 s80 s81 s82 s83 s84 s85 s86 s87 s88 s89 s90 s91 s92 s93 s94 s95 s96 s97 s98 s99 s100 s101 s102 s103 s104 s105 s106 : Value} {A : HA} {h : HierD} {w wx : World} {b4 : Nat} {uc : Int} {ua : Option Addr} {un ucap : Nat} {x E : EV} (k : DK A h w wx) (see : HSee w A h) (fits : Fits h) (hc : Cells wx b4 36 [.int .i64 uc, .slice ua un ucap]) (hv : ErrV wx (.agg [.int .i64 uc, .slice ua un ucap].toArray) x) (hp : x.pos)
  (hE0 : x ≠ .nil → E = x) (hE1 : x = .nil → FirstsOk h.node.length h.upF h.up.length ∧ FirstsOk h.node.length h.dnF h.dn.length ∧ (orderErr h.node = .nil → E = linksGo h.node.length h.up.length (endsOf h) (endsOf h).length) ∧ (orderErr h.node ≠ .nil → E = orderErr h.node)) : Code.wp Tryz.prog (tailAt 4 docBody) (bodyPost Tryz.prog Tryz.f24 (ErrNew E w)) ⟨#[s0, .pointer (some ⟨w.heap.size,0,none⟩), .pointer (some ⟨(w.heap.size + 1),0,none⟩), .int .i64 (h.node.length : Nat), .pointer (some ⟨b4,0,none⟩),s5,s6,s7,s8,s9,s10,s11,s12,s13,s14,s15,s16,s17,s18,s19,s20,s21,s22,s23,s24,s25,s26,s27,s28,s29,s30,s31,s32,s33,s34,s35,s36,s37,s38,s39,s40,s41,s42,s43,s44,s45,s46,s47,s48,s49,s50,s51,s52,s53,s54,s55,s56,s57,s58,s59,s60,s61,s62,s63,s64,s65,s66,s67,s68,s69,s70,s71,s72,s73,s74,s75,s76,s77,s78,s79,s80,s81,s82,s83,s84,s85,s86,s87,s88,s89,s90,s91,s92,s93,s94,s95,s96,s97,s98,s99,s100,s101,s102,s103,s104,s105,s106], []⟩ wx := by
 have K := Lib.hid k
 have SEE := Lib.hid see
 have FITS := Lib.hid fits
 have HE0 := Lib.hid hE0
 have HE1 := Lib.hid hE1
 have HP := Lib.hid hp
 have HV := Lib.hid hv
 have HC := Lib.hid hc
 have y0 : wx.cell? ⟨b4,0,none⟩ = some (.int .i64 uc) := hc.cell rfl
 have y1 : wx.cell? ⟨b4,1,none⟩ = some (.slice ua un ucap) := hc.cell rfl
 clear k see fits hE0 hE1 hp hv hc
 conv => arg 2; whnf
 apply wp_seq_k
 intro KK hK
 have HKK := Lib.hid hK
 clear hK
 go_wp2_with fail
 refine (bad_any _ x _ HV.out HP.out).mono ?_
 rintro e w2 ⟨rfl,hb⟩
 have K2 := Lib.hid (K.out.below hb)
 have HV2 := Lib.hid (HV.out.below hb)
 have HC2 := Lib.hid (HC.out.below hb HC.out.lt)
 clear K HV HC hb y0 y1
 cases hnil : x.isNil
 ·have HER := Lib.hid (HE0.out (fun e => by rw [e] at hnil; simp [EV.isNil] at hnil))
  clear HE0 HE1 hnil
  go_upto_region 8 with fail
  change Code.wp _ ((regionAt 8 docBody).getD .skip) _ _ _
  refine copy_d8 HC2.out K2.out.r ?_
  go_wp2_with fail
  refine bodyPost_ret (results_e rfl _ _ (w.heap.size + 1) 36 [.int .i64 uc, .slice ua un ucap] _ rfl ((K2.out.r.set 0 _).set 1 _) Tryz.underlying36 rfl (by rw [Tryz.sizeErr]; rfl)) rfl ?_
  rw [HER.out]
  exact ⟨_,rfl,HV2.out.put K2.out.r _ _,(K2.out.b.setCell (p := ⟨w.heap.size + 1,0,none⟩) (by simp) _).setCell (p := ⟨w.heap.size + 1,1,none⟩) (by simp) _⟩
 ·obtain ⟨hu,hd,e1,e2⟩ := HE1.out (EV.isNil_iff.1 hnil)
  have UOK := Lib.hid hu
  have DOK := Lib.hid hd
  have EE1 := Lib.hid e1
  have EE2 := Lib.hid e2
  clear HE0 HE1 hu hd e1 e2 hnil
  go_wp2_with fail
  refine HKK.out _ _ ?_
  change Code.wp _ (tailAt 5 docBody) _ _ _
  exact doc_make K2.out SEE.out UOK.out DOK.out FITS.out.n (FITS.out.total SEE.out UOK.out DOK.out) EE1.out EE2.out
noncomputable def ops6 : Array Oper := regionOps (regionAt 6 docBody)
noncomputable def check6 (dA dB dS dF d1 : Bool) : Bool :=
 (dB && !dA) || (dS && !dB) || (dF && !dS) || (dA && dB && dS && dF && d1) ||
  (let r := Region.ready .any ops6 #[true,true,true,true,true,true,dA,true,true,true,true,true,true,dB,dS,dF,d1,false]
   (!r.isEmpty) && r.all fun i => (i == 6 && !dA) || (i == 13 && dA && !dB) || (i == 14 && dB && !dS) || (i == 15 && dS && !dF) || (i == 16 && !d1))
theorem checked6 : ∀ dA dB dS dF d1 : Bool,check6 dA dB dS dF d1 = true := by decide +kernel
theorem ready6 (dA dB dS dF d1 : Bool) (h1 : dB = true → dA = true) (h2 : dS = true → dB = true) (h3 : dF = true → dS = true) (h4 : (dA && dB && dS && dF && d1) = false) :
  Region.ready .any ops6 #[true,true,true,true,true,true,dA,true,true,true,true,true,true,dB,dS,dF,d1,false] ≠ [] ∧ ∀ i ∈ Region.ready .any ops6 #[true,true,true,true,true,true,dA,true,true,true,true,true,true,dB,dS,dF,d1,false],
   (i = 6 ∧ dA = false) ∨ (i = 13 ∧ dA = true ∧ dB = false) ∨ (i = 14 ∧ dB = true ∧ dS = false) ∨ (i = 15 ∧ dS = true ∧ dF = false) ∨ (i = 16 ∧ d1 = false) := by
 have h := checked6 dA dB dS dF d1
 unfold check6 at h
 have e1 : (dB && !dA) = false := by cases dA <;> cases dB <;> simp_all
 have e2 : (dS && !dB) = false := by cases dB <;> cases dS <;> simp_all
 have e3 : (dF && !dS) = false := by cases dS <;> cases dF <;> simp_all
 rw [e1,e2,e3,h4] at h
 generalize Region.ready .any ops6 #[true,true,true,true,true,true,dA,true,true,true,true,true,true,dB,dS,dF,d1,false] = r at h ⊢
 simp only [Bool.false_or,Bool.and_eq_true,Bool.not_eq_true',List.all_eq_true,Bool.or_eq_true,beq_iff_eq] at h
 refine ⟨fun e => by rw [e] at h; simp at h,fun i hi => ?_⟩
 have := h.2 i hi
 rcases this with (((h | h) | h) | h) | h
 ·exact .inl h
 ·exact .inr (.inl ⟨h.1.1,h.1.2,h.2⟩)
 ·exact .inr (.inr (.inl ⟨h.1.1,h.1.2,h.2⟩))
 ·exact .inr (.inr (.inr (.inl ⟨h.1.1,h.1.2,h.2⟩)))
 ·exact .inr (.inr (.inr (.inr h)))
def TwoErrs (v : Value) (x1 x2 : EV) (W : World) : Prop := ∃ (b : Nat) (c1 c2 : Int) (a1 a2 : Option Addr) (n1 k1 n2 k2 : Nat),v = .slice (some ⟨b,0,none⟩) 2 2 ∧ Cells W b 36 [.int .i64 c1, .slice a1 n1 k1, .int .i64 c2, .slice a2 n2 k2] ∧ ErrV W (.agg #[.int .i64 c1, .slice a1 n1 k1]) x1 ∧ ErrV W (.agg #[.int .i64 c2, .slice a2 n2 k2]) x2
theorem TwoErrs.below {v : Value} {x1 x2 : EV} {W W' : World} (t : TwoErrs v x1 x2 W) (o : Below W.heap.size W W') : TwoErrs v x1 x2 W' := by
 obtain ⟨b,c1,c2,a1,a2,n1,k1,n2,k2,e,hc,h1,h2⟩ := t
 exact ⟨b,c1,c2,a1,a2,n1,k1,n2,k2,e,hc.below o hc.lt,h1.below o,h2.below o⟩
def I6 (s0 s5 s6 s7 s8 s9 s10 s11 s12 s13 s14 s15 s16 s17 s18 s19 s20 s21 s22 s23 s24 s25 s26 s27 s28 s29 s30 s31 s32 s33 s34 s35 s36 s37 s38 s39 s40 s41 s42 s43 s60 s61 s62 s63 s64 s65 s66 s67 s68 s69 s70 s71 s72 s73 s74 s75 s76 s77 s78 s79 s80 s81 s82 s83 s84 s85 s86 s87 s88 s89 s90 s91 s92 s93 s94 s95 s96 s97 s98 s99 s100 s101 s102 s103 s104 s105 s106 : Value) (A : HA) (h : HierD) (w : World) (x1 x2 x : EV) (n : Nat) (L : Array Bool) (a : Act) (w' : World) : Prop :=
 ∃ (dA dB dS dF d1 : Bool) (vA vB vS vF v1 : Value) (b4 : Nat),n + (cnt dA + cnt dB + cnt dS + cnt dF + cnt d1) = 6 ∧ L = #[true,true,true,true,true,true,dA,true,true,true,true,true,true,dB,dS,dF,d1,false] ∧
  a = ⟨#[s0, .pointer (some ⟨w.heap.size,0,none⟩), .pointer (some ⟨(w.heap.size + 1),0,none⟩), .int .i64 (h.node.length : Nat),v1,s5,s6,s7,s8,s9,s10,s11,s12,s13,s14,s15,s16,s17,s18,s19,s20,s21,s22,s23,s24,s25,s26,s27,s28,s29,s30,s31,s32,s33,s34,s35,s36,s37,s38,s39,s40,s41,s42,s43, .pointer (some ⟨w.heap.size,1,none⟩), .slice A.a1 h.upF.length A.c1, .int .i64 (h.node.length : Nat), .pointer (some ⟨w.heap.size,2,none⟩), .slice A.a2 h.up.length A.c2, .int .i64 (h.up.length : Nat),vA, .pointer (some ⟨w.heap.size,3,none⟩), .slice A.a3 h.dnF.length A.c3, .int .i64 (h.node.length : Nat), .pointer (some ⟨w.heap.size,4,none⟩), .slice A.a4 h.dn.length A.c4, .int .i64 (h.dn.length : Nat),vB,vS,vF,s60,s61,s62,s63,s64,s65,s66,s67,s68,s69,s70,s71,s72,s73,s74,s75,s76,s77,s78,s79,s80,s81,s82,s83,s84,s85,s86,s87,s88,s89,s90,s91,s92,s93,s94,s95,s96,s97,s98,s99,s100,s101,s102,s103,s104,s105,s106], []⟩ ∧ (dB = true → dA = true) ∧ (dS = true → dB = true) ∧ (dF = true → dS = true) ∧
  (dA = true → ErrV w' vA x1) ∧ (dB = true → ErrV w' vB x2) ∧ (dS = true → TwoErrs vS x1 x2 w') ∧ (dF = true → ErrV w' vF x) ∧
  (d1 = true → v1 = .pointer (some ⟨b4,0,none⟩) ∧ Cells w' b4 36 errZero ∧ w.heap.size + 1 < b4) ∧ DK A h w w'
theorem reg6 (s0 s4 s5 s6 s7 s8 s9 s10 s11 s12 s13 s14 s15 s16 s17 s18 s19 s20 s21 s22 s23 s24 s25 s26 s27 s28 s29 s30 s31 s32 s33 s34 s35 s36 s37 s38 s39 s40 s41 s42 s43 s44 s45 s46 s47 s48 s49 s50 s51 s52 s53 s54 s55 s56 s57 s58 s59 s60 s61 s62 s63 s64 s65 s66 s67 s68 s69 s70 s71 s72 s73 s74 s75 s76 s77 s78 s79 s80 s81 s82 s83 s84 s85 s86 s87 s88 s89 s90 s91 s92 s93 s94 s95 s96 s97 s98 s99 s100 s101 s102 s103 s104 s105 s106 : Value) {A : HA} {h : HierD} {w wx : World} {x1 x2 x : EV} (Q : Exit → Act → World → Prop) (k : DK A h w wx)
  (hQp : ∀ c (a : Act) (t : Option Tmp) (v : Value) w',Q (.panic c) (a.put t v) w' → Q (.panic c) a w')
  (hA : ∀ w',Below w.heap.size w w' → Calls Tryz.prog 52 #[.slice A.a1 h.upF.length A.c1, .int .i64 (h.node.length : Nat), .int .i64 (h.up.length : Nat)] w' (ErrNew x1 w'))
  (hB : ∀ w',Below w.heap.size w w' → Calls Tryz.prog 52 #[.slice A.a3 h.dnF.length A.c3, .int .i64 (h.node.length : Nat), .int .i64 (h.dn.length : Nat)] w' (ErrNew x2 w'))
  (hF : ∀ v w',TwoErrs v x1 x2 w' → Calls Tryz.prog 51 #[v] w' (ErrNew x w'))
  (hQ : ∀ (b4 : Nat) (uc : Int) (ua : Option Addr) (un ucap : Nat) (t44 t45 t46 t47 t48 t49 t50 t51 t52 t53 t54 t55 t56 t57 t58 t59 : Value) (w' : World),Cells w' b4 36 [.int .i64 uc, .slice ua un ucap] → ErrV w' (.agg [.int .i64 uc, .slice ua un ucap].toArray) x → DK A h w w' → Q .normal ⟨#[s0, .pointer (some ⟨w.heap.size,0,none⟩), .pointer (some ⟨(w.heap.size + 1),0,none⟩), .int .i64 (h.node.length : Nat), .pointer (some ⟨b4,0,none⟩),s5,s6,s7,s8,s9,s10,s11,s12,s13,s14,s15,s16,s17,s18,s19,s20,s21,s22,s23,s24,s25,s26,s27,s28,s29,s30,s31,s32,s33,s34,s35,s36,s37,s38,s39,s40,s41,s42,s43,t44,t45,t46,t47,t48,t49,t50,t51,t52,t53,t54,t55,t56,t57,t58,t59,s60,s61,s62,s63,s64,s65,s66,s67,s68,s69,s70,s71,s72,s73,s74,s75,s76,s77,s78,s79,s80,s81,s82,s83,s84,s85,s86,s87,s88,s89,s90,s91,s92,s93,s94,s95,s96,s97,s98,s99,s100,s101,s102,s103,s104,s105,s106], []⟩ w') :
  Code.wp Tryz.prog ((regionAt 6 docBody).getD .skip) Q ⟨#[s0, .pointer (some ⟨w.heap.size,0,none⟩), .pointer (some ⟨(w.heap.size + 1),0,none⟩), .int .i64 (h.node.length : Nat),s4,s5,s6,s7,s8,s9,s10,s11,s12,s13,s14,s15,s16,s17,s18,s19,s20,s21,s22,s23,s24,s25,s26,s27,s28,s29,s30,s31,s32,s33,s34,s35,s36,s37,s38,s39,s40,s41,s42,s43,s44,s45,s46,s47,s48,s49,s50,s51,s52,s53,s54,s55,s56,s57,s58,s59,s60,s61,s62,s63,s64,s65,s66,s67,s68,s69,s70,s71,s72,s73,s74,s75,s76,s77,s78,s79,s80,s81,s82,s83,s84,s85,s86,s87,s88,s89,s90,s91,s92,s93,s94,s95,s96,s97,s98,s99,s100,s101,s102,s103,s104,s105,s106], []⟩ wx := by
 have HQ := Lib.hid hQ
 have HQP := Lib.hid hQp
 have HA := Lib.hid hA
 have HB := Lib.hid hB
 have HF := Lib.hid hF
 clear hQ hQp hA hB hF
 conv => arg 2; whnf
 refine wp_region_held_drew (S := fun W => DK A h w W) (by kernel_rfl) (k.below (Below.refl _ _).drew) (fun hHeld => ?_)
 simp only [List.size_toArray,List.length_cons,List.length_nil,Nat.reduceAdd,Array.replicate_succ,Array.replicate_zero,List.push_toArray,List.nil_append,List.cons_append]
 clear k
 refine wpAnyH_take (i := 0) (oi := { dst := some 44,op := Op.fieldAddr 25 (Operand.tmp 1) 1,type := 0,pos := "ref.go:115",after := #[],guard := none }) (v := .pointer (some ⟨w.heap.size,1,none⟩)) rfl (by kernel_rfl) (by kernel_rfl) (by kernel_rfl) (fun c a w' => HQP.out c a _ _ w') (Or.inl ⟨by rfl, ?_⟩) hHeld ?_
 ·intro W hSw
  try dsimp only at hSw
  obtain ⟨m0,m1,m2,m3,m4⟩ := hier_five hSw.x
  clear hSw hHeld
  go_simp
 simp only [Act.put,List.setIfInBounds_toArray,List.set_cons_zero,List.set_cons_succ]
 refine wpAnyH_take (i := 1) (oi := { dst := some 45,op := Op.load 22 (Operand.tmp 44),type := 22,pos := "ref.go:115",after := #[{ on := 0,ground := Ground.data }],guard := none }) (v := .slice A.a1 h.upF.length A.c1) rfl (by kernel_rfl) (by kernel_rfl) (by kernel_rfl) (fun c a w' => HQP.out c a _ _ w') (Or.inl ⟨by rfl, ?_⟩) hHeld ?_
 ·intro W hSw
  try dsimp only at hSw
  obtain ⟨m0,m1,m2,m3,m4⟩ := hier_five hSw.x
  clear hSw hHeld
  go_simp
 simp only [Act.put,List.setIfInBounds_toArray,List.set_cons_zero,List.set_cons_succ]
 refine wpAnyH_take (i := 2) (oi := { dst := some 46,op := Op.move (Operand.tmp 3),type := 3,pos := "ref.go:115",after := #[],guard := none }) (v := .int .i64 (h.node.length : Nat)) rfl (by kernel_rfl) (by kernel_rfl) (by kernel_rfl) (fun c a w' => HQP.out c a _ _ w') (Or.inl ⟨by rfl, ?_⟩) hHeld ?_
 ·intro W hSw
  try dsimp only at hSw
  obtain ⟨m0,m1,m2,m3,m4⟩ := hier_five hSw.x
  clear hSw hHeld
  go_simp
 simp only [Act.put,List.setIfInBounds_toArray,List.set_cons_zero,List.set_cons_succ]
 refine wpAnyH_take (i := 3) (oi := { dst := some 47,op := Op.fieldAddr 25 (Operand.tmp 1) 2,type := 0,pos := "ref.go:115",after := #[],guard := none }) (v := .pointer (some ⟨w.heap.size,2,none⟩)) rfl (by kernel_rfl) (by kernel_rfl) (by kernel_rfl) (fun c a w' => HQP.out c a _ _ w') (Or.inl ⟨by rfl, ?_⟩) hHeld ?_
 ·intro W hSw
  try dsimp only at hSw
  obtain ⟨m0,m1,m2,m3,m4⟩ := hier_five hSw.x
  clear hSw hHeld
  go_simp
 simp only [Act.put,List.setIfInBounds_toArray,List.set_cons_zero,List.set_cons_succ]
 refine wpAnyH_take (i := 4) (oi := { dst := some 48,op := Op.load 23 (Operand.tmp 47),type := 23,pos := "ref.go:115",after := #[{ on := 3,ground := Ground.data }],guard := none }) (v := .slice A.a2 h.up.length A.c2) rfl (by kernel_rfl) (by kernel_rfl) (by kernel_rfl) (fun c a w' => HQP.out c a _ _ w') (Or.inl ⟨by rfl, ?_⟩) hHeld ?_
 ·intro W hSw
  try dsimp only at hSw
  obtain ⟨m0,m1,m2,m3,m4⟩ := hier_five hSw.x
  clear hSw hHeld
  go_simp
 simp only [Act.put,List.setIfInBounds_toArray,List.set_cons_zero,List.set_cons_succ]
 refine wpAnyH_take (i := 5) (oi := { dst := some 49,op := Op.call { callee := Callee.builtin Builtin.len,args := #[Operand.tmp 48],argTypes := #[23] },type := 3,pos := "ref.go:115",after := #[{ on := 4,ground := Ground.data }],guard := none }) (v := .int .i64 (h.up.length : Nat)) rfl (by kernel_rfl) (by kernel_rfl) (by kernel_rfl) (fun c a w' => HQP.out c a _ _ w') (Or.inl ⟨by rfl, ?_⟩) hHeld ?_
 ·intro W hSw
  try dsimp only at hSw
  obtain ⟨m0,m1,m2,m3,m4⟩ := hier_five hSw.x
  clear hSw hHeld
  go_simp
 simp only [Act.put,List.setIfInBounds_toArray,List.set_cons_zero,List.set_cons_succ]
 refine wpAnyH_take (i := 7) (oi := { dst := some 51,op := Op.fieldAddr 25 (Operand.tmp 1) 3,type := 0,pos := "ref.go:115",after := #[],guard := none }) (v := .pointer (some ⟨w.heap.size,3,none⟩)) rfl (by kernel_rfl) (by kernel_rfl) (by kernel_rfl) (fun c a w' => HQP.out c a _ _ w') (Or.inl ⟨by rfl, ?_⟩) hHeld ?_
 ·intro W hSw
  try dsimp only at hSw
  obtain ⟨m0,m1,m2,m3,m4⟩ := hier_five hSw.x
  clear hSw hHeld
  go_simp
 simp only [Act.put,List.setIfInBounds_toArray,List.set_cons_zero,List.set_cons_succ]
 refine wpAnyH_take (i := 8) (oi := { dst := some 52,op := Op.load 22 (Operand.tmp 51),type := 22,pos := "ref.go:115",after := #[{ on := 7,ground := Ground.data }],guard := none }) (v := .slice A.a3 h.dnF.length A.c3) rfl (by kernel_rfl) (by kernel_rfl) (by kernel_rfl) (fun c a w' => HQP.out c a _ _ w') (Or.inl ⟨by rfl, ?_⟩) hHeld ?_
 ·intro W hSw
  try dsimp only at hSw
  obtain ⟨m0,m1,m2,m3,m4⟩ := hier_five hSw.x
  clear hSw hHeld
  go_simp
 simp only [Act.put,List.setIfInBounds_toArray,List.set_cons_zero,List.set_cons_succ]
 refine wpAnyH_take (i := 9) (oi := { dst := some 53,op := Op.move (Operand.tmp 3),type := 3,pos := "ref.go:115",after := #[],guard := none }) (v := .int .i64 (h.node.length : Nat)) rfl (by kernel_rfl) (by kernel_rfl) (by kernel_rfl) (fun c a w' => HQP.out c a _ _ w') (Or.inl ⟨by rfl, ?_⟩) hHeld ?_
 ·intro W hSw
  try dsimp only at hSw
  obtain ⟨m0,m1,m2,m3,m4⟩ := hier_five hSw.x
  clear hSw hHeld
  go_simp
 simp only [Act.put,List.setIfInBounds_toArray,List.set_cons_zero,List.set_cons_succ]
 refine wpAnyH_take (i := 10) (oi := { dst := some 54,op := Op.fieldAddr 25 (Operand.tmp 1) 4,type := 0,pos := "ref.go:115",after := #[],guard := none }) (v := .pointer (some ⟨w.heap.size,4,none⟩)) rfl (by kernel_rfl) (by kernel_rfl) (by kernel_rfl) (fun c a w' => HQP.out c a _ _ w') (Or.inl ⟨by rfl, ?_⟩) hHeld ?_
 ·intro W hSw
  try dsimp only at hSw
  obtain ⟨m0,m1,m2,m3,m4⟩ := hier_five hSw.x
  clear hSw hHeld
  go_simp
 simp only [Act.put,List.setIfInBounds_toArray,List.set_cons_zero,List.set_cons_succ]
 refine wpAnyH_take (i := 11) (oi := { dst := some 55,op := Op.load 23 (Operand.tmp 54),type := 23,pos := "ref.go:115",after := #[{ on := 10,ground := Ground.data }],guard := none }) (v := .slice A.a4 h.dn.length A.c4) rfl (by kernel_rfl) (by kernel_rfl) (by kernel_rfl) (fun c a w' => HQP.out c a _ _ w') (Or.inl ⟨by rfl, ?_⟩) hHeld ?_
 ·intro W hSw
  try dsimp only at hSw
  obtain ⟨m0,m1,m2,m3,m4⟩ := hier_five hSw.x
  clear hSw hHeld
  go_simp
 simp only [Act.put,List.setIfInBounds_toArray,List.set_cons_zero,List.set_cons_succ]
 refine wpAnyH_take (i := 12) (oi := { dst := some 56,op := Op.call { callee := Callee.builtin Builtin.len,args := #[Operand.tmp 55],argTypes := #[23] },type := 3,pos := "ref.go:115",after := #[{ on := 11,ground := Ground.data }],guard := none }) (v := .int .i64 (h.dn.length : Nat)) rfl (by kernel_rfl) (by kernel_rfl) (by kernel_rfl) (fun c a w' => HQP.out c a _ _ w') (Or.inl ⟨by rfl, ?_⟩) hHeld ?_
 ·intro W hSw
  try dsimp only at hSw
  obtain ⟨m0,m1,m2,m3,m4⟩ := hier_five hSw.x
  clear hSw hHeld
  go_simp
 simp only [Act.put,List.setIfInBounds_toArray,List.set_cons_zero,List.set_cons_succ]
 refine wpAnyH_inv (I6 s0 s5 s6 s7 s8 s9 s10 s11 s12 s13 s14 s15 s16 s17 s18 s19 s20 s21 s22 s23 s24 s25 s26 s27 s28 s29 s30 s31 s32 s33 s34 s35 s36 s37 s38 s39 s40 s41 s42 s43 s60 s61 s62 s63 s64 s65 s66 s67 s68 s69 s70 s71 s72 s73 s74 s75 s76 s77 s78 s79 s80 s81 s82 s83 s84 s85 s86 s87 s88 s89 s90 s91 s92 s93 s94 s95 s96 s97 s98 s99 s100 s101 s102 s103 s104 s105 s106 A h w x1 x2 x) ?_ 6 _ _ _ ⟨false,false,false,false,false,s50,s57,s58,s59,s4,0,rfl,rfl,rfl,by simp,by simp,by simp,by simp,by simp,by simp,by simp,by simp,hHeld⟩
 clear hHeld
 intro n L a w' hI
 obtain ⟨dA,dB,dS,dF,d1,vA,vB,vS,vF,v1,b4,hn,rfl,rfl,hBA,hSB,hFS,eA,eB,eS,eF,e1,hk⟩ := hI
 by_cases hall : (dA && dB && dS && dF && d1) = true
 ·left
  simp only [Bool.and_eq_true] at hall
  obtain ⟨⟨⟨⟨rfl,rfl⟩,rfl⟩,rfl⟩,rfl⟩ := hall
  have hvF := eF rfl
  obtain ⟨rfl,hc,l1⟩ := e1 rfl
  obtain ⟨uc,ua,un,ucap,rfl⟩ := hvF.form
  obtain rfl : n = 1 := by have : cnt true = 1 := rfl; omega
  clear hn hBA hSB hFS eA eB eS eF e1
  have HC := Lib.hid hc
  have HK := Lib.hid hk
  have HV := Lib.hid hvF
  have g0 := hc.frozen 0
  have g1 := hc.frozen 1
  have y0 := hc.cell (i := 0) rfl
  have y1 := hc.cell (i := 1) rfl
  have ltc := hc.lt
  clear hc hk hvF
  refine wpAnyH_ready (rs := [17]) (by kernel_rfl) (by simp) (AllReadyH.cons (o := { dst := none,op := Op.store 36 (Operand.tmp 4) (Operand.tmp 59),type := 0,pos := "ref.go:115",after := #[{ on := 16,ground := Ground.data }, { on := 15,ground := Ground.data }, { on := 15,ground := Ground.chain }, { on := 0,ground := Ground.phase }, { on := 1,ground := Ground.phase }, { on := 2,ground := Ground.phase }, { on := 3,ground := Ground.phase }, { on := 4,ground := Ground.phase }, { on := 5,ground := Ground.phase }, { on := 6,ground := Ground.phase }, { on := 7,ground := Ground.phase }, { on := 8,ground := Ground.phase }, { on := 9,ground := Ground.phase }, { on := 10,ground := Ground.phase }, { on := 11,ground := Ground.phase }, { on := 12,ground := Ground.phase }, { on := 13,ground := Ground.phase }, { on := 14,ground := Ground.phase }, { on := 15,ground := Ground.phase }, { on := 16,ground := Ground.phase }],guard := none }) rfl (fun K hK => ?_) AllReadyH.nil)
  go_simp
  refine hK.out _ _ ((HK.out.set (by omega) (by omega) (by omega)).set (by omega) (by omega) (by omega)) (fun hHeld => ?_)
  try simp only [Act.put,List.setIfInBounds_toArray,List.set_cons_zero,List.set_cons_succ]
  refine wpAnyH_done (by kernel_rfl) ?_ _
  exact HQ.out _ _ _ _ _ _ _ _ _ _ _ _ _ _ _ _ _ _ _ _ _ _ ((HC.out.set 0 _).set 1 _) (HV.out.put HC.out _ _) hHeld
 ·right
  have hall' : (dA && dB && dS && dF && d1) = false := by simpa using hall
  obtain ⟨hne,hrd⟩ := ready6 dA dB dS dF d1 hBA hSB hFS hall'
  have hc1 : ∀ d,cnt d ≤ 1 := fun d => by cases d <;> simp [cnt]
  have q1 := hc1 dA
  have q2 := hc1 dB
  have q3 := hc1 dS
  have q4 := hc1 dF
  have q5 := hc1 d1
  have ct : cnt true = 1 := rfl
  have cf : cnt false = 0 := rfl
  obtain ⟨m,rfl⟩ : ∃ m,n = m + 1 := ⟨n - 1,by omega⟩
  refine ⟨m,rfl,hne,fun i hi => ?_⟩
  have HN := Lib.hid hn
  have HI := Lib.hid (And.intro hBA (And.intro hSB (And.intro hFS (And.intro eA (And.intro eB (And.intro eS (And.intro eF e1)))))))
  have HK1 := Lib.hid hk
  have hrd' := hrd i hi
  clear hn hBA hSB hFS eA eB eS eF e1 hk hrd hi hne hall hall' hc1 q1 q2 q3 q4 q5
  rcases hrd' with ⟨rfl,rfl⟩ | ⟨rfl,rfl,rfl⟩ | ⟨rfl,rfl,rfl⟩ | ⟨rfl,rfl,rfl⟩ | ⟨rfl,rfl⟩
  ·refine wpOp_step (o := { dst := some 50,op := Op.call { callee := Callee.value (Operand.func 52),args := #[Operand.tmp 45,Operand.tmp 46,Operand.tmp 49],argTypes := #[22, 3, 3] },type := 36,pos := "ref.go:115",after := #[{ on := 1,ground := Ground.data }, { on := 2,ground := Ground.data }, { on := 5,ground := Ground.data }],guard := none }) rfl (fun K hK => ?_)
   have HK := Lib.hid hK
   clear hK
   obtain ⟨hBA,hSB,hFS,eA,eB,eS,eF,e1⟩ := HI.out
   clear eA eB eS eF e1 hBA hSB hFS
   go_simp
   refine (HA.out _ HK1.out.b).mono ?_
   rintro e w1 ⟨v,rfl,hv,ho⟩
   go_wp2_with fail
   obtain ⟨hBA,hSB,hFS,eA,eB,eS,eF,e1⟩ := HI.out
   have hn := HN.out
   have hk := HK1.out.below ho
   refine HK.out _ _ ⟨hk,true,dB,dS,dF,d1,_,vB,vS,vF,v1,b4, ?_,rfl,rfl, ?_, ?_, ?_,fun _ => hv,fun h => (eB (by first | exact h | trivial)).below ho,fun h => (eS (by first | exact h | trivial)).below ho,fun h => (eF (by first | exact h | trivial)).below ho,fun h => ⟨(e1 h).1,(e1 h).2.1.below ho (e1 h).2.1.lt,(e1 h).2.2⟩,hk⟩
   ·omega
   all_goals simp_all
  ·refine wpOp_step (o := { dst := some 57,op := Op.call { callee := Callee.value (Operand.func 52),args := #[Operand.tmp 52,Operand.tmp 53,Operand.tmp 56],argTypes := #[22, 3, 3] },type := 36,pos := "ref.go:115",after := #[{ on := 8,ground := Ground.data }, { on := 9,ground := Ground.data }, { on := 12,ground := Ground.data }, { on := 6,ground := Ground.chain }],guard := none }) rfl (fun K hK => ?_)
   have HK := Lib.hid hK
   clear hK
   obtain ⟨hBA,hSB,hFS,eA,eB,eS,eF,e1⟩ := HI.out
   clear eA eB eS eF e1 hBA hSB hFS
   go_simp
   refine (HB.out _ HK1.out.b).mono ?_
   rintro e w1 ⟨v,rfl,hv,ho⟩
   go_wp2_with fail
   obtain ⟨hBA,hSB,hFS,eA,eB,eS,eF,e1⟩ := HI.out
   have hn := HN.out
   have hk := HK1.out.below ho
   refine HK.out _ _ ⟨hk,true,true,dS,dF,d1,vA,_,vS,vF,v1,b4, ?_,rfl,rfl, ?_, ?_, ?_,fun h => (eA (by first | exact h | trivial)).below ho,fun _ => hv,fun h => (eS (by first | exact h | trivial)).below ho,fun h => (eF (by first | exact h | trivial)).below ho,fun h => ⟨(e1 h).1,(e1 h).2.1.below ho (e1 h).2.1.lt,(e1 h).2.2⟩,hk⟩
   ·omega
   all_goals simp_all
  ·refine wpOp_step (o := { dst := some 58,op := Op.buildSlice 104 2 #[(0,Operand.tmp 50),(1,Operand.tmp 57)],type := 104,pos := "ref.go:115",after := #[{ on := 6,ground := Ground.data }, { on := 13,ground := Ground.data }],guard := none }) rfl (fun K hK => ?_)
   have HK := Lib.hid hK
   clear hK
   obtain ⟨hBA,hSB,hFS,eA,eB,eS,eF,e1⟩ := HI.out
   have f1 := eA (hBA rfl)
   have f2 := eB rfl
   obtain ⟨c1,a1,n1,k1,rfl⟩ := f1.form
   obtain ⟨c2,a2,n2,k2,rfl⟩ := f2.form
   have F1 := Lib.hid f1
   have F2 := Lib.hid f2
   clear eA eB eS eF e1 hBA hSB hFS f1 f2
   go_simp
   obtain ⟨hBA,hSB,hFS,eA,eB,eS,eF,e1⟩ := HI.out
   have ho := (Below.refl w'.heap.size w').alloc (Nat.le_refl _) (.cells #[.int .i64 c1, .slice a1 n1 k1, .int .i64 c2, .slice a2 n2 k2] 36)
   have htwo : TwoErrs (.slice (some ⟨w'.heap.size,0,none⟩) 2 2) x1 x2 (w'.alloc (.cells #[.int .i64 c1, .slice a1 n1 k1, .int .i64 c2, .slice a2 n2 k2] 36)) := ⟨_,_,_,_,_,_,_,_,_,rfl,Cells.new w' 36 [.int .i64 c1, .slice a1 n1 k1, .int .i64 c2, .slice a2 n2 k2],F1.out.below ho,F2.out.below ho⟩
   have hn := HN.out
   have hk := HK1.out.below ho
   refine HK.out _ _ ⟨hk,dA,true,true,dF,d1,_,_,_,vF,v1,b4, ?_,rfl,rfl, ?_, ?_, ?_,fun h => (eA (by first | exact h | trivial)).below ho,fun h => (eB (by first | exact h | trivial)).below ho,fun _ => htwo,fun h => (eF (by first | exact h | trivial)).below ho,fun h => ⟨(e1 h).1,(e1 h).2.1.below ho (e1 h).2.1.lt,(e1 h).2.2⟩,hk⟩
   ·omega
   all_goals simp_all
  ·refine wpOp_step (o := { dst := some 59,op := Op.call { callee := Callee.value (Operand.func 51),args := #[Operand.tmp 58],argTypes := #[104] },type := 36,pos := "ref.go:115",after := #[{ on := 14,ground := Ground.data }, { on := 13,ground := Ground.chain }],guard := none }) rfl (fun K hK => ?_)
   have HK := Lib.hid hK
   clear hK
   obtain ⟨hBA,hSB,hFS,eA,eB,eS,eF,e1⟩ := HI.out
   clear eA eB eS eF e1 hBA hSB hFS
   go_simp
   refine (HF.out _ _ (HI.out.2.2.2.2.2.1 rfl)).mono ?_
   rintro e w1 ⟨v,rfl,hv,ho⟩
   go_wp2_with fail
   obtain ⟨hBA,hSB,hFS,eA,eB,eS,eF,e1⟩ := HI.out
   have hn := HN.out
   have hk := HK1.out.below ho
   refine HK.out _ _ ⟨hk,dA,dB,true,true,d1,vA,vB,vS,_,v1,b4, ?_,rfl,rfl, ?_, ?_, ?_,fun h => (eA (by first | exact h | trivial)).below ho,fun h => (eB (by first | exact h | trivial)).below ho,fun h => (eS (by first | exact h | trivial)).below ho,fun _ => hv,fun h => ⟨(e1 h).1,(e1 h).2.1.below ho (e1 h).2.1.lt,(e1 h).2.2⟩,hk⟩
   ·omega
   all_goals simp_all
  ·refine wpOp_step (o := { dst := some 4,op := Op.alloc 36,type := 0,pos := "ref.go:115",after := #[],guard := none }) rfl (fun K hK => ?_)
   have HK := Lib.hid hK
   clear hK
   obtain ⟨hBA,hSB,hFS,eA,eB,eS,eF,e1⟩ := HI.out
   clear eA eB eS eF e1 hBA hSB hFS
   go_simp
   obtain ⟨hBA,hSB,hFS,eA,eB,eS,eF,e1⟩ := HI.out
   have ho := (Below.refl w'.heap.size w').alloc (Nat.le_refl _) (.cells #[.int .i64 0, .slice none 0 0] 36)
   have hn := HN.out
   have hk := HK1.out.below ho
   refine HK.out _ _ ⟨hk,dA,dB,dS,dF,true,vA,vB,vS,vF,_,w'.heap.size, ?_,rfl,rfl, ?_, ?_, ?_,fun h => (eA (by first | exact h | trivial)).below ho,fun h => (eB (by first | exact h | trivial)).below ho,fun h => (eS (by first | exact h | trivial)).below ho,fun h => (eF (by first | exact h | trivial)).below ho,fun _ => ⟨rfl,Cells.new w' 36 errZero,HK1.out.r.lt⟩,hk⟩
   ·omega
   all_goals simp_all
end Go.Proofs.YtchhbgckonpedaaGreatDoor
/- The reference's look at a hierarchy: the whole. -/
namespace Go.Proofs.YtchhbgckonpedaaGreatDoor
open Go.ChangeShapes Go.WideShapes Go.ChangeAt Go.RowKit Go.Joins Go.Deep
theorem firstsGo_pos (l : List Nat) : ∀ k,(firstsGo l k).pos := by
 intro k
 induction k with
 | zero => simp [firstsGo,EV.pos]
 | succ k ih =>
  unfold firstsGo
  split
  ·split <;> simp [EV.pos]
  ·exact ih
theorem firstsErr_pos (l : List Nat) (n : Nat) : (firstsErr l n).pos := by
 unfold firstsErr
 split
 ·simp [EV.pos]
 ·split
  ·split <;> simp [EV.pos]
  ·exact firstsGo_pos _ _
theorem doc_firsts {s0 s4 s5 s6 s7 s8 s9 s10 s11 s12 s13 s14 s15 s16 s17 s18 s19 s20 s21 s22 s23 s24 s25 s26 s27 s28 s29 s30 s31 s32 s33 s34 s35 s36 s37 s38 s39 s40 s41 s42 s43 s44 s45 s46 s47 s48 s49 s50 s51 s52 s53 s54 s55 s56 s57 s58 s59 s60 s61 s62 s63 s64 s65 s66 s67 s68 s69 s70 s71 s72 s73 s74 s75 s76 s77 s78 s79 s80 s81 s82 s83 s84 s85 s86 s87 s88 s89 s90 s91 s92 s93 s94 s95 s96 s97 s98 s99 s100 s101 s102 s103 s104 s105 s106 : Value} {A : HA} {h : HierD} {w wx : World} {E : EV} (k : DK A h w wx) (see : HSee w A h) (fits : Fits h) (hk1 : h.up.length ≤ 140737488355328) (hk2 : h.dn.length ≤ 140737488355328)
  (hE : E = checkErr h) : Code.wp Tryz.prog (tailAt 3 docBody) (bodyPost Tryz.prog Tryz.f24 (ErrNew E w)) ⟨#[s0, .pointer (some ⟨w.heap.size,0,none⟩), .pointer (some ⟨(w.heap.size + 1),0,none⟩), .int .i64 (h.node.length : Nat),s4,s5,s6,s7,s8,s9,s10,s11,s12,s13,s14,s15,s16,s17,s18,s19,s20,s21,s22,s23,s24,s25,s26,s27,s28,s29,s30,s31,s32,s33,s34,s35,s36,s37,s38,s39,s40,s41,s42,s43,s44,s45,s46,s47,s48,s49,s50,s51,s52,s53,s54,s55,s56,s57,s58,s59,s60,s61,s62,s63,s64,s65,s66,s67,s68,s69,s70,s71,s72,s73,s74,s75,s76,s77,s78,s79,s80,s81,s82,s83,s84,s85,s86,s87,s88,s89,s90,s91,s92,s93,s94,s95,s96,s97,s98,s99,s100,s101,s102,s103,s104,s105,s106], []⟩ wx := by
 conv => arg 2; whnf
 apply wp_seq_k
 intro KK hK
 change Code.wp _ ((regionAt 6 docBody).getD .skip) _ _ _
 refine reg6 _ _ _ _ _ _ _ _ _ _ _ _ _ _ _ _ _ _ _ _ _ _ _ _ _ _ _ _ _ _ _ _ _ _ _ _ _ _ _ _ _ _ _ _ _ _ _ _ _ _ _ _ _ _ _ _ _ _ _ _ _ _ _ _ _ _ _ _ _ _ _ _ _ _ _ _ _ _ _ _ _ _ _ _ _ _ _ _ _ _ _ _ _ _ _ _ _ _ _ _ _ _ _ _ (x1 := firstsErr h.upF h.up.length) (x2 := firstsErr h.dnF h.dn.length) (x := if (firstsErr h.upF h.up.length).isNil = true then firstsErr h.dnF h.dn.length else firstsErr h.upF h.up.length) _ k (fun _ _ t _ _ hq => by cases t <;> exact hq) ?_ ?_ ?_ ?_
 ·intro w' hb
  exact rfirsts_any h.upF A.a1 A.c1 h.node.length h.up.length w' (see.upF.below hb) see.bu fits.u fits.n hk1
 ·intro w' hb
  exact rfirsts_any h.dnF A.a3 A.c3 h.node.length h.dn.length w' (see.dnF.below hb) see.bd fits.d fits.n hk2
 ·intro v w' t
  obtain ⟨b,c1,c2,a1,a2,n1,k1,n2,k2,rfl,hc,h1,h2⟩ := t
  exact rfirst_any b w' hc h1 h2 (firstsErr_pos _ _) (firstsErr_pos _ _) rfl
 ·intro b4 uc ua un ucap t44 t45 t46 t47 t48 t49 t50 t51 t52 t53 t54 t55 t56 t57 t58 t59 w' hc hv hd
  try dsimp only [Exit.then]
  refine hK _ _ ?_
  change Code.wp _ (tailAt 4 docBody) _ _ _
  have hpos : (if (firstsErr h.upF h.up.length).isNil = true then firstsErr h.dnF h.dn.length else firstsErr h.upF h.up.length).pos := by split <;> exact firstsErr_pos _ _
  refine doc_bad hd see fits hc hv hpos ?_ ?_
  ·intro hne
   rw [hE,fits.err]
   cases e1 : firstsErr h.upF h.up.length with
   | nil =>
    simp only [e1,EV.isNil,if_true] at hne ⊢
    cases e2 : firstsErr h.dnF h.dn.length with
    | nil => exact absurd e2 hne
    | code n => rfl
    | «at» a b c => rfl
   | code n => simp only [EV.isNil]; rfl
   | «at» a b c => simp only [EV.isNil]; rfl
  ·intro he
   have e1 : firstsErr h.upF h.up.length = .nil := by
    cases e1 : firstsErr h.upF h.up.length with
    | nil => rfl
    | code n => rw [e1] at he; simp [EV.isNil] at he
    | «at» a b c => rw [e1] at he; simp [EV.isNil] at he
   rw [e1] at he
   simp only [EV.isNil,if_true] at he
   refine ⟨firsts_nil fits.u e1,firsts_nil fits.d he,fun e3 => ?_,fun e3 => ?_⟩
   ·rw [hE,fits.err,e1,he,e3]
   ·rw [hE,fits.err,e1,he]
    cases e4 : orderErr h.node with
    | nil => exact absurd e4 e3
    | code n => rfl
    | «at» a b c => rfl
theorem doc_switch {s0 s4 s5 s6 s7 s8 s9 s10 s11 s12 s13 s14 s15 s16 s17 s18 s19 s20 s21 s22 s23 s24 s25 s26 s27 s28 s29 s30 s31 s32 s33 s34 s35 s36 s37 s38 s39 s40 s41 s42 s43 s44 s45 s46 s47 s48 s49 s50 s51 s52 s53 s54 s55 s56 s57 s58 s59 s60 s61 s62 s63 s64 s65 s66 s67 s68 s69 s70 s71 s72 s73 s74 s75 s76 s77 s78 s79 s80 s81 s82 s83 s84 s85 s86 s87 s88 s89 s90 s91 s92 s93 s94 s95 s96 s97 s98 s99 s100 s101 s102 s103 s104 s105 s106 : Value} {A : HA} {h : HierD} {w wx : World} {E : EV} (k : DK A h w wx) (see : HSee w A h) (hk1 : h.up.length ≤ 140737488355328) (hk2 : h.dn.length ≤ 140737488355328) (hn64 : h.node.length ≤ 140737488355328)
  (hE : E = checkErr h) : Code.wp Tryz.prog (tailAt 2 docBody) (bodyPost Tryz.prog Tryz.f24 (ErrNew E w)) ⟨#[s0, .pointer (some ⟨w.heap.size,0,none⟩), .pointer (some ⟨(w.heap.size + 1),0,none⟩), .int .i64 (h.node.length : Nat),s4,s5,s6,s7,s8,s9,s10,s11,s12,s13,s14,s15,s16,s17,s18,s19,s20,s21,s22,s23,s24,s25,s26,s27,s28,s29,s30,s31,s32,s33,s34,s35,s36,s37,s38,s39,s40,s41,s42,s43,s44,s45,s46,s47,s48,s49,s50,s51,s52,s53,s54,s55,s56,s57,s58,s59,s60,s61,s62,s63,s64,s65,s66,s67,s68,s69,s70,s71,s72,s73,s74,s75,s76,s77,s78,s79,s80,s81,s82,s83,s84,s85,s86,s87,s88,s89,s90,s91,s92,s93,s94,s95,s96,s97,s98,s99,s100,s101,s102,s103,s104,s105,s106], []⟩ wx := by
 have K := Lib.hid k
 have SEE := Lib.hid see
 have HE := Lib.hid hE
 obtain ⟨k0,k1,k2,k3,k4⟩ := hier_five k.x
 clear k see hE
 conv => arg 2; whnf
 apply wp_seq_k
 intro KK hK
 have HKK := Lib.hid hK
 clear hK
 by_cases h1 : 65536 < h.node.length
 ·have hd : decide (65536 < h.node.length) = true := by simpa using h1
  have hd' : decide ((65536 : Int) < (h.node.length : Int)) = true := by simp; omega
  have HER := Lib.hid (show E = .code 9 by rw [HE.out]; unfold checkErr; rw [if_pos (.inl h1)])
  clear h1 HE
  go_wp2_with fail
  refine (e_any 9 _).mono ?_
  rintro e w1 ⟨v,rfl,hv,hb⟩
  obtain rfl : v = _ := hv
  have K1 := Lib.hid (K.out.below hb)
  clear hb k0 k1 k2 k3 k4
  have z0 : w1.cell? ⟨w.heap.size + 1,0,none⟩ = some (.int .i64 0) := K1.out.r.cell rfl
  have z1 : w1.cell? ⟨w.heap.size + 1,1,none⟩ = some (.slice none 0 0) := K1.out.r.cell rfl
  have g0 := K1.out.r.frozen 0
  have g1 := K1.out.r.frozen 1
  have lr := K1.out.r.lt
  go_wp2
  refine bodyPost_ret (results_e rfl _ _ (w.heap.size + 1) 36 [.int .i64 9, .slice none 0 0] _ rfl ((K1.out.r.set 0 _).set 1 _) Tryz.underlying36 rfl (by rw [Tryz.sizeErr]; rfl)) rfl ?_
  rw [HER.out]
  exact ⟨_,rfl,rfl,(K1.out.b.setCell (p := ⟨w.heap.size + 1,0,none⟩) (by simp) _).setCell (p := ⟨w.heap.size + 1,1,none⟩) (by simp) _⟩
 have hd : decide (65536 < h.node.length) = false := by simpa using h1
 have hd' : decide ((65536 : Int) < (h.node.length : Int)) = false := by simp; omega
 have hwe : wrap64 ((h.up.length : Int) + (h.dn.length : Int)) = (h.up.length : Int) + (h.dn.length : Int) := IntWalk.wrap64_in _ (by omega)
 by_cases h2 : 1048576 < wrap64 ((h.up.length : Int) + (h.dn.length : Int))
 ·have hd2 : decide ((1048576 : Int) < (h.up.length : Int) + (h.dn.length : Int)) = true := by rw [hwe] at h2; simpa using h2
  have HER := Lib.hid (show E = .code 9 by rw [HE.out]; unfold checkErr; rw [if_pos (.inr h2)])
  clear h1 h2 hwe HE
  go_wp2_with fail
  refine (e_any 9 _).mono ?_
  rintro e w1 ⟨v,rfl,hv,hb⟩
  obtain rfl : v = _ := hv
  have K1 := Lib.hid (K.out.below hb)
  clear hb k0 k1 k2 k3 k4
  have z0 : w1.cell? ⟨w.heap.size + 1,0,none⟩ = some (.int .i64 0) := K1.out.r.cell rfl
  have z1 : w1.cell? ⟨w.heap.size + 1,1,none⟩ = some (.slice none 0 0) := K1.out.r.cell rfl
  have g0 := K1.out.r.frozen 0
  have g1 := K1.out.r.frozen 1
  have lr := K1.out.r.lt
  go_wp2
  refine bodyPost_ret (results_e rfl _ _ (w.heap.size + 1) 36 [.int .i64 9, .slice none 0 0] _ rfl ((K1.out.r.set 0 _).set 1 _) Tryz.underlying36 rfl (by rw [Tryz.sizeErr]; rfl)) rfl ?_
  rw [HER.out]
  exact ⟨_,rfl,rfl,(K1.out.b.setCell (p := ⟨w.heap.size + 1,0,none⟩) (by simp) _).setCell (p := ⟨w.heap.size + 1,1,none⟩) (by simp) _⟩
 have hd2 : decide ((1048576 : Int) < (h.up.length : Int) + (h.dn.length : Int)) = false := by rw [hwe] at h2; simpa using h2
 by_cases h3 : h.upF.length = h.node.length + 1
 case neg =>
  have g1 : ((h.upF.length : Int) != (h.node.length : Int) + 1) = true := by simp; omega
  have HER := Lib.hid (show E = .code 14 by rw [HE.out]; unfold checkErr; rw [if_neg (by omega),if_pos (.inl h3)])
  clear h1 h2 h3 hwe HE
  go_wp2_with fail
  refine (e_any 14 _).mono ?_
  rintro e w1 ⟨v,rfl,hv,hb⟩
  obtain rfl : v = _ := hv
  have K1 := Lib.hid (K.out.below hb)
  clear hb k0 k1 k2 k3 k4
  have z0 : w1.cell? ⟨w.heap.size + 1,0,none⟩ = some (.int .i64 0) := K1.out.r.cell rfl
  have z1 : w1.cell? ⟨w.heap.size + 1,1,none⟩ = some (.slice none 0 0) := K1.out.r.cell rfl
  have g0 := K1.out.r.frozen 0
  have g1 := K1.out.r.frozen 1
  have lr := K1.out.r.lt
  go_wp2
  refine bodyPost_ret (results_e rfl _ _ (w.heap.size + 1) 36 [.int .i64 14, .slice none 0 0] _ rfl ((K1.out.r.set 0 _).set 1 _) Tryz.underlying36 rfl (by rw [Tryz.sizeErr]; rfl)) rfl ?_
  rw [HER.out]
  exact ⟨_,rfl,rfl,(K1.out.b.setCell (p := ⟨w.heap.size + 1,0,none⟩) (by simp) _).setCell (p := ⟨w.heap.size + 1,1,none⟩) (by simp) _⟩
 have g1 : ((h.upF.length : Int) != (h.node.length : Int) + 1) = false := by simp; omega
 by_cases h4 : h.dnF.length = h.node.length + 1
 case neg =>
  have g2 : ((h.dnF.length : Int) != (h.node.length : Int) + 1) = true := by simp; omega
  have HER := Lib.hid (show E = .code 14 by rw [HE.out]; unfold checkErr; rw [if_neg (by omega),if_pos (.inr h4)])
  clear h1 h2 h3 h4 hwe HE
  go_wp2_with fail
  refine (e_any 14 _).mono ?_
  rintro e w1 ⟨v,rfl,hv,hb⟩
  obtain rfl : v = _ := hv
  have K1 := Lib.hid (K.out.below hb)
  clear hb k0 k1 k2 k3 k4
  have z0 : w1.cell? ⟨w.heap.size + 1,0,none⟩ = some (.int .i64 0) := K1.out.r.cell rfl
  have z1 : w1.cell? ⟨w.heap.size + 1,1,none⟩ = some (.slice none 0 0) := K1.out.r.cell rfl
  have g0 := K1.out.r.frozen 0
  have g1 := K1.out.r.frozen 1
  have lr := K1.out.r.lt
  go_wp2
  refine bodyPost_ret (results_e rfl _ _ (w.heap.size + 1) 36 [.int .i64 14, .slice none 0 0] _ rfl ((K1.out.r.set 0 _).set 1 _) Tryz.underlying36 rfl (by rw [Tryz.sizeErr]; rfl)) rfl ?_
  rw [HER.out]
  exact ⟨_,rfl,rfl,(K1.out.b.setCell (p := ⟨w.heap.size + 1,0,none⟩) (by simp) _).setCell (p := ⟨w.heap.size + 1,1,none⟩) (by simp) _⟩
 have g2 : ((h.dnF.length : Int) != (h.node.length : Int) + 1) = false := by simp; omega
 have FITS := Lib.hid (show Fits h from ⟨by omega,by omega,h3,h4⟩)
 clear h1 h2 h3 h4 hwe
 go_wp2_with fail
 refine HKK.out _ _ ?_
 change Code.wp _ (tailAt 3 docBody) _ _ _
 exact doc_firsts K.out SEE.out FITS.out hk1 hk2 HE.out
theorem rdoccheck_any (A : HA) (h : HierD) (w : World) (see : HSee w A h) (hk1 : h.up.length ≤ 140737488355328) (hk2 : h.dn.length ≤ 140737488355328) (hn64 : h.node.length ≤ 140737488355328) :
  Calls Tryz.prog 24 #[hierVal A h] w (ErrNew (checkErr h) w) := by
 have SEE := Lib.hid see
 have hb0 := ((Below.refl w.heap.size w).alloc (Nat.le_refl _) (.cells (hierCells A h).toArray 25)).alloc (by simp) (.cells errZero.toArray 36)
 have K := Lib.hid (DK.mk (A := A) (h := h) ((Cells.new w 25 (hierCells A h)).alloc (.cells errZero.toArray 36)) (cells_at (by simp) 36 errZero) hb0)
 clear see hb0
 unfold hierVal
 obtain ⟨E,hE⟩ : ∃ E,E = checkErr h := ⟨_,rfl⟩
 rw [← hE]
 have HE := Lib.hid hE
 clear hE
 go_enter Tryz.func24, Tryz.ntmps24
 apply wp_seq_k
 intro K1 hK
 have HK1 := Lib.hid hK
 clear hK
 go_wp2_with fail
 obtain ⟨wz,hwz⟩ : ∃ wz,(w.alloc (.cells (hierCells A h).toArray 25)).alloc (.cells errZero.toArray 36) = wz := ⟨_,rfl⟩
 have K2 := K.out
 rw [hwz] at K2
 try rw [show (w.alloc (.cells #[.slice A.a0 h.node.length A.c0, .slice A.a1 h.upF.length A.c1, .slice A.a2 h.up.length A.c2, .slice A.a3 h.dnF.length A.c3, .slice A.a4 h.dn.length A.c4] 25)).alloc (.cells #[.int .i64 0, .slice none 0 0] 36) = wz from hwz]
 have K3 := Lib.hid K2
 obtain ⟨k0,k1,k2,k3,k4⟩ := hier_five K2.x
 clear K2 hwz K
 refine HK1.out _ _ ?_
 apply wp_seq_k
 intro K4 hK
 have HK4 := Lib.hid hK
 clear hK
 go_wp2_with fail
 refine HK4.out _ _ ?_
 change Code.wp _ (tailAt 2 docBody) _ _ _
 exact doc_switch K3.out SEE.out hk1 hk2 hn64 HE.out
end Go.Proofs.YtchhbgckonpedaaGreatDoor
