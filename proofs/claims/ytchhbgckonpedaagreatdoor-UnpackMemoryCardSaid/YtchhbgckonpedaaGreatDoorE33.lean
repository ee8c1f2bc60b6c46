/- The reference's DocNodes. -/
import Derived.Test.YtchhbgckonpedaaGreatDoorE32
import Derived.Deep.RegionLaw
set_option linter.unusedSimpArgs false
set_option maxRecDepth 100000
set_option maxHeartbeats 8000000
namespace Go.Proofs.YtchhbgckonpedaaGreatDoor
open Go.ChangeShapes Go.WideShapes Go.ChangeAt Go.RowKit Go.Joins Go.Deep
noncomputable def dnBody : Code := Tryz.f18.body.getD .skip
theorem step_app {P : Program} {ops : Array Oper} {o : Oper} {a : Act} {w : World} {K : Act → World → Prop} {Q : Exit → Act → World → Prop} {E : Prop} (hgd : o.guard = none) (s x : Operand) (t : TypeId)
  (ho : o.op = .call { callee := .builtin .append,args := #[s,x],argTypes := #[t,t] })
  (e : TypeId) (z : Value) (size bytes : Nat) (ht : P.underlying t = some (.slice e)) (hinfo : (P.info? e).map (fun i => (i.zero,i.size,i.bytes)) = some (some z,size,bytes)) (hzs : z.cells.size = size) (hsz : 0 < size)
  (v : Value) (n : Nat) (xs : List Value) (hs : a.eval s = v) (hown : w.ownsRow 0 e size v n xs)
  (ad : Addr) (m c : Nat) (news : List Value) (hx : a.eval x = .slice (some ad) m c) (hl : news.length = m * size) (hnews : ∀ j u,news[j]? = some u → w.cell? (ad.add j) = some u) (h1 : ∀ u ∈ news,u.oneCell' = true)
  (h63 : n + m ≤ maxLen) (hbytes : (n + m) * bytes ≤ 140737488355328)
  (h : ∀ ao cap w',w'.ownsRow 0 e size (.slice ao (n + m) cap) (n + m) (xs ++ news) → Only v.ownBlock.toList w w' → (∀ k,(Value.slice ao (n + m) cap).ownBlock = some k → v.ownBlock = some k ∨ w.heap.size ≤ k) → K (a.put o.dst (.slice ao (n + m) cap)) w') :
  if Region.wanted o (yielded ops a.tmps) = true then Oper.wp P o a w K Q else E := by
 have hw : Region.wanted o (yielded ops a.tmps) = true := by simp [Region.wanted,hgd]
 rw [if_pos hw]
 exact wp_app w s x t ho e z size bytes ht hinfo hzs hsz v n xs hs hown ad m c news hx hl hnews h1 h63 hbytes h
theorem dn_bad {s0 s3 s6 s8 s9 s10 s11 s12 s13 s14 s15 s16 s17 s18 s19 s20 s21 s22 s23 s24 s25 s26 s27 s28 s29 s30 s31 s32 s33 s34 s35 s36 s37 s38 s39 s40 s41 s42 s43 s44 s45 s46 s47 s48 s49 s50 s51 s52 s53 s54 s55 s56 s57 : Value} {A : HA} {h : HierD} {i : Int} {w wx : World} {be : Nat} {x : EV} {uc : Int} {ua : Option Addr} {un ucap : Nat} (k : DK A h w wx) (he : Cells wx be 36 [.int .i64 uc, .slice ua un ucap]) (hv : ErrV wx (.agg [.int .i64 uc, .slice ua un ucap].toArray) x) (hp : x.pos) (hx : x ≠ .nil)
  (hr : nodesRes h i = ([],x)) : Code.wp Tryz.prog (tailAt 2 dnBody) (bodyPost Tryz.prog Tryz.f18 (RListNew (nodesRes h i) w)) ⟨#[s0, .int .i64 i, .pointer (some ⟨w.heap.size,0,none⟩),s3, .slice none 0 0, .pointer (some ⟨(w.heap.size + 1),0,none⟩),s6, .pointer (some ⟨be,0,none⟩),s8,s9,s10,s11,s12,s13,s14,s15,s16,s17,s18,s19,s20,s21,s22,s23,s24,s25,s26,s27,s28,s29,s30,s31,s32,s33,s34,s35,s36,s37,s38,s39,s40,s41,s42,s43,s44,s45,s46,s47,s48,s49,s50,s51,s52,s53,s54,s55,s56,s57], []⟩ wx := by
 have K := Lib.hid k
 have y0 : wx.cell? ⟨be,0,none⟩ = some (.int .i64 uc) := he.cell rfl
 have y1 : wx.cell? ⟨be,1,none⟩ = some (.slice ua un ucap) := he.cell rfl
 have HE := Lib.hid he
 have HV := Lib.hid hv
 have HR := Lib.hid hr
 have HPX := Lib.hid hp
 have hnil : x.isNil = false := by cases hh : x.isNil with
  | true => exact absurd (EV.isNil_iff.1 hh) hx
  | false => rfl
 clear k he hv hr hp hx
 conv => arg 2; whnf
 go_wp2_with fail
 refine (bad_any _ x _ HV.out HPX.out).mono ?_
 rintro e w1 ⟨rfl,hb⟩
 rw [hnil]
 have K1 := Lib.hid (K.out.below hb)
 have HE1 := Lib.hid (HE.out.below hb HE.out.lt)
 have HV1 := Lib.hid (HV.out.below hb)
 have x0 : w1.cell? ⟨be,0,none⟩ = some (.int .i64 uc) := HE1.out.cell rfl
 have x1 : w1.cell? ⟨be,1,none⟩ = some (.slice ua un ucap) := HE1.out.cell rfl
 have z0 : w1.cell? ⟨w.heap.size + 1,0,none⟩ = some (.int .i64 0) := K1.out.r.cell rfl
 have z1 : w1.cell? ⟨w.heap.size + 1,1,none⟩ = some (.slice none 0 0) := K1.out.r.cell rfl
 have g0 := K1.out.r.frozen 0
 have g1 := K1.out.r.frozen 1
 have lr := K1.out.r.lt
 clear hb K HE HV y0 y1
 go_wp2_with fail
 go_region
 all_goals
  try dsimp only [Exit.then]
  go_wp2
  refine bodyPost_ret (results_te3 rfl _ _ (w.heap.size + 1) 36 [.int .i64 uc, .slice ua un ucap] _ rfl (((K1.out.r.drew).set 0 _).set 1 _) Tryz.underlying36 rfl (by rw [Tryz.sizeErr]; rfl)) rfl ?_
  rw [HR.out]
  exact ⟨none,0,_,rfl,(HV1.out.below (Below.refl _ _).drew).put K1.out.r.drew _ _,Nats.nil _ _,((K1.out.b.drew).setCell (p := ⟨w.heap.size + 1,0,none⟩) (by simp) _).setCell (p := ⟨w.heap.size + 1,1,none⟩) (by simp) _⟩
theorem dn_good {s0 s3 s8 s9 s10 s11 s12 s13 s14 s15 s16 s17 s18 s19 s20 s21 s22 s23 s24 s25 s26 s27 s28 s29 s30 s31 s32 s33 s34 s35 s36 s37 s38 s39 s40 s41 s42 s43 s44 s45 s46 s47 s48 s49 s50 s51 s52 s53 s54 s55 s56 s57 : Value} {A : HA} {h : HierD} {i : Int} {w wx : World} {be lc x0 M : Nat} {la : Option Addr} {ls : List Nat} (k : DK A h w wx) (see : HSee w A h) (he : Cells wx be 36 errZero) (hc : checkErr h = .nil) (htot : cntOf h ≤ 1048576)
  (sl : See wx la lc i64Cells 1 (x0 :: ls)) (hl : ∀ x ∈ x0 :: ls,x < cntOf h) (hlen : M ≤ 131072) (hM : (x0 :: ls).length = M) :
  Code.wp Tryz.prog (tailAt 2 dnBody) (bodyPost Tryz.prog Tryz.f18 (RListNew (nodesL h (x0 :: ls), .nil) w)) ⟨#[s0, .int .i64 i, .pointer (some ⟨w.heap.size,0,none⟩),s3, .slice none 0 0, .pointer (some ⟨(w.heap.size + 1),0,none⟩), .slice la M lc, .pointer (some ⟨be,0,none⟩),s8,s9,s10,s11,s12,s13,s14,s15,s16,s17,s18,s19,s20,s21,s22,s23,s24,s25,s26,s27,s28,s29,s30,s31,s32,s33,s34,s35,s36,s37,s38,s39,s40,s41,s42,s43,s44,s45,s46,s47,s48,s49,s50,s51,s52,s53,s54,s55,s56,s57], []⟩ wx := by
 have K := Lib.hid k
 have y0 : wx.cell? ⟨be,0,none⟩ = some (.int .i64 0) := he.cell rfl
 have y1 : wx.cell? ⟨be,1,none⟩ = some (.slice none 0 0) := he.cell rfl
 have HE := Lib.hid he
 have SEE := Lib.hid see
 have HC := Lib.hid hc
 have HT := Lib.hid htot
 have HL := Lib.hid hl
 have SL := Lib.hid sl
 obtain ⟨u,d⟩ := parts_firsts hc
 have HU := Lib.hid u
 have HD := Lib.hid d
 have hn := (checkErr_parts hc).1.n
 clear k he see hc htot hl sl u d
 conv => arg 2; whnf
 go_wp2_with fail
 refine (bad_any (.agg #[.int .i64 0, .slice none 0 0]) .nil _ rfl trivial).mono ?_
 rintro e w1 ⟨rfl,hb⟩
 have K1 := Lib.hid (K.out.below hb)
 have HE1 := Lib.hid (HE.out.below hb HE.out.lt)
 have SL1 := Lib.hid (SL.out.below hb)
 obtain ⟨k0,k1,k2,k3,k4⟩ := hier_five K1.out.x
 clear hb K HE SL y0 y1
 dsimp only [EV.isNil,Bool.not_true]
 go_wp2_with fail
 refine (arcs_any A h _ (SEE.out.below K1.out.b) HU.out HD.out hn HT.out).mono ?_
 rintro e w2 ⟨aa,ac,rfl,sa, -,hb⟩
 have K2 := Lib.hid (K1.out.below hb)
 have HE2 := Lib.hid (HE1.out.below hb HE1.out.lt)
 have SL2 := Lib.hid (SL1.out.below hb)
 have SA := Lib.hid sa
 have hel := cnt_ends HC.out
 obtain ⟨k0,k1,k2,k3,k4⟩ := hier_five K2.out.x
 clear hb K1 HE1 SL1 sa k1 k2 k3 k4
 have HEL := Lib.hid hel
 have HMEM0 := Lib.hid (show x0 ∈ x0 :: ls by simp)
 have hx0 := end_cases HC.out (HL.out x0 HMEM0.out)
 obtain ⟨q0,hq0⟩ : ∃ q,(endAt h x0).tail = q := ⟨_,rfl⟩
 have hqn0 : q0 < h.node.length := by rw [← hq0]; exact hx0.2.1
 obtain ⟨v0,hv0⟩ : ∃ v,h.node[q0]? = some v := ⟨_,List.getElem?_eq_getElem hqn0⟩
 have hnv0 : nodeAt h (endAt h x0).tail = v0 := by rw [hq0]; unfold nodeAt; rw [List.getD_eq_getElem?_getD,hv0]; rfl
 have v320 : v0 < 4294967296 := SEE.out.bn _ (List.mem_of_getElem? hv0)
 have cv0 := IntWalk.i64_in (v0 : Int) (by omega)
 obtain ⟨bn0,on0,ean0,ccn0⟩ := SEE.out.node.cell q0 v0 hv0
 have cn0 := ck (K2.out.b) (ccn0 0 _ rfl)
 rw [Nat.mul_one,Nat.add_zero] at cn0
 have ln0 := block_lt cn0
 have hea0 : (endsOf h)[x0]? = some (endAt h x0) := by
  have hlt := HL.out x0 HMEM0.out
  have : x0 < (endsOf h).length := by rw [HEL.out]; exact hlt
  unfold endAt
  rw [List.getD_eq_getElem?_getD,List.getElem?_eq_getElem this]
  rfl
 have hel0 : x0 < (endsOf h).length := by rw [HEL.out]; exact HL.out x0 HMEM0.out
 obtain ⟨b3,o3,ea3,cc3⟩ := SA.out.cell x0 _ hea0
 have a0 := cc3 0 _ rfl
 rw [Nat.add_zero] at a0
 rw [hq0] at a0
 have la3 := block_lt a0
 obtain ⟨b4,o4,ea4,cc4⟩ := SL2.out.cell 0 x0 rfl
 have l0 := cc4 0 _ rfl
 simp only [Nat.zero_mul,Nat.add_zero] at l0
 have ll4 := block_lt l0
 have hcap := SL2.out.hcap
 have hl1 : 0 < M := by rw [← hM]; simp
 rw [ean0] at k0
 have EA3 := Lib.hid ea3
 have EA4 := Lib.hid ea4
 have HN0 := Lib.hid hnv0
 have HEAN := Lib.hid ean0
 have HMM := Lib.hid hM
 obtain ⟨N,hNN⟩ : ∃ N,(endsOf h).length = N := ⟨_,rfl⟩
 have HNN := Lib.hid hNN
 rw [hNN] at hel0 ⊢
 rw [EA3.out,EA4.out]
 clear hx0 hq0 hv0 hnv0 ccn0 hea0 cc3 ea3 cc4 ea4 hcap hel ean0 hM hNN
 go_upto_region 5 with fail
 go_still_tail 12,(by kernel_rfl)
 change wpList _ _ _ _ _ w2.drew
 go_wp2_with fail
 have HNA := Lib.hid (show Nats w2.heap.size ((w2.alloc (.cells #[.int .i64 v0] 3)).drew) (.slice (some ⟨w2.heap.size,0,none⟩) 1 1) [v0] from (Nats.fresh w2 [v0] (by simp)).below (Below.refl _ _).drew)
 have HBA := Lib.hid (show Below w2.heap.size w2 ((w2.alloc (.cells #[.int .i64 v0] 3)).drew) from ((Below.refl _ _).alloc (Nat.le_refl _) _).drew)
 clear cn0 a0 l0 k0
 go_loopg [9,38] M (fun g vm vi wr => ∃ (k : Nat) (ao : Option Addr) (cap : Nat),vi = .int .i64 (k : Int) ∧ k ≤ M ∧ g = M - k ∧ vm = .slice ao (k + 1) cap ∧
  Nats w2.heap.size wr (.slice ao (k + 1) cap) (v0 :: ((x0 :: ls).take k).map fun y => nodeAt h (endAt h y).head) ∧ Below w2.heap.size w2 wr)
 case atStart => exact ⟨0,some ⟨w2.heap.size,0,none⟩,1,rfl,Nat.zero_le _,rfl,rfl,HNA.out,HBA.out⟩
 case round =>
  obtain ⟨k,ao,cap,rfl,hk,hg,rfl,hnat,hbl⟩ := hrel
  obtain ⟨wp,rfl⟩ : ∃ wp : World,wp = wr := ⟨_,rfl⟩
  have HG := Lib.hid hg
  have HNT := Lib.hid hnat
  have HBL := Lib.hid hbl
  have hz := hbl.size
  have KP := Lib.hid (K2.out.below hbl)
  clear hg hnat hbl
  by_cases hkm : k < M
  ·obtain ⟨x,hx⟩ : ∃ x,(x0 :: ls)[k]? = some x := ⟨_,List.getElem?_eq_getElem (by rw [HMM.out]; exact hkm)⟩
   have HMEM1 := Lib.hid (List.mem_of_getElem? hx)
   have hx1 := end_cases HC.out (HL.out x HMEM1.out)
   obtain ⟨q1,hq1⟩ : ∃ q,(endAt h x).head = q := ⟨_,rfl⟩
   have hqn1 : q1 < h.node.length := by rw [← hq1]; exact hx1.2.2
   obtain ⟨v1,hv1⟩ : ∃ v,h.node[q1]? = some v := ⟨_,List.getElem?_eq_getElem hqn1⟩
   have hnv1 : nodeAt h (endAt h x).head = v1 := by rw [hq1]; unfold nodeAt; rw [List.getD_eq_getElem?_getD,hv1]; rfl
   have v321 : v1 < 4294967296 := SEE.out.bn _ (List.mem_of_getElem? hv1)
   have cv1 := IntWalk.i64_in (v1 : Int) (by omega)
   obtain ⟨bn1,on1,ean1,ccn1⟩ := SEE.out.node.cell q1 v1 hv1
   have cn1 := ck (KP.out.b) (ccn1 0 _ rfl)
   rw [Nat.mul_one,Nat.add_zero] at cn1
   have ln1 := block_lt cn1
   have hea1 : (endsOf h)[x]? = some (endAt h x) := by
    have hlt := HL.out x HMEM1.out
    have : x < (endsOf h).length := by rw [HEL.out]; exact hlt
    unfold endAt
    rw [List.getD_eq_getElem?_getD,List.getElem?_eq_getElem this]
    rfl
   have hel1 : x < N := by rw [← HNN.out,HEL.out]; exact HL.out x HMEM1.out
   obtain ⟨b5,o5,ea5,cc5⟩ := SA.out.cell x _ hea1
   rw [EA3.out] at ea5
   simp only [Option.some.injEq,Addr.mk.injEq,and_true] at ea5
   obtain ⟨rfl,rfl⟩ := ea5
   have a1 := ck HBL.out (cc5 1 _ rfl)
   rw [hq1] at a1
   have la1 := block_lt a1
   obtain ⟨b6,o6,ea6,cc6⟩ := SL2.out.cell k x hx
   rw [EA4.out] at ea6
   simp only [Option.some.injEq,Addr.mk.injEq,and_true] at ea6
   obtain ⟨rfl,rfl⟩ := ea6
   have l1 := ck HBL.out (cc6 0 _ rfl)
   simp only [Nat.mul_one,Nat.add_zero] at l1
   have ll1 := block_lt l1
   obtain ⟨k0, -, -, -, -⟩ := hier_five KP.out.x
   rw [HEAN.out] at ean1 k0
   simp only [Option.some.injEq,Addr.mk.injEq,and_true] at ean1
   obtain ⟨rfl,rfl⟩ := ean1
   have HNV := Lib.hid hnv1
   have HXX := Lib.hid hx
   clear hx1 hq1 hv1 hnv1 ccn1 hea1 cc5 cc6 hx
   go_upto_region 9 with fail
   have hownk : wp.ownsRow 0 3 1 (.slice ao (k + 1) cap) (k + 1) ((v0 :: ((x0 :: ls).take k).map fun y => nodeAt h (endAt h y).head).flatMap i64Cells) := by
    have := HNT.out.own
    rwa [show (v0 :: ((x0 :: ls).take k).map fun y => nodeAt h (endAt h y).head).length = k + 1 from (HNT.out.see.2).symm] at this
   have HOK := Lib.hid hownk
   clear hownk
   go_region_law (refine step_app rfl (.tmp 42) (.tmp 53) 28 rfl 3 (.int .i64 0) 1 8 Tryz.underlying28 Tryz.infoInt rfl (by decide) (.slice ao (k + 1) cap) (k + 1) ((v0 :: ((x0 :: ls).take k).map fun y => nodeAt h (endAt h y).head).flatMap i64Cells) (by simp [Act.eval,Act.put]) (own_kept (bs := []) HOK.out (((Only.refl _ wp).drew).alloc _) (fun q _ => by simp)) ⟨wp.heap.size,0,none⟩ 1 1 (i64Cells v1) (by simp [Act.eval,Act.put]) rfl (cells_new wp.drew 3 (i64Cells v1)) (by intro u hu; simp [i64Cells] at hu; subst hu; rfl) (by unfold maxLen; omega) (by omega) ?_; intro ao5 cap5 w5 hown5 ho5 hk5)
   all_goals
    try dsimp only [Exit.then]
    have hba : Below wp.heap.size wp ((wp.drew).alloc (.cells #[.int .i64 v1] 3)) := ((Below.refl _ _).drew).alloc (Nat.le_refl _) _
    have hbw := HBL.out.trans (hba.mono hz)
    have hbl5 : Below w2.heap.size w2 w5 := hbw.trans (ho5.below hbw.size (fun q hq => HNT.out.new q (own_mem hq)))
    have hlen : (v0 :: ((x0 :: ls).take k).map fun y => nodeAt h (endAt h y).head).length = k + 1 := (HNT.out.see.2).symm
    have htk : (v0 :: ((x0 :: ls).take (k + 1)).map fun y => nodeAt h (endAt h y).head) = (v0 :: ((x0 :: ls).take k).map fun y => nodeAt h (endAt h y).head) ++ [v1] := by
     rw [List.take_add_one,HXX.out,Option.toList_some,List.map_append,List.map_cons,HNV.out]
     rfl
    have hn5 : Nats w2.heap.size w5 (.slice ao5 (k + 1 + 1) cap5) (v0 :: ((x0 :: ls).take (k + 1)).map fun y => nodeAt h (endAt h y).head) := by
     rw [htk]
     have := (HNT.out.below hba).app [v1] (m := 1) rfl (ao := ao5) (cap := cap5) (w5 := w5) (by rw [hlen]; simpa using hown5) (by rw [hlen]; simpa using hk5) (by simp; omega)
     rwa [hlen] at this
    have N5 := Lib.hid hn5
    have B5 := Lib.hid hbl5
    clear hown5 ho5 hk5 hba hbw hbl5 hlen htk hn5 cn1 a1 l1 k0
    go_wp2_with fail
    go_roundg (M - (k + 1))
    case measure => rw [HG.out]; omega
    case rel => exact ⟨k + 1,ao5,cap5,by go_num,by omega,rfl,rfl,N5.out,B5.out⟩
  ·obtain rfl : k = M := by omega
   have HE3 := HE2.out.below HBL.out HE2.out.lt
   have z2 : wp.cell? ⟨be,0,none⟩ = some (.int .i64 0) := HE3.cell rfl
   have z3 : wp.cell? ⟨be,1,none⟩ = some (.slice none 0 0) := HE3.cell rfl
   have z0 : wp.cell? ⟨w.heap.size + 1,0,none⟩ = some (.int .i64 0) := KP.out.r.cell rfl
   have z1 : wp.cell? ⟨w.heap.size + 1,1,none⟩ = some (.slice none 0 0) := KP.out.r.cell rfl
   have g0 := KP.out.r.frozen 0
   have g1 := KP.out.r.frozen 1
   have lr := KP.out.r.lt
   have hN : Nats w2.heap.size wp (.slice ao (nodesL h (x0 :: ls)).length cap) (nodesL h (x0 :: ls)) := by
    have := HNT.out
    rw [← HMM.out,List.take_length] at this
    rw [nodesL_cons,HN0.out]
    have e : (v0 :: (x0 :: ls).map fun y => nodeAt h (endAt h y).head).length = (x0 :: ls).length + 1 := by simp
    rw [e]
    exact this
   have hl : (nodesL h (x0 :: ls)).length = k + 1 := by rw [nodesL_cons, ← HMM.out]; simp
   have HNF := Lib.hid hN
   have HLF := Lib.hid hl
   clear HE3 hN hl
   go_wp2_with fail
   go_region
   all_goals
    try dsimp only [Exit.then]
    go_wp2
    refine bodyPost_ret (results_te3 rfl _ _ (w.heap.size + 1) 36 [.int .i64 0, .slice none 0 0] _ rfl (((KP.out.r.drew).set 0 _).set 1 _) Tryz.underlying36 rfl (by rw [Tryz.sizeErr]; rfl)) rfl ?_
    refine ⟨ao,cap,_,by rw [HLF.out]; rfl,rfl,(HNF.out.kept (bs := [w.heap.size + 1]) ((((Only.refl [w.heap.size + 1] wp).drew).setCell (p := ⟨w.heap.size + 1,0,none⟩) (.inl (by simp)) _).setCell (p := ⟨w.heap.size + 1,1,none⟩) (.inl (by simp)) _) (fun q hq => by have h1 := HNF.out.new q hq; have h2 := K2.out.r.lt; simp; omega)).mono K2.out.b.size,((KP.out.b.drew).setCell (p := ⟨w.heap.size + 1,0,none⟩) (by simp) _).setCell (p := ⟨w.heap.size + 1,1,none⟩) (by simp) _⟩
theorem linksRes_ne {h : HierD} {i : Int} (h2 : (linksRes h i).2 = .nil) : (linksRes h i).1 ≠ [] := by
 unfold linksRes at *
 split at h2
 ·rename_i hc
  rw [if_pos hc]
  split at h2
  ·cases h2
  ·rename_i hi
   rw [if_neg hi]
   unfold layRes at *
   split at h2
   ·rename_i hl
    rw [if_pos hl]
    have := laysOf_pos hc i.toNat (by omega)
    intro e
    simp only [stackOut,List.flatMap_cons,List.flatMap_nil,List.append_nil] at e
    rw [e] at this
    simp at this
   ·cases h2
 ·rename_i hc
  exact absurd h2 hc
theorem linksRes_pos {h : HierD} {i : Int} : (linksRes h i).2.pos := by
 unfold linksRes
 split
 ·split
  ·exact ⟨by decide,by decide⟩
  ·unfold layRes
   split
   ·trivial
   ·exact ⟨by decide,by decide⟩
 ·exact checkErr_pos h
theorem dn_one {s0 s3 s6 s7 s8 s9 s10 s11 s12 s13 s14 s15 s16 s17 s18 s19 s20 s21 s22 s23 s24 s25 s26 s27 s28 s29 s30 s31 s32 s33 s34 s35 s36 s37 s38 s39 s40 s41 s42 s43 s44 s45 s46 s47 s48 s49 s50 s51 s52 s53 s54 s55 s56 s57 : Value} {A : HA} {h : HierD} {i : Int} {w wx : World} (k : DK A h w wx) (see : HSee w A h) (hk1 : h.up.length ≤ 140737488355328) (hk2 : h.dn.length ≤ 140737488355328) (hn64 : h.node.length ≤ 140737488355328) (hi64 : i ≤ 9223372036854775807) : Code.wp Tryz.prog (tailAt 1 dnBody) (bodyPost Tryz.prog Tryz.f18 (RListNew (nodesRes h i) w)) ⟨#[s0, .int .i64 i, .pointer (some ⟨w.heap.size,0,none⟩),s3, .slice none 0 0, .pointer (some ⟨(w.heap.size + 1),0,none⟩),s6,s7,s8,s9,s10,s11,s12,s13,s14,s15,s16,s17,s18,s19,s20,s21,s22,s23,s24,s25,s26,s27,s28,s29,s30,s31,s32,s33,s34,s35,s36,s37,s38,s39,s40,s41,s42,s43,s44,s45,s46,s47,s48,s49,s50,s51,s52,s53,s54,s55,s56,s57], []⟩ wx := by
 have K := Lib.hid k
 have SEE := Lib.hid see
 obtain ⟨k0,k1,k2,k3,k4⟩ := hier_five k.x
 clear k see
 conv => arg 2; whnf
 apply wp_seq_k
 intro KK hK
 have HKK := Lib.hid hK
 clear hK
 go_wp2_with fail
 refine (rdoclinks_any A h i _ (SEE.out.below K.out.b) hk1 hk2 hn64 hi64).mono ?_
 rintro e w1 ⟨ao,cap,v,rfl,hv,hn,hb⟩
 obtain ⟨uc,ua,un,ucap,rfl⟩ := hv.form
 have K1 := Lib.hid (K.out.below hb)
 have HV := Lib.hid hv
 have SL := Lib.hid hn.see.1
 clear hb hv hn k0 k1 k2 k3 k4 K
 go_wp2_with fail
 refine HKK.out _ _ ?_
 change Code.wp _ (tailAt 2 dnBody) _ _ _
 have hal := (Below.refl w1.heap.size w1).alloc (Nat.le_refl _) (.cells #[.int .i64 uc, .slice ua un ucap] 36)
 by_cases h2 : (linksRes h i).2 = .nil
 ·have hr : nodesRes h i = (nodesL h (linksRes h i).1, .nil) := by unfold nodesRes; rw [if_pos h2]
  obtain ⟨hc,hlen,hmem⟩ := linksRes_ok h2
  have hne := linksRes_ne h2
  have HV0 := HV.out
  rw [h2] at HV0
  simp only [ErrV] at HV0
  simp at HV0
  obtain ⟨rfl,rfl,rfl,rfl⟩ := HV0
  rw [hr]
  have sl := SL.out.below hal
  obtain ⟨L,hL⟩ : ∃ L,(linksRes h i).1 = L := ⟨_,rfl⟩
  rw [hL] at hlen hmem hne sl ⊢
  cases L with
  | nil => exact absurd rfl hne
  | cons x0 ls => exact dn_good (K1.out.below hal) SEE.out (Cells.new w1 36 errZero) hc (cnt_small hc (by omega)) sl (fun x hx => (hmem x hx).1) hlen rfl
 ·have hr : nodesRes h i = ([],(linksRes h i).2) := by unfold nodesRes; rw [if_neg h2]
  exact dn_bad (K1.out.below hal) (Cells.new w1 36 [.int .i64 uc, .slice ua un ucap]) (HV.out.below hal) linksRes_pos h2 hr
theorem rdocnodes_any (A : HA) (h : HierD) (i : Int) (w : World) (see : HSee w A h) (hk1 : h.up.length ≤ 140737488355328) (hk2 : h.dn.length ≤ 140737488355328) (hn64 : h.node.length ≤ 140737488355328) (hi64 : i ≤ 9223372036854775807) :
  Calls Tryz.prog 18 #[hierVal A h, .int .i64 i] w (RListNew (nodesRes h i) w) := by
 have SEE := Lib.hid see
 have hb0 := ((Below.refl w.heap.size w).alloc (Nat.le_refl _) (.cells (hierCells A h).toArray 25)).alloc (by simp) (.cells errZero.toArray 36)
 have K := Lib.hid (DK.mk (A := A) (h := h) ((Cells.new w 25 (hierCells A h)).alloc (.cells errZero.toArray 36)) (cells_at (by simp) 36 errZero) hb0)
 clear see hb0
 unfold hierVal
 go_enter Tryz.func18, Tryz.ntmps18
 apply wp_seq_k
 intro K1 hK
 have HK1 := Lib.hid hK
 clear hK
 go_wp2_with fail
 refine HK1.out _ _ ?_
 change Code.wp _ (tailAt 1 dnBody) _ _ _
 exact dn_one K.out SEE.out hk1 hk2 hn64 hi64
end Go.Proofs.YtchhbgckonpedaaGreatDoor
