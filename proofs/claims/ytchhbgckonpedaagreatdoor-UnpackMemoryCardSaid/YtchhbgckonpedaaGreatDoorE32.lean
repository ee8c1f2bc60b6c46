/- The reference's Arcs and DocLinks. -/
import Derived.Test.YtchhbgckonpedaaGreatDoorE24
import Derived.Test.YtchhbgckonpedaaGreatDoorE28
import Derived.Test.YtchhbgckonpedaaGreatDoorE31
import Derived.Test.YtchhbgckonpedaaGreatDoorE19
set_option linter.unusedSimpArgs false
set_option maxRecDepth 100000
set_option maxHeartbeats 8000000
namespace Go.Proofs.YtchhbgckonpedaaGreatDoor
open Go.ChangeShapes Go.WideShapes Go.ChangeAt Go.RowKit Go.Joins Go.Deep
theorem results_te3 {P : Program} {fn : Func} {p r : Tmp} {ty : TypeId} (h : fn.results = #[.tmp p, .cell r ty]) (tmps : Array Value) (w : World) (g : Nat) (t : TypeId) (cs : List Value) (d : TypeDesc)
  (hp : tmps.getD r undef = .pointer (some ⟨g,0,none⟩)) (hg : Cells w g t cs)
  (hu : P.underlying ty = some d) (hd : (match d with | .struct _ | .array _ _ => true | _ => false) = true) (hi : (P.info? ty).map (·.size) = some cs.length) :
  (results fn tmps).run P w = .ok (.tuple #[tmps.getD p undef, .agg cs.toArray]) w := by
 have hp' : tmps[r]?.getD undef = .pointer (some ⟨g,0,none⟩) := by simpa using hp
 have hr := run_loadVar_row (P := P) w g t ty cs.toArray (0,0) d hg hu hd (by simpa using hi)
 simp [results,h,hp',asAddr,hr]
def RListNew (r : List Nat × EV) (w : World) (e : Ending) (w' : World) : Prop := ∃ ao cap v,e = .returned (.tuple #[.slice ao r.1.length cap,v]) ∧ ErrV w' v r.2 ∧ Nats w.heap.size w' (.slice ao r.1.length cap) r.1 ∧ Below w.heap.size w w'
noncomputable def dlBody : Code := Tryz.f13.body.getD .skip
theorem dl_bad {s0 s3 s7 s8 s9 s10 s11 s12 s13 s14 s15 s16 s17 s18 s19 s20 s21 s22 s23 s24 s25 s26 s27 s28 s29 s30 s31 s32 s33 s34 s35 s36 s37 s38 s39 s40 s41 s42 s43 s44 s45 s46 s47 s48 s49 s50 s51 s52 s53 s54 s55 s56 s57 s58 s59 s60 s61 s62 s63 s64 s65 s66 s67 s68 s69 s70 : Value} {A : HA} {h : HierD} {i : Int} {w wx : World} {be : Nat} {x : EV} {uc : Int} {ua : Option Addr} {un ucap : Nat} (k : DK A h w wx) (he : Cells wx be 36 [.int .i64 uc, .slice ua un ucap]) (hv : ErrV wx (.agg [.int .i64 uc, .slice ua un ucap].toArray) x) (hp : x.pos) (hx : x ≠ .nil)
  (hr : linksRes h i = ([],x)) : Code.wp Tryz.prog (tailAt 3 dlBody) (bodyPost Tryz.prog Tryz.f13 (RListNew (linksRes h i) w)) ⟨#[s0, .int .i64 i, .pointer (some ⟨w.heap.size,0,none⟩),s3, .slice none 0 0, .pointer (some ⟨(w.heap.size + 1),0,none⟩), .pointer (some ⟨be,0,none⟩),s7,s8,s9,s10,s11,s12,s13,s14,s15,s16,s17,s18,s19,s20,s21,s22,s23,s24,s25,s26,s27,s28,s29,s30,s31,s32,s33,s34,s35,s36,s37,s38,s39,s40,s41,s42,s43,s44,s45,s46,s47,s48,s49,s50,s51,s52,s53,s54,s55,s56,s57,s58,s59,s60,s61,s62,s63,s64,s65,s66,s67,s68,s69,s70], []⟩ wx := by
 have K := Lib.hid k
 have y0 : wx.cell? ⟨be,0,none⟩ = some (.int .i64 uc) := he.cell rfl
 have y1 : wx.cell? ⟨be,1,none⟩ = some (.slice ua un ucap) := he.cell rfl
 have HE := Lib.hid he
 have HV := Lib.hid hv
 have HR := Lib.hid hr
 have HPX := Lib.hid hp
 have hnil : x.isNil = false := by cases hh : x.isNil with
  | true => exact absurd (EV.isNil_iff.1 hh) hx
  | false => rfl
 clear k he hv hr hp hx
 conv => arg 2; whnf
 go_wp2_with fail
 refine (bad_any _ x _ HV.out HPX.out).mono ?_
 rintro e w1 ⟨rfl,hb⟩
 rw [hnil]
 have K1 := Lib.hid (K.out.below hb)
 have HE1 := Lib.hid (HE.out.below hb HE.out.lt)
 have HV1 := Lib.hid (HV.out.below hb)
 have x0 : w1.cell? ⟨be,0,none⟩ = some (.int .i64 uc) := HE1.out.cell rfl
 have x1 : w1.cell? ⟨be,1,none⟩ = some (.slice ua un ucap) := HE1.out.cell rfl
 have z0 : w1.cell? ⟨w.heap.size + 1,0,none⟩ = some (.int .i64 0) := K1.out.r.cell rfl
 have z1 : w1.cell? ⟨w.heap.size + 1,1,none⟩ = some (.slice none 0 0) := K1.out.r.cell rfl
 have g0 := K1.out.r.frozen 0
 have g1 := K1.out.r.frozen 1
 have lr := K1.out.r.lt
 clear hb K HE HV y0 y1
 go_wp2_with fail
 go_region
 all_goals
  try dsimp only [Exit.then]
  go_wp2
  refine bodyPost_ret (results_te3 rfl _ _ (w.heap.size + 1) 36 [.int .i64 uc, .slice ua un ucap] _ rfl (((K1.out.r.drew).set 0 _).set 1 _) Tryz.underlying36 rfl (by rw [Tryz.sizeErr]; rfl)) rfl ?_
  rw [HR.out]
  exact ⟨none,0,_,rfl,(HV1.out.below (Below.refl _ _).drew).put K1.out.r.drew _ _,Nats.nil _ _,((K1.out.b.drew).setCell (p := ⟨w.heap.size + 1,0,none⟩) (by simp) _).setCell (p := ⟨w.heap.size + 1,1,none⟩) (by simp) _⟩
theorem dl_good {s0 s3 s7 s8 s9 s10 s11 s12 s13 s14 s15 s16 s17 s18 s19 s20 s21 s22 s23 s24 s25 s26 s27 s28 s29 s30 s31 s32 s33 s34 s35 s36 s37 s38 s39 s40 s41 s42 s43 s44 s45 s46 s47 s48 s49 s50 s51 s52 s53 s54 s55 s56 s57 s58 s59 s60 s61 s62 s63 s64 s65 s66 s67 s68 s69 s70 : Value} {A : HA} {h : HierD} {m : Nat} {w wx : World} {be : Nat} (k : DK A h w wx) (see : HSee w A h) (he : Cells wx be 36 errZero) (hc : checkErr h = .nil) (htot : cntOf h ≤ 1048576) (hm : m < cntOf h) :
  Code.wp Tryz.prog (tailAt 3 dlBody) (bodyPost Tryz.prog Tryz.f13 (RListNew (layRes h [m]) w)) ⟨#[s0, .int .i64 (m : Nat), .pointer (some ⟨w.heap.size,0,none⟩),s3, .slice none 0 0, .pointer (some ⟨(w.heap.size + 1),0,none⟩), .pointer (some ⟨be,0,none⟩),s7,s8,s9,s10,s11,s12,s13,s14,s15,s16,s17,s18,s19,s20,s21,s22,s23,s24,s25,s26,s27,s28,s29,s30,s31,s32,s33,s34,s35,s36,s37,s38,s39,s40,s41,s42,s43,s44,s45,s46,s47,s48,s49,s50,s51,s52,s53,s54,s55,s56,s57,s58,s59,s60,s61,s62,s63,s64,s65,s66,s67,s68,s69,s70], []⟩ wx := by
 have K := Lib.hid k
 have y0 : wx.cell? ⟨be,0,none⟩ = some (.int .i64 0) := he.cell rfl
 have y1 : wx.cell? ⟨be,1,none⟩ = some (.slice none 0 0) := he.cell rfl
 have HE := Lib.hid he
 have SEE := Lib.hid see
 have HC := Lib.hid hc
 have HT := Lib.hid htot
 have HMM := Lib.hid hm
 have hd63 : h.dn.length ≤ 1048576 := by unfold cntOf at htot; omega
 have hn := (checkErr_parts hc).1.n
 have hm20 : m < 1048576 := by omega
 clear k he see hc htot hm
 conv => arg 2; whnf
 go_wp2_with fail
 refine (bad_any (.agg #[.int .i64 0, .slice none 0 0]) .nil _ rfl trivial).mono ?_
 rintro e w0 ⟨rfl,hb⟩
 have K0 := Lib.hid (K.out.below hb)
 have HE0 := Lib.hid (HE.out.below hb HE.out.lt)
 clear hb K HE y0 y1
 dsimp only [EV.isNil,Bool.not_true]
 go_wp2_with fail
 have I0 : Hid (LayI h [m] w0 (w0.alloc (.cells #[.int .i64 m] 3)) [m] [] (.slice none 0 0) (.slice (some ⟨w0.heap.size,0,none⟩) 1 1)) :=
  Lib.hid ⟨Nats.nil _ _,Nats.fresh w0 [m] (by simp),by simp [Value.ownBlock],StackOk.start HC.out [m] (by simpa using HMM.out) _ (Nat.le_refl _),rfl,Nat.zero_le _,(Below.refl _ _).alloc (Nat.le_refl _) _⟩
 go_loopg [7,8] (stackSize h [m]) (fun g vo vs wr => ∃ (S out : List Nat) (ao1 : Option Addr) (c1 : Nat) (ao2 : Option Addr) (c2 : Nat),vo = .slice ao1 out.length c1 ∧ vs = .slice ao2 S.length c2 ∧ g = stackSize h S ∧ LayI h [m] w0 wr S out (.slice ao1 out.length c1) (.slice ao2 S.length c2))
 case atStart => exact ⟨[m], [],none,0,some ⟨w0.heap.size,0,none⟩,1,rfl,rfl,rfl,I0.out⟩
 case round =>
  obtain ⟨S,out,ao1,c1,ao2,c2,rfl,rfl,hg,hI⟩ := hrel
  obtain ⟨wp,rfl⟩ : ∃ wp : World,wp = wr := ⟨_,rfl⟩
  have HG := Lib.hid hg
  have I := Lib.hid hI
  have hz := hI.b.size
  have ho17 := hI.small
  have hS17 : S.length ≤ 65537 := by have := hI.ok.len; simp at this; omega
  have KP := Lib.hid (K0.out.below hI.b)
  clear hg hI I0
  cases S with
  | nil =>
   have hE2 := HE0.out.below I.out.b HE0.out.lt
   have x0 : wp.cell? ⟨be,0,none⟩ = some (.int .i64 0) := hE2.cell rfl
   have x1 : wp.cell? ⟨be,1,none⟩ = some (.slice none 0 0) := hE2.cell rfl
   have z0 : wp.cell? ⟨w.heap.size + 1,0,none⟩ = some (.int .i64 0) := KP.out.r.cell rfl
   have z1 : wp.cell? ⟨w.heap.size + 1,1,none⟩ = some (.slice none 0 0) := KP.out.r.cell rfl
   have g0 := KP.out.r.frozen 0
   have g1 := KP.out.r.frozen 1
   have lr := KP.out.r.lt
   have heq := I.out.eq
   have hs : (stackOut h [m]) = out := by rw [← heq]; simp [stackOut]
   have HR := Lib.hid (show layRes h [m] = (out, .nil) by unfold layRes; rw [hs,if_pos ho17])
   have HNO := Lib.hid I.out.o
   clear hE2 heq hs I
   go_wp2_with fail
   go_region
   all_goals
    try dsimp only [Exit.then]
    go_wp2
    refine bodyPost_ret (results_te3 rfl _ _ (w.heap.size + 1) 36 [.int .i64 0, .slice none 0 0] _ rfl (((KP.out.r.drew).set 0 _).set 1 _) Tryz.underlying36 rfl (by rw [Tryz.sizeErr]; rfl)) rfl ?_
    rw [HR.out]
    refine ⟨ao1,c1,_,rfl,rfl,(HNO.out.kept (bs := [w.heap.size + 1]) ((((Only.refl [w.heap.size + 1] wp).drew).setCell (p := ⟨w.heap.size + 1,0,none⟩) (.inl (by simp)) _).setCell (p := ⟨w.heap.size + 1,1,none⟩) (.inl (by simp)) _) (fun q hq => by have h1 := HNO.out.new q hq; have h2 := K0.out.r.lt; simp; omega)).mono K0.out.b.size,((KP.out.b.drew).setCell (p := ⟨w.heap.size + 1,0,none⟩) (by simp) _).setCell (p := ⟨w.heap.size + 1,1,none⟩) (by simp) _⟩
  | cons i S =>
   obtain ⟨hi,hBi,hok⟩ := I.out.ok
   obtain ⟨g,cap2,e,hgB,hgs,hcell⟩ := I.out.st.block (by simp)
   simp only [List.length_reverse,Value.slice.injEq] at e
   obtain ⟨rfl, -,rfl⟩ := e
   have e0 : wp.cell? ⟨g,S.length,none⟩ = some (.int .i64 i) := hcell S.length i (by simp)
   have hi2 : i < h.up.length + h.dn.length := hi
   obtain ⟨k0,k1,k2,k3,k4⟩ := hier_five KP.out.x
   have OK := Lib.hid hok
   have HI := Lib.hid hi
   simp only [List.length_cons] at hS17 ⊢
   have ht : Nats w0.heap.size wp (.slice (some ⟨g,0,none⟩) S.length c2) S.reverse := by
    have := I.out.st.take (m := S.length) (by simp)
    rwa [List.reverse_cons,List.take_left' (by simp)] at this
   have HTK := Lib.hid ht
   have hc2 : S.length + 1 ≤ c2 := by have := I.out.st.cap.1; simpa using this
   clear hcell hok hi hBi ht
   go_wp2_with fail
   refine (rlink_any A h i _ (SEE.out.below KP.out.b) hi2 hd63).mono ?_
   rintro e w1 ⟨rfl,hb1⟩
   have hok : (linkAt h i).ok := linkAt_ok SEE.out i hi2
   have hleft := left_plain HC.out HT.out HI.out
   obtain ⟨x,hx⟩ : ∃ x,linkAt h i = x := ⟨_,rfl⟩
   rw [hx] at hok hleft
   have HOK := Lib.hid hok
   obtain ⟨hx1,hx2,hx3,hx4⟩ := hok
   rw [hx]
   unfold linkVal
   have HXI := Lib.hid hx
   have HB1 := Lib.hid (I.out.b.trans (hb1.mono I.out.b.size))
   have HT1 := Lib.hid (HTK.out.below hb1)
   have HO1 := Lib.hid (I.out.o.below hb1)
   have hco : ∀ k,(Value.slice ao1 out.length c1).ownBlock = some k → k ≠ g := fun k hk e => I.out.apart k hk (by rw [e]; rfl)
   have HCO := Lib.hid hco
   have hgs1 : g < w1.heap.size := Nat.lt_of_lt_of_le hgs hb1.size
   clear hb1 hx hleft k0 k1 k2 k3 k4 e0 HTK hco KP
   go_wp2_with fail
   refine (rplain_lit x _ HOK.out).mono ?_
   rintro e w2 ⟨rfl,hb2⟩
   have hba := ((Below.refl w1.heap.size w1).alloc (Nat.le_refl _) (.cells #[.int .u32 x.to, .int .u64 x.wt, .int .u32 x.left, .int .u32 x.right] 65)).trans (hb2.mono (by simp))
   have hcx := (Cells.new w1 65 (linkCells x)).below hb2 (by simp)
   have x2 : w2.cell? ⟨w1.heap.size,2,none⟩ = some (.int .u32 x.left) := hcx.cell rfl
   have x3 : w2.cell? ⟨w1.heap.size,3,none⟩ = some (.int .u32 x.right) := hcx.cell rfl
   have lx := hcx.lt
   have HB2 := Lib.hid (HB1.out.trans (hba.mono HB1.out.size))
   have HT2 := Lib.hid (HT1.out.below hba)
   have HO2 := Lib.hid (HO1.out.below hba)
   have hz2 := HB2.out.size
   have hgs2 : g < w2.heap.size := Nat.lt_of_lt_of_le hgs1 hba.size
   clear hba hcx hb2 HB1 HT1 HO1
   cases hp : x.plain with
   | true =>
    have HP := Lib.hid (stack_plain (h := h) (l := S) (by rw [HXI.out]; exact hp))
    clear hp
    dsimp only [Bool.not_true,Bool.not_false]
    by_cases h17 : out.length = 131072
    ·have dq : ((out.length : Int) == 131072) = true := by rw [h17]; rfl
     have HR := Lib.hid (show layRes h [m] = ([], .code 2) by
      unfold layRes
      rw [if_neg]
      rw [← I.out.eq,HP.out.1,List.length_append,List.length_cons]
      omega)
     clear h17 x2 x3
     go_wp2_with fail
     refine (e_any 2 _).mono ?_
     rintro e w3 ⟨v,rfl,hv,hb3⟩
     obtain rfl : v = _ := hv
     have KR := Lib.hid ((K0.out.below HB2.out).below hb3)
     have z0 : w3.cell? ⟨w.heap.size + 1,0,none⟩ = some (.int .i64 0) := KR.out.r.cell rfl
     have z1 : w3.cell? ⟨w.heap.size + 1,1,none⟩ = some (.slice none 0 0) := KR.out.r.cell rfl
     have g0 := KR.out.r.frozen 0
     have g1 := KR.out.r.frozen 1
     have lr := KR.out.r.lt
     clear hb3
     go_wp2
     refine bodyPost_ret (results_te3 rfl _ _ (w.heap.size + 1) 36 [.int .i64 2, .slice none 0 0] _ rfl ((KR.out.r.set 0 _).set 1 _) Tryz.underlying36 rfl (by rw [Tryz.sizeErr]; rfl)) rfl ?_
     rw [HR.out]
     exact ⟨none,0,_,rfl,rfl,Nats.nil _ _,((KR.out.b).setCell (p := ⟨w.heap.size + 1,0,none⟩) (by simp) _).setCell (p := ⟨w.heap.size + 1,1,none⟩) (by simp) _⟩
    ·have dq : ((out.length : Int) == 131072) = false := by simp; omega
     clear x2 x3
     go_wp2_with (at_builtin; refine wpList_app _ rfl _ _ 28 rfl 3 (.int .i64 0) 1 8 Tryz.underlying28 Tryz.infoInt rfl (by decide) (.slice ao1 out.length c1) (out.length) (out.flatMap i64Cells) rfl ?own ⟨w2.heap.size,0,none⟩ 1 1 (i64Cells i) rfl rfl ?c1 ?c2 ?c3 ?c4 ?_)
     case own => exact own_kept (bs := []) HO2.out.own ((Only.refl _ w2).alloc _) (fun q _ => by simp)
     case c1 => exact cells_new w2 3 (i64Cells i)
     case c2 => intro u hu; simp [i64Cells] at hu; subst hu; rfl
     case c3 => unfold maxLen; omega
     case c4 => omega
     intro ao5 cap5 w5 hown5 ho5 hk5
     have hbw := HB2.out.alloc hz2 (.cells #[.int .i64 i] 3)
     have hba := (Below.refl w2.heap.size w2).alloc (Nat.le_refl _) (.cells #[.int .i64 i] 3)
     have hn5 := (HO2.out.below hba).app [i] (m := 1) rfl (ao := ao5) (cap := cap5) (w5 := w5) (by simpa using hown5) (by simpa using hk5) (by simp; omega)
     have hs5 := (HT2.out.below hba).kept ho5 (fun k hk hm => by
      simp only [Value.ownBlock,Option.some.injEq] at hk
      exact HCO.out k (own_mem hm) hk.symm)
     have hap : ∀ k,(Value.slice ao5 (out.length + 1) cap5).ownBlock = some k → (Value.slice (some ⟨g,0,none⟩) S.length c2).ownBlock = some k → False := by
      intro k h1 h2
      simp only [Value.ownBlock,Option.some.injEq] at h2
      rcases hk5 k h1 with h3 | h3
      ·exact HCO.out k h3 h2.symm
      ·first | omega | (simp at h3; omega)
     have hbl5 : Below w0.heap.size w0 w5 := hbw.trans (ho5.below hbw.size (fun q hq => HO2.out.new q (by simpa using hq)))
     have hI5 : LayI h [m] w0 w5 S (out ++ [i]) (.slice ao5 (out ++ [i]).length cap5) (.slice (some ⟨g,0,none⟩) S.length c2) :=
      ⟨by simpa using hn5,hs5,by simpa using hap,OK.out,by have := I.out.eq; rw [HP.out.1] at this; rw [← this]; simp,by simp; omega,hbl5⟩
     have I5 := Lib.hid hI5
     clear hown5 ho5 hk5 hbw hba hn5 hs5 hap hbl5 hI5
     go_wp2_with fail
     go_roundg (stackSize h S)
     case measure => rw [HG.out,HP.out.2]; omega
     case rel => exact ⟨S,out ++ [i],ao5,cap5,_,c2,by simp,rfl,rfl,I5.out⟩
   | false =>
    have HP := Lib.hid (stack_two HC.out (l := S) HI.out (by rw [HXI.out]; exact hp))
    have HSO := Lib.hid (StackOk.push HC.out I.out.ok (by rw [HXI.out]; exact hp))
    rw [HXI.out] at HP HSO
    clear hp
    dsimp only [Bool.not_true,Bool.not_false]
    go_wp2_with (at_builtin; refine wpList_app _ rfl _ _ 28 rfl 3 (.int .i64 0) 1 8 Tryz.underlying28 Tryz.infoInt rfl (by decide) (.slice (some ⟨g,0,none⟩) S.length c2) (S.length) (S.reverse.flatMap i64Cells) rfl ?own ⟨w2.heap.size,0,none⟩ 2 2 (i64Cells x.right ++ i64Cells x.left) rfl rfl ?c1 ?c2 ?c3 ?c4 ?_)
    case own =>
     have := HT2.out.own
     rw [List.length_reverse] at this
     exact own_kept (bs := []) this ((Only.refl _ w2).alloc _) (fun q _ => by simp)
    case c1 => exact cells_new w2 3 (i64Cells x.right ++ i64Cells x.left)
    case c2 => intro u hu; simp [i64Cells] at hu; rcases hu with rfl | rfl <;> rfl
    case c3 => unfold maxLen; omega
    case c4 => omega
    intro ao5 cap5 w5 hown5 ho5 hk5
    have hbw := HB2.out.alloc hz2 (.cells #[.int .i64 x.right, .int .i64 x.left] 3)
    have hba := (Below.refl w2.heap.size w2).alloc (Nat.le_refl _) (.cells #[.int .i64 x.right, .int .i64 x.left] 3)
    have hn5 := (HT2.out.below hba).app [x.right,x.left] (m := 2) rfl (ao := ao5) (cap := cap5) (w5 := w5) (by simpa [i64Cells] using hown5) (by simpa using hk5) (by simp; omega)
    have hs5 := (HO2.out.below hba).kept ho5 (fun k hk hm => by
     simp only [Value.ownBlock,Option.toList_some,List.mem_singleton] at hm
     exact HCO.out k hk hm)
    have hap : ∀ k,(Value.slice ao1 out.length c1).ownBlock = some k → (Value.slice ao5 (S.length + 2) cap5).ownBlock = some k → False := by
     intro k h1 h2
     rcases hk5 k h2 with h3 | h3
     ·simp only [Value.ownBlock,Option.some.injEq] at h3
      exact HCO.out k h1 h3.symm
     ·have := HO2.out.own.lt k h1
      first | omega | (simp at h3; omega)
    have hbl5 : Below w0.heap.size w0 w5 := hbw.trans (ho5.below hbw.size (fun q hq => HT2.out.new q (by simpa using hq)))
    have hI5 : LayI h [m] w0 w5 (x.left :: x.right :: S) out (.slice ao1 out.length c1) (.slice ao5 (x.left :: x.right :: S).length cap5) :=
     ⟨hs5,by simpa using hn5,by simpa using hap,HSO.out,by rw [HP.out.1]; exact I.out.eq,ho17,hbl5⟩
    have I5 := Lib.hid hI5
    clear hown5 ho5 hk5 hbw hba hn5 hs5 hap hbl5 hI5
    go_wp2_with fail
    go_roundg (stackSize h (x.left :: x.right :: S))
    case measure => rw [HG.out]; exact HP.out.2
    case rel => exact ⟨x.left :: x.right :: S,out,ao1,c1,ao5,cap5,rfl,by simp,rfl,I5.out⟩
theorem dl_two {s0 s3 s7 s8 s9 s10 s11 s12 s13 s14 s15 s16 s17 s18 s19 s20 s21 s22 s23 s24 s25 s26 s27 s28 s29 s30 s31 s32 s33 s34 s35 s36 s37 s38 s39 s40 s41 s42 s43 s44 s45 s46 s47 s48 s49 s50 s51 s52 s53 s54 s55 s56 s57 s58 s59 s60 s61 s62 s63 s64 s65 s66 s67 s68 s69 s70 : Value} {A : HA} {h : HierD} {i : Int} {w wx : World} {be : Nat} {uc : Int} {ua : Option Addr} {un ucap : Nat} (k : DK A h w wx) (see : HSee w A h) (he : Cells wx be 36 [.int .i64 uc, .slice ua un ucap]) (hv : ErrV wx (.agg [.int .i64 uc, .slice ua un ucap].toArray) (checkErr h)) (hne : w.heap.size + 1 < be)
  (hk : h.up.length + h.dn.length ≤ 281474976710656) (hi64 : i ≤ 9223372036854775807) : Code.wp Tryz.prog (tailAt 2 dlBody) (bodyPost Tryz.prog Tryz.f13 (RListNew (linksRes h i) w)) ⟨#[s0, .int .i64 i, .pointer (some ⟨w.heap.size,0,none⟩),s3, .slice none 0 0, .pointer (some ⟨(w.heap.size + 1),0,none⟩), .pointer (some ⟨be,0,none⟩),s7,s8,s9,s10,s11,s12,s13,s14,s15,s16,s17,s18,s19,s20,s21,s22,s23,s24,s25,s26,s27,s28,s29,s30,s31,s32,s33,s34,s35,s36,s37,s38,s39,s40,s41,s42,s43,s44,s45,s46,s47,s48,s49,s50,s51,s52,s53,s54,s55,s56,s57,s58,s59,s60,s61,s62,s63,s64,s65,s66,s67,s68,s69,s70], []⟩ wx := by
 have K := Lib.hid k
 have SEE := Lib.hid see
 have y0 : wx.cell? ⟨be,0,none⟩ = some (.int .i64 uc) := he.cell rfl
 have y1 : wx.cell? ⟨be,1,none⟩ = some (.slice ua un ucap) := he.cell rfl
 have HE := Lib.hid he
 have HV := Lib.hid hv
 have HNE := Lib.hid hne
 obtain ⟨k0,k1,k2,k3,k4⟩ := hier_five k.x
 clear k he hv see hne
 conv => arg 2; whnf
 apply wp_seq_k
 intro KK hK
 have HKK := Lib.hid hK
 clear hK
 by_cases hc : checkErr h = .nil
 ·have HV0 := HV.out
  rw [hc] at HV0
  simp only [ErrV,Value.agg.injEq,List.toArray] at HV0
  have e1 := HV0
  simp at e1
  obtain ⟨rfl,rfl,rfl,rfl⟩ := e1
  have htot := cnt_small hc hk
  have HC := Lib.hid hc
  have HT := Lib.hid htot
  clear HV0 hc htot
  go_wp2_with fail
  refine (bad_any (.agg #[.int .i64 0, .slice none 0 0]) .nil _ rfl trivial).mono ?_
  rintro e w1 ⟨rfl,hb⟩
  have KA := Lib.hid (K.out.below hb)
  have HEA := Lib.hid (HE.out.below hb HE.out.lt)
  obtain ⟨k0,k1,k2,k3,k4⟩ := hier_five KA.out.x
  clear hb K HE y0 y1 HV
  dsimp only [EV.isNil,Bool.not_true]
  by_cases h0 : i < 0
  ·have d0 : decide (i < 0) = true := by simpa using h0
   have KB := KA
   have HEB := HEA
   have HR := Lib.hid (show linksRes h i = ([], .code 1) by unfold linksRes; rw [if_pos HC.out,if_pos (.inl h0)])
   go_wp2_with fail
   refine (e_any 1 _).mono ?_
   rintro e w3 ⟨v,rfl,hv,hb3⟩
   obtain rfl : v = _ := hv
   have K3 := Lib.hid (KB.out.below hb3)
   have HE3 := Lib.hid (HEB.out.below hb3 HEB.out.lt)
   have g0 := HE3.out.frozen 0
   have g1 := HE3.out.frozen 1
   have v0 : w3.cell? ⟨be,0,none⟩ = some (.int .i64 0) := HE3.out.cell rfl
   have v1 : w3.cell? ⟨be,1,none⟩ = some (.slice none 0 0) := HE3.out.cell rfl
   have lbe := HE3.out.lt
   clear hb3
   go_wp2_with fail
   refine HKK.out _ _ ?_
   change Code.wp _ (tailAt 3 dlBody) _ _ _
   have hbe := HNE.out
   refine dl_bad (x := .code 1) (A := A) (h := h) (uc := 1) (ua := none) (un := 0) (ucap := 0) ⟨(K3.out.x.other (a := ⟨be,0,none⟩) (by simp; omega) _).other (a := ⟨be,1,none⟩) (by simp; omega) _,(K3.out.r.other (a := ⟨be,0,none⟩) (by simp; omega) _).other (a := ⟨be,1,none⟩) (by simp; omega) _,(K3.out.b.setCell (p := ⟨be,0,none⟩) (by simp; omega) _).setCell (p := ⟨be,1,none⟩) (by simp; omega) _⟩ ((HE3.out.set 0 _).set 1 _) rfl ⟨by decide,by decide⟩ (by simp) HR.out
  ·have d0 : decide (i < 0) = false := by simpa using h0
   go_wp2_with fail
   refine (count_any A h _).mono ?_
   rintro e w2 ⟨c,rfl,hcc,hb⟩
   have hcn : c = (cntOf h : Int) := by
    rw [hcc]
    have := HT.out
    unfold cntOf at *
    rw [IntWalk.wrap64_in _ ⟨by omega,by omega⟩]
    omega
   subst hcn
   have KB := Lib.hid (KA.out.below hb)
   have HEB := Lib.hid (HEA.out.below hb HEA.out.lt)
   clear hb KA HEA hcc k0 k1 k2 k3 k4
   by_cases h1 : (cntOf h : Int) ≤ i
   ·have d1 : decide ((cntOf h : Int) ≤ i) = true := by simpa using h1
    have HR := Lib.hid (show linksRes h i = ([], .code 1) by unfold linksRes; rw [if_pos HC.out,if_pos (.inr h1)])
    go_wp2_with fail
    refine (e_any 1 _).mono ?_
    rintro e w3 ⟨v,rfl,hv,hb3⟩
    obtain rfl : v = _ := hv
    have K3 := Lib.hid (KB.out.below hb3)
    have HE3 := Lib.hid (HEB.out.below hb3 HEB.out.lt)
    have g0 := HE3.out.frozen 0
    have g1 := HE3.out.frozen 1
    have v0 : w3.cell? ⟨be,0,none⟩ = some (.int .i64 0) := HE3.out.cell rfl
    have v1 : w3.cell? ⟨be,1,none⟩ = some (.slice none 0 0) := HE3.out.cell rfl
    have lbe := HE3.out.lt
    clear hb3
    go_wp2_with fail
    refine HKK.out _ _ ?_
    change Code.wp _ (tailAt 3 dlBody) _ _ _
    have hbe := HNE.out
    refine dl_bad (x := .code 1) (A := A) (h := h) (uc := 1) (ua := none) (un := 0) (ucap := 0) ⟨(K3.out.x.other (a := ⟨be,0,none⟩) (by simp; omega) _).other (a := ⟨be,1,none⟩) (by simp; omega) _,(K3.out.r.other (a := ⟨be,0,none⟩) (by simp; omega) _).other (a := ⟨be,1,none⟩) (by simp; omega) _,(K3.out.b.setCell (p := ⟨be,0,none⟩) (by simp; omega) _).setCell (p := ⟨be,1,none⟩) (by simp; omega) _⟩ ((HE3.out.set 0 _).set 1 _) rfl ⟨by decide,by decide⟩ (by simp) HR.out
   ·have d1 : decide ((cntOf h : Int) ≤ i) = false := by simpa using h1
    obtain ⟨m,rfl⟩ : ∃ m : Nat,i = m := ⟨i.toNat,by omega⟩
    have hm : m < cntOf h := by omega
    have d2 : decide (cntOf h ≤ m) = false := by simpa using hm
    have hr : linksRes h (m : Int) = layRes h [m] := by unfold linksRes; rw [if_pos HC.out,if_neg (by omega)]; rfl
    have HR := Lib.hid hr
    clear hr
    go_wp2_with fail
    refine HKK.out _ _ ?_
    change Code.wp _ (tailAt 3 dlBody) _ _ _
    rw [HR.out]
    exact dl_good KB.out SEE.out HEB.out HC.out HT.out hm
 ·have hnil : (checkErr h).isNil = false := by cases hh : (checkErr h).isNil with
   | true => exact absurd (EV.isNil_iff.1 hh) hc
   | false => rfl
  have HR := Lib.hid (show linksRes h i = ([],checkErr h) by unfold linksRes; rw [if_neg hc])
  have HC := Lib.hid hc
  clear hc
  go_wp2_with fail
  refine (bad_any _ (checkErr h) _ HV.out (checkErr_pos h)).mono ?_
  rintro e w1 ⟨rfl,hb⟩
  rw [hnil]
  have KA := Lib.hid (K.out.below hb)
  have HEA := Lib.hid (HE.out.below hb HE.out.lt)
  have HVA := Lib.hid (HV.out.below hb)
  clear hb K HE y0 y1 HV k0 k1 k2 k3 k4
  dsimp only [Bool.not_false]
  go_wp2_with fail
  refine HKK.out _ _ ?_
  change Code.wp _ (tailAt 3 dlBody) _ _ _
  exact dl_bad KA.out HEA.out HVA.out (checkErr_pos h) HC.out HR.out
theorem dl_one {s0 s3 s6 s7 s8 s9 s10 s11 s12 s13 s14 s15 s16 s17 s18 s19 s20 s21 s22 s23 s24 s25 s26 s27 s28 s29 s30 s31 s32 s33 s34 s35 s36 s37 s38 s39 s40 s41 s42 s43 s44 s45 s46 s47 s48 s49 s50 s51 s52 s53 s54 s55 s56 s57 s58 s59 s60 s61 s62 s63 s64 s65 s66 s67 s68 s69 s70 : Value} {A : HA} {h : HierD} {i : Int} {w wx : World} (k : DK A h w wx) (see : HSee w A h) (hk1 : h.up.length ≤ 140737488355328) (hk2 : h.dn.length ≤ 140737488355328) (hn64 : h.node.length ≤ 140737488355328) (hi64 : i ≤ 9223372036854775807) : Code.wp Tryz.prog (tailAt 1 dlBody) (bodyPost Tryz.prog Tryz.f13 (RListNew (linksRes h i) w)) ⟨#[s0, .int .i64 i, .pointer (some ⟨w.heap.size,0,none⟩),s3, .slice none 0 0, .pointer (some ⟨(w.heap.size + 1),0,none⟩),s6,s7,s8,s9,s10,s11,s12,s13,s14,s15,s16,s17,s18,s19,s20,s21,s22,s23,s24,s25,s26,s27,s28,s29,s30,s31,s32,s33,s34,s35,s36,s37,s38,s39,s40,s41,s42,s43,s44,s45,s46,s47,s48,s49,s50,s51,s52,s53,s54,s55,s56,s57,s58,s59,s60,s61,s62,s63,s64,s65,s66,s67,s68,s69,s70], []⟩ wx := by
 have K := Lib.hid k
 have SEE := Lib.hid see
 obtain ⟨k0,k1,k2,k3,k4⟩ := hier_five k.x
 clear k see
 conv => arg 2; whnf
 apply wp_seq_k
 intro KK hK
 have HKK := Lib.hid hK
 clear hK
 go_wp2_with fail
 refine (rdoccheck_any A h _ (SEE.out.below K.out.b) hk1 hk2 hn64).mono ?_
 rintro e w1 ⟨v,rfl,hv,hb⟩
 obtain ⟨uc,ua,un,ucap,rfl⟩ := hv.form
 have K1 := Lib.hid (K.out.below hb)
 have HV := Lib.hid hv
 clear hb hv k0 k1 k2 k3 k4 K
 go_wp2_with fail
 refine HKK.out _ _ ?_
 change Code.wp _ (tailAt 2 dlBody) _ _ _
 have hal := (Below.refl w1.heap.size w1).alloc (Nat.le_refl _) (.cells #[.int .i64 uc, .slice ua un ucap] 36)
 exact dl_two (K1.out.below hal) SEE.out (Cells.new w1 36 [.int .i64 uc, .slice ua un ucap]) (HV.out.below hal) K1.out.r.lt (by omega) hi64
theorem rdoclinks_any (A : HA) (h : HierD) (i : Int) (w : World) (see : HSee w A h) (hk1 : h.up.length ≤ 140737488355328) (hk2 : h.dn.length ≤ 140737488355328) (hn64 : h.node.length ≤ 140737488355328) (hi64 : i ≤ 9223372036854775807) :
  Calls Tryz.prog 13 #[hierVal A h, .int .i64 i] w (RListNew (linksRes h i) w) := by
 have SEE := Lib.hid see
 have hb0 := ((Below.refl w.heap.size w).alloc (Nat.le_refl _) (.cells (hierCells A h).toArray 25)).alloc (by simp) (.cells errZero.toArray 36)
 have K := Lib.hid (DK.mk (A := A) (h := h) ((Cells.new w 25 (hierCells A h)).alloc (.cells errZero.toArray 36)) (cells_at (by simp) 36 errZero) hb0)
 clear see hb0
 unfold hierVal
 go_enter Tryz.func13, Tryz.ntmps13
 apply wp_seq_k
 intro K1 hK
 have HK1 := Lib.hid hK
 clear hK
 go_wp2_with fail
 refine HK1.out _ _ ?_
 change Code.wp _ (tailAt 1 dlBody) _ _ _
 exact dl_one K.out SEE.out hk1 hk2 hn64 hi64
theorem rendCells_len (x : EndD) : (rendCells x).length = 3 := rfl
theorem Tryz.infoREnd : (Tryz.prog.info? 59).map (fun i => (i.zero,i.size,i.bytes)) = some (some (.agg #[.int .i64 0, .int .i64 0, .int .i64 0]),3,24) := by kernel_rfl
def ArcsNew (h : HierD) (w : World) (e : Ending) (w' : World) : Prop := ∃ ao cap,e = .returned (.slice ao (endsOf h).length cap) ∧ See w' ao cap rendCells 3 (endsOf h) ∧ (∀ b o,ao = some ⟨b,o,none⟩ → w.heap.size ≤ b) ∧ Below w.heap.size w w'
theorem arcs_any (A : HA) (h : HierD) (w : World) (see : HSee w A h) (u : FirstsOk h.node.length h.upF h.up.length) (d : FirstsOk h.node.length h.dnF h.dn.length) (hn : h.node.length ≤ 65536) (htot : h.up.length + h.dn.length ≤ 1048576) :
  Calls Tryz.prog 26 #[hierVal A h] w (ArcsNew h w) := by
 have hlen := endsOf_length u d
 have hrl : (ranksL h).length = (endsOf h).length := by unfold ranksL; simp
 have SEE := Lib.hid see
 have UOK := Lib.hid u
 have DOK := Lib.hid d
 have HX0 := Lib.hid (Cells.new w 25 (hierCells A h))
 have HB0 := Lib.hid ((Below.refl w.heap.size w).alloc (Nat.le_refl _) (.cells (hierCells A h).toArray 25))
 obtain ⟨k0,k1,k2,k3,k4⟩ := hier_five HX0.out
 have HLEN := Lib.hid hlen
 have HRL := Lib.hid hrl
 have hN : (endsOf h).length ≤ 1048576 := by omega
 clear see u d hlen hrl
 unfold hierVal
 go_enter Tryz.func26, Tryz.ntmps26
 go_wp2_with fail
 refine (rranks_any A h _ (SEE.out.below HB0.out) UOK.out DOK.out hn htot).mono ?_
 rintro e w1 ⟨ra,rc,rfl,sr,hb⟩
 rw [HRL.out]
 have SR := Lib.hid sr
 have HX := Lib.hid (HX0.out.below hb HX0.out.lt)
 have lz := HX.out.lt
 have HB := Lib.hid (HB0.out.trans (hb.mono HB0.out.size))
 clear sr hb HX0 HB0 k0 k1 k2 k3 k4
 obtain ⟨N,hNN⟩ : ∃ N,(endsOf h).length = N := ⟨_,rfl⟩
 rw [hNN]
 rw [hNN] at hN
 have HNN := Lib.hid hNN
 clear hNN
 go_wp2_with fail
 go_loopg [4,10] N (fun g vm vi wr => ∃ (k : Nat) (ao2 : Option Addr) (cap2 : Nat),vi = .int .i64 k ∧ k ≤ N ∧ g = N - k ∧ vm = .slice ao2 k cap2 ∧
  wr.ownsRow 0 59 3 (.slice ao2 k cap2) k (((endsOf h).take k).flatMap rendCells) ∧ (∀ b,(Value.slice ao2 k cap2).ownBlock = some b → w1.heap.size ≤ b) ∧ Cells wr w.heap.size 25 (hierCells A h) ∧ Below w1.heap.size w1 wr)
 case atStart => exact ⟨0,none,0,rfl,Nat.zero_le _,rfl,rfl,World.ownsRow_nil _ _ _ _,by simp [Value.ownBlock],HX.out,Below.refl _ _⟩
 case round =>
  obtain ⟨k,ao2,cap2,rfl,hk,hg,rfl,hown,hnew,hx,hbl⟩ := hrel
  obtain ⟨wo,rfl⟩ : ∃ wo : World,wo = wr := ⟨_,rfl⟩
  have HG := Lib.hid hg
  have HOWN := Lib.hid hown
  have HNEW := Lib.hid hnew
  have HX2 := Lib.hid hx
  have HBL := Lib.hid hbl
  clear hg hown hnew hx hbl HX
  by_cases hkl : k < N
  ·obtain ⟨x,hx⟩ : ∃ x,(endsOf h)[k]? = some x := ⟨_,List.getElem?_eq_getElem (by rw [HNN.out]; exact hkl)⟩
   have hxd : (endsOf h).getD k default = x := by rw [List.getD_eq_getElem?_getD,hx]; rfl
   have HX := Lib.hid hx
   have HBW := Lib.hid (HB.out.trans (HBL.out.mono HB.out.size))
   obtain ⟨k0,k1,k2,k3,k4⟩ := hier_five HX2.out
   clear hx
   go_wp2_with fail
   have hrd := rendof_any A h k ra rc wo (SEE.out.below HBW.out) (SR.out.below HBL.out) UOK.out DOK.out htot (by have := HLEN.out; have := HNN.out; omega)
   rw [HRL.out,HNN.out,hxd] at hrd
   refine hrd.mono ?_
   rintro e w2 ⟨rfl,hb⟩
   have HB2 := Lib.hid hb
   have hbs := hb.size
   have hwo := HBL.out.size
   unfold rendVal
   clear hb hrd hxd k0 k1 k2 k3 k4
   have how := HOWN.out
   go_wp2_with (at_builtin; refine wpList_app _ rfl _ _ 56 rfl 59 (.agg #[.int .i64 0, .int .i64 0, .int .i64 0]) 3 24 Tryz.underlying56 Tryz.infoREnd rfl (by decide) (.slice ao2 k cap2) k (((endsOf h).take k).flatMap rendCells) rfl ?own ⟨w2.heap.size,0,none⟩ 1 1 (rendCells x) rfl rfl ?c1 ?c2 ?c3 ?c4 ?_)
   case own => exact own_kept (bs := []) how ((Only.of_below HB2.out).alloc _) (fun q _ => by simp)
   case c1 => exact cells_new w2 59 (rendCells x)
   case c2 => intro u hu; simp [rendCells] at hu; rcases hu with rfl | rfl | rfl <;> rfl
   case c3 => unfold maxLen; omega
   case c4 => omega
   intro ao5 cap5 w5 hown5 ho5 hk5
   have hb1 := HBL.out.trans (HB2.out.mono HBL.out.size)
   have hbw := hb1.alloc hb1.size (.cells (rendCells x).toArray 59)
   have hnew5 : ∀ x,(Value.slice ao5 (k + 1) cap5).ownBlock = some x → w1.heap.size ≤ x := by
    intro x hx
    rcases hk5 x hx with h1 | h1
    ·exact HNEW.out x h1
    ·have := hbw.size; omega
   have hbl5 : Below w1.heap.size w1 w5 := hbw.trans (ho5.below hbw.size (fun q hq => HNEW.out q (by simpa using hq)))
   have hf5 : ((endsOf h).take k).flatMap rendCells ++ rendCells x = ((endsOf h).take (k + 1)).flatMap rendCells := by
    rw [List.take_add_one,HX.out,List.flatMap_append]
    simp
   rw [hf5] at hown5
   have hx5 := ((HX2.out.below HB2.out HX2.out.lt).alloc (.cells (rendCells x).toArray 59)).kept ho5 (by
    intro hm
    have h1 := HNEW.out _ (by simpa using hm)
    omega)
   have O5 := Lib.hid hown5
   have N5 := Lib.hid hnew5
   have B5 := Lib.hid hbl5
   have X5 := Lib.hid hx5
   clear hown5 ho5 hk5 hnew5 hbl5 hf5 hbw how hb1 hx5
   go_wp2_with fail
   go_roundg (N - (k + 1))
   case measure => rw [HG.out]; omega
   case rel => exact ⟨k + 1,ao5,cap5,by go_num,by omega,rfl,rfl,O5.out,N5.out,X5.out,B5.out⟩
  ·obtain rfl : k = N := by omega
   go_wp2
   go_returns
   have hO := HOWN.out
   rw [List.take_of_length_le (by rw [HNN.out]; exact Nat.le_refl _)] at hO
   have hf := (See.of_own rendCells_len hO (by have := HNN.out; omega)).1
   exact ⟨ao2,cap2,congrArg (fun m => Ending.returned (.slice ao2 m cap2)) HNN.out.symm,hf,fun b o e => Nat.le_trans HB.out.size (HNEW.out b (by rw [e]; rfl)),HB.out.trans (HBL.out.mono HB.out.size)⟩
end Go.Proofs.YtchhbgckonpedaaGreatDoor
