/- A rule for regions with many orders: an invariant from operation to operation. -/
import Derived.Deep.RegionHeld3
import Derived.Test.YtchhbgckonpedaaGreatDoorE1
import Derived.Test.YtchhbgckonpedaaGreatDoorE18
import Derived.Deep.DeepCutAuto
import Derived.Deep.CutRange
set_option linter.unusedSimpArgs false
set_option maxRecDepth 100000
set_option maxHeartbeats 8000000
namespace Go.Proofs.YtchhbgckonpedaaGreatDoor
open Go
theorem wpAnyH_inv {P : Program} {ops : Array Oper} {Q : Exit → Act → World → Prop} {md : Region.Mode} {S : World → Prop} (I : Nat → Array Bool → Act → World → Prop)
  (h : ∀ n L a w,I n L a w → wpAnyH P md ops Q S n L a w ∨ ∃ m,n = m + 1 ∧ Region.ready md ops L ≠ [] ∧ ∀ i ∈ Region.ready md ops L,wpOp P ops Q i (fun a' w' => S w' ∧ I m (L.setIfInBounds i true) a' w') a w) :
  ∀ n L a w,I n L a w → wpAnyH P md ops Q S n L a w := by
 intro n
 induction n with
 | zero =>
  intro L a w hi
  rcases h 0 L a w hi with h1 | ⟨m,h1, -⟩
  ·exact h1
  ·omega
 | succ n ih =>
  intro L a w hi
  rcases h (n + 1) L a w hi with h1 | ⟨m,h1,h2,h3⟩
  ·exact h1
  ·obtain rfl : n = m := by omega
   exact ⟨fun e => absurd e h2,fun i hr => wpOp_mono (fun a' w' h4 => ⟨h4.1,ih _ _ _ h4.2⟩) (h3 i hr)⟩
end Go.Proofs.YtchhbgckonpedaaGreatDoor
/- Region 14 of the reference's look at one link: the ends of a link and of its two children (three calls in a chain,three allocs in any order,three stores). -/
namespace Go.Proofs.YtchhbgckonpedaaGreatDoor
open Go.ChangeShapes Go.WideShapes Go.ChangeAt Go.RowKit Go.Joins Go.Deep
def regionAt (n : Nat) : Code → Option Code
 | .region i ops d => if i = n then some (.region i ops d) else none
 | .seq a b => match regionAt n a with
  | some c => some c
  | none => regionAt n b
 | .cond _ a b => match regionAt n a with
  | some c => some c
  | none => regionAt n b
 | .block _ c => regionAt n c
 | .loop c => regionAt n c
 | .scope c => regionAt n c
 | _ => none
def regionOps : Option Code → Array Oper
 | some (.region _ ops _) => ops
 | _ => #[]
noncomputable def linkBody : Code := Tryz.f54.body.getD .skip
noncomputable def ops14 : Array Oper := regionOps (regionAt 14 linkBody)
def cnt (d : Bool) : Nat := if d then 1 else 0
noncomputable def check14 (dA dB dC d1 d2 d3 : Bool) : Bool :=
 (dB && !dA) || (dC && !dB) || (dA && dB && dC && d1 && d2 && d3) ||
  (let r := Region.ready .any ops14 #[true,true,true,dA,true,true,true,true,true,dB,true,true,true,true,true,dC,d1,d2,d3,false,false,false]
   (!r.isEmpty) && r.all fun i => (i == 3 && !dA) || (i == 9 && dA && !dB) || (i == 15 && dB && !dC) || (i == 16 && !d1) || (i == 17 && !d2) || (i == 18 && !d3))
theorem checked14 : ∀ dA dB dC d1 d2 d3 : Bool,check14 dA dB dC d1 d2 d3 = true := by decide +kernel
theorem ready14 (dA dB dC d1 d2 d3 : Bool) (h1 : dB = true → dA = true) (h2 : dC = true → dB = true) (h3 : (dA && dB && dC && d1 && d2 && d3) = false) :
  Region.ready .any ops14 #[true,true,true,dA,true,true,true,true,true,dB,true,true,true,true,true,dC,d1,d2,d3,false,false,false] ≠ [] ∧ ∀ i ∈ Region.ready .any ops14 #[true,true,true,dA,true,true,true,true,true,dB,true,true,true,true,true,dC,d1,d2,d3,false,false,false],
   (i = 3 ∧ dA = false) ∨ (i = 9 ∧ dA = true ∧ dB = false) ∨ (i = 15 ∧ dB = true ∧ dC = false) ∨ (i = 16 ∧ d1 = false) ∨ (i = 17 ∧ d2 = false) ∨ (i = 18 ∧ d3 = false) := by
 have h := checked14 dA dB dC d1 d2 d3
 unfold check14 at h
 have e1 : (dB && !dA) = false := by cases dA <;> cases dB <;> simp_all
 have e2 : (dC && !dB) = false := by cases dB <;> cases dC <;> simp_all
 rw [e1,e2,h3] at h
 generalize Region.ready .any ops14 #[true,true,true,dA,true,true,true,true,true,dB,true,true,true,true,true,dC,d1,d2,d3,false,false,false] = r at h ⊢
 simp only [Bool.false_or,Bool.and_eq_true,Bool.not_eq_true',List.all_eq_true,Bool.or_eq_true,beq_iff_eq] at h
 refine ⟨fun e => by rw [e] at h; simp at h,fun i hi => ?_⟩
 have := h.2 i hi
 rcases this with ((((h | h) | h) | h) | h) | h
 ·exact .inl h
 ·exact .inr (.inl ⟨h.1.1,h.1.2,h.2⟩)
 ·exact .inr (.inr (.inl ⟨h.1.1,h.1.2,h.2⟩))
 ·exact .inr (.inr (.inr (.inl h)))
 ·exact .inr (.inr (.inr (.inr (.inl h))))
 ·exact .inr (.inr (.inr (.inr (.inr h))))
def I14 (s0 s4 s5 s6 s8 s9 s10 s11 s15 s16 s17 s18 s19 s20 s21 s22 s23 s24 s25 s26 s27 s28 s29 s30 s31 s32 s33 s34 s35 s36 s37 s38 s39 s40 s41 s42 s43 s44 s45 s46 s47 s48 s49 s50 s51 s52 s53 s54 s55 s56 s57 s58 s59 s60 s61 s62 s63 s64 s65 s66 s67 s68 s69 s70 s71 s72 s73 s74 s75 s76 s77 s78 s79 s80 s81 s82 s83 s84 s85 s86 s87 s88 s89 s90 s91 s92 s93 s94 s95 s96 s97 s98 s99 s100 s101 s102 s103 s104 s105 s106 s107 s108 s109 s110 s111 s112 s113 s114 s115 s116 s117 s118 s119 s120 s121 s122 s123 s124 s141 s142 s143 s144 s145 s146 s147 s148 s149 s150 s151 s152 s153 s154 s155 s156 s157 s158 s159 s160 s161 s162 s163 s164 s165 s166 s167 s168 s169 s170 s171 s172 s173 s174 s175 s176 s177 s178 s179 s180 s181 s182 s183 s184 s185 s186 s187 s188 s189 s190 s191 s192 s193 V0 V1 V2 V3 V4 RV XA ZA VA : Value) (iv lv rv : Int) (bh bl : Nat) (w : World) (n : Nat) (L : Array Bool) (a : Act) (w' : World) : Prop :=
 ∃ (dA dB dC d1 d2 d3 : Bool) (vA vB vC v1 v2 v3 : Value) (b1 b2 b3 : Nat),n + (cnt dA + cnt dB + cnt dC + cnt d1 + cnt d2 + cnt d3) = 9 ∧ L = #[true,true,true,dA,true,true,true,true,true,dB,true,true,true,true,true,dC,d1,d2,d3,false,false,false] ∧
  a = ⟨#[s0,RV, .int .i64 iv, .pointer (some ⟨bh,0,none⟩),s4,s5,s6, .pointer (some ⟨bl,0,none⟩),s8,s9,s10,s11,v1,v2,v3,s15,s16,s17,s18,s19,s20,s21,s22,s23,s24,s25,s26,s27,s28,s29,s30,s31,s32,s33,s34,s35,s36,s37,s38,s39,s40,s41,s42,s43,s44,s45,s46,s47,s48,s49,s50,s51,s52,s53,s54,s55,s56,s57,s58,s59,s60,s61,s62,s63,s64,s65,s66,s67,s68,s69,s70,s71,s72,s73,s74,s75,s76,s77,s78,s79,s80,s81,s82,s83,s84,s85,s86,s87,s88,s89,s90,s91,s92,s93,s94,s95,s96,s97,s98,s99,s100,s101,s102,s103,s104,s105,s106,s107,s108,s109,s110,s111,s112,s113,s114,s115,s116,s117,s118,s119,s120,s121,s122,s123,s124, .agg #[V0,V1,V2,V3,V4],RV, .int .i64 iv,vA, .agg #[V0,V1,V2,V3,V4],RV, .pointer (some ⟨bl,2,none⟩), .int .u32 lv, .int .i64 lv,vB, .agg #[V0,V1,V2,V3,V4],RV, .pointer (some ⟨bl,3,none⟩), .int .u32 rv, .int .i64 rv,vC,s141,s142,s143,s144,s145,s146,s147,s148,s149,s150,s151,s152,s153,s154,s155,s156,s157,s158,s159,s160,s161,s162,s163,s164,s165,s166,s167,s168,s169,s170,s171,s172,s173,s174,s175,s176,s177,s178,s179,s180,s181,s182,s183,s184,s185,s186,s187,s188,s189,s190,s191,s192,s193], []⟩ ∧ (dB = true → dA = true) ∧ (dC = true → dB = true) ∧
  (dA = true → vA = XA) ∧ (dB = true → vB = ZA) ∧ (dC = true → vC = VA) ∧
  (d1 = true → v1 = .pointer (some ⟨b1,0,none⟩) ∧ Cells w' b1 59 [.int .i64 0, .int .i64 0, .int .i64 0] ∧ w.heap.size ≤ b1) ∧
  (d2 = true → v2 = .pointer (some ⟨b2,0,none⟩) ∧ Cells w' b2 59 [.int .i64 0, .int .i64 0, .int .i64 0] ∧ w.heap.size ≤ b2) ∧
  (d3 = true → v3 = .pointer (some ⟨b3,0,none⟩) ∧ Cells w' b3 59 [.int .i64 0, .int .i64 0, .int .i64 0] ∧ w.heap.size ≤ b3) ∧
  (d1 = true → d2 = true → b1 ≠ b2) ∧ (d1 = true → d3 = true → b1 ≠ b3) ∧ (d2 = true → d3 = true → b2 ≠ b3) ∧ Below w.heap.size w w'
theorem reg14 {V0 V1 V2 V3 V4 RV : Value} {iv lv rv : Int} {bh bl : Nat} {x0 x1 x2 z0 z1 z2 v0 v1 v2 : Int} (s0 s4 s5 s6 s8 s9 s10 s11 s12 s13 s14 s15 s16 s17 s18 s19 s20 s21 s22 s23 s24 s25 s26 s27 s28 s29 s30 s31 s32 s33 s34 s35 s36 s37 s38 s39 s40 s41 s42 s43 s44 s45 s46 s47 s48 s49 s50 s51 s52 s53 s54 s55 s56 s57 s58 s59 s60 s61 s62 s63 s64 s65 s66 s67 s68 s69 s70 s71 s72 s73 s74 s75 s76 s77 s78 s79 s80 s81 s82 s83 s84 s85 s86 s87 s88 s89 s90 s91 s92 s93 s94 s95 s96 s97 s98 s99 s100 s101 s102 s103 s104 s105 s106 s107 s108 s109 s110 s111 s112 s113 s114 s115 s116 s117 s118 s119 s120 s121 s122 s123 s124 s125 s126 s127 s128 s129 s130 s131 s132 s133 s134 s135 s136 s137 s138 s139 s140 s141 s142 s143 s144 s145 s146 s147 s148 s149 s150 s151 s152 s153 s154 s155 s156 s157 s158 s159 s160 s161 s162 s163 s164 s165 s166 s167 s168 s169 s170 s171 s172 s173 s174 s175 s176 s177 s178 s179 s180 s181 s182 s183 s184 s185 s186 s187 s188 s189 s190 s191 s192 s193 : Value) (Q : Exit → Act → World → Prop) (w : World)
  (hQp : ∀ c (a : Act) (t : Option Tmp) (v : Value) w',Q (.panic c) (a.put t v) w' → Q (.panic c) a w')
  (k0 : w.cell? ⟨bh,0,none⟩ = some V0) (k1 : w.cell? ⟨bh,1,none⟩ = some V1) (k2 : w.cell? ⟨bh,2,none⟩ = some V2) (k3 : w.cell? ⟨bh,3,none⟩ = some V3) (k4 : w.cell? ⟨bh,4,none⟩ = some V4)
  (c2 : w.cell? ⟨bl,2,none⟩ = some (.int .u32 lv)) (c3 : w.cell? ⟨bl,3,none⟩ = some (.int .u32 rv)) (hlv : IntKind.i64.wrap lv = lv) (hrv : IntKind.i64.wrap rv = rv)
  (hA : ∀ w',Below w.heap.size w w' → Calls Tryz.prog 55 #[.agg #[V0,V1,V2,V3,V4],RV, .int .i64 iv] w' fun e w'' => e = .returned (.agg #[.int .i64 x0, .int .i64 x1, .int .i64 x2]) ∧ Below w'.heap.size w' w'')
  (hB : ∀ w',Below w.heap.size w w' → Calls Tryz.prog 55 #[.agg #[V0,V1,V2,V3,V4],RV, .int .i64 lv] w' fun e w'' => e = .returned (.agg #[.int .i64 z0, .int .i64 z1, .int .i64 z2]) ∧ Below w'.heap.size w' w'')
  (hC : ∀ w',Below w.heap.size w w' → Calls Tryz.prog 55 #[.agg #[V0,V1,V2,V3,V4],RV, .int .i64 rv] w' fun e w'' => e = .returned (.agg #[.int .i64 v0, .int .i64 v1, .int .i64 v2]) ∧ Below w'.heap.size w' w'')
  (hQ : ∀ (p1 p2 p3 : Nat) (t125 t126 t127 t128 t129 t130 t131 t132 t133 t134 t135 t136 t137 t138 t139 t140 : Value) (w' : World),Cells w' p1 59 [.int .i64 x0, .int .i64 x1, .int .i64 x2] → Cells w' p2 59 [.int .i64 z0, .int .i64 z1, .int .i64 z2] → Cells w' p3 59 [.int .i64 v0, .int .i64 v1, .int .i64 v2] → Below w.heap.size w w' →
   Q .normal ⟨#[s0,RV, .int .i64 iv, .pointer (some ⟨bh,0,none⟩),s4,s5,s6, .pointer (some ⟨bl,0,none⟩),s8,s9,s10,s11, .pointer (some ⟨p1,0,none⟩), .pointer (some ⟨p2,0,none⟩), .pointer (some ⟨p3,0,none⟩),s15,s16,s17,s18,s19,s20,s21,s22,s23,s24,s25,s26,s27,s28,s29,s30,s31,s32,s33,s34,s35,s36,s37,s38,s39,s40,s41,s42,s43,s44,s45,s46,s47,s48,s49,s50,s51,s52,s53,s54,s55,s56,s57,s58,s59,s60,s61,s62,s63,s64,s65,s66,s67,s68,s69,s70,s71,s72,s73,s74,s75,s76,s77,s78,s79,s80,s81,s82,s83,s84,s85,s86,s87,s88,s89,s90,s91,s92,s93,s94,s95,s96,s97,s98,s99,s100,s101,s102,s103,s104,s105,s106,s107,s108,s109,s110,s111,s112,s113,s114,s115,s116,s117,s118,s119,s120,s121,s122,s123,s124,t125,t126,t127,t128,t129,t130,t131,t132,t133,t134,t135,t136,t137,t138,t139,t140,s141,s142,s143,s144,s145,s146,s147,s148,s149,s150,s151,s152,s153,s154,s155,s156,s157,s158,s159,s160,s161,s162,s163,s164,s165,s166,s167,s168,s169,s170,s171,s172,s173,s174,s175,s176,s177,s178,s179,s180,s181,s182,s183,s184,s185,s186,s187,s188,s189,s190,s191,s192,s193], []⟩ w') :
  Code.wp Tryz.prog ((regionAt 14 linkBody).getD .skip) Q ⟨#[s0,RV, .int .i64 iv, .pointer (some ⟨bh,0,none⟩),s4,s5,s6, .pointer (some ⟨bl,0,none⟩),s8,s9,s10,s11,s12,s13,s14,s15,s16,s17,s18,s19,s20,s21,s22,s23,s24,s25,s26,s27,s28,s29,s30,s31,s32,s33,s34,s35,s36,s37,s38,s39,s40,s41,s42,s43,s44,s45,s46,s47,s48,s49,s50,s51,s52,s53,s54,s55,s56,s57,s58,s59,s60,s61,s62,s63,s64,s65,s66,s67,s68,s69,s70,s71,s72,s73,s74,s75,s76,s77,s78,s79,s80,s81,s82,s83,s84,s85,s86,s87,s88,s89,s90,s91,s92,s93,s94,s95,s96,s97,s98,s99,s100,s101,s102,s103,s104,s105,s106,s107,s108,s109,s110,s111,s112,s113,s114,s115,s116,s117,s118,s119,s120,s121,s122,s123,s124,s125,s126,s127,s128,s129,s130,s131,s132,s133,s134,s135,s136,s137,s138,s139,s140,s141,s142,s143,s144,s145,s146,s147,s148,s149,s150,s151,s152,s153,s154,s155,s156,s157,s158,s159,s160,s161,s162,s163,s164,s165,s166,s167,s168,s169,s170,s171,s172,s173,s174,s175,s176,s177,s178,s179,s180,s181,s182,s183,s184,s185,s186,s187,s188,s189,s190,s191,s192,s193], []⟩ w := by
 have HQ := Lib.hid hQ
 have HQP := Lib.hid hQp
 have HA := Lib.hid hA
 have HB := Lib.hid hB
 have HC := Lib.hid hC
 clear hQ hQp hA hB hC
 conv => arg 2; whnf
 refine wp_region_held_drew (S := fun W => Below w.heap.size w W) (by kernel_rfl) ((Below.refl _ _).drew) (fun hHeld => ?_)
 simp only [List.size_toArray,List.length_cons,List.length_nil,Nat.reduceAdd,Array.replicate_succ,Array.replicate_zero,List.push_toArray,List.nil_append,List.cons_append]
 refine wpAnyH_take (i := 0) (oi := { dst := some 125,op := Op.load 25 (Operand.tmp 3),type := 25,pos := "ref.go:95",after := #[],guard := none }) (v := .agg #[V0,V1,V2,V3,V4]) rfl (by kernel_rfl) (by kernel_rfl) (by kernel_rfl) (fun c a w' => HQP.out c a _ _ w') (Or.inl ⟨by rfl, ?_⟩) hHeld ?_
 ·intro W hSw
  try dsimp only at hSw
  have m0 := ck hSw k0
  have m1 := ck hSw k1
  have m2 := ck hSw k2
  have m3 := ck hSw k3
  have m4 := ck hSw k4
  clear hSw hHeld k0 k1 k2 k3 k4 c2 c3
  go_simp
 simp only [Act.put,List.setIfInBounds_toArray,List.set_cons_zero,List.set_cons_succ]
 refine wpAnyH_take (i := 1) (oi := { dst := some 126,op := Op.move (Operand.tmp 1),type := 28,pos := "ref.go:95",after := #[],guard := none }) (v := RV) rfl (by kernel_rfl) (by kernel_rfl) (by kernel_rfl) (fun c a w' => HQP.out c a _ _ w') (Or.inl ⟨by rfl, ?_⟩) hHeld ?_
 ·intro W hSw
  try dsimp only at hSw
  clear hSw hHeld k0 k1 k2 k3 k4 c2 c3
  go_simp
 simp only [Act.put,List.setIfInBounds_toArray,List.set_cons_zero,List.set_cons_succ]
 refine wpAnyH_take (i := 2) (oi := { dst := some 127,op := Op.move (Operand.tmp 2),type := 3,pos := "ref.go:95",after := #[],guard := none }) (v := .int .i64 iv) rfl (by kernel_rfl) (by kernel_rfl) (by kernel_rfl) (fun c a w' => HQP.out c a _ _ w') (Or.inl ⟨by rfl, ?_⟩) hHeld ?_
 ·intro W hSw
  try dsimp only at hSw
  clear hSw hHeld k0 k1 k2 k3 k4 c2 c3
  go_simp
 simp only [Act.put,List.setIfInBounds_toArray,List.set_cons_zero,List.set_cons_succ]
 refine wpAnyH_take (i := 4) (oi := { dst := some 129,op := Op.load 25 (Operand.tmp 3),type := 25,pos := "ref.go:95",after := #[],guard := none }) (v := .agg #[V0,V1,V2,V3,V4]) rfl (by kernel_rfl) (by kernel_rfl) (by kernel_rfl) (fun c a w' => HQP.out c a _ _ w') (Or.inl ⟨by rfl, ?_⟩) hHeld ?_
 ·intro W hSw
  try dsimp only at hSw
  have m0 := ck hSw k0
  have m1 := ck hSw k1
  have m2 := ck hSw k2
  have m3 := ck hSw k3
  have m4 := ck hSw k4
  clear hSw hHeld k0 k1 k2 k3 k4 c2 c3
  go_simp
 simp only [Act.put,List.setIfInBounds_toArray,List.set_cons_zero,List.set_cons_succ]
 refine wpAnyH_take (i := 5) (oi := { dst := some 130,op := Op.move (Operand.tmp 1),type := 28,pos := "ref.go:95",after := #[],guard := none }) (v := RV) rfl (by kernel_rfl) (by kernel_rfl) (by kernel_rfl) (fun c a w' => HQP.out c a _ _ w') (Or.inl ⟨by rfl, ?_⟩) hHeld ?_
 ·intro W hSw
  try dsimp only at hSw
  clear hSw hHeld k0 k1 k2 k3 k4 c2 c3
  go_simp
 simp only [Act.put,List.setIfInBounds_toArray,List.set_cons_zero,List.set_cons_succ]
 refine wpAnyH_take (i := 6) (oi := { dst := some 131,op := Op.fieldAddr 65 (Operand.tmp 7) 2,type := 0,pos := "ref.go:95",after := #[],guard := none }) (v := .pointer (some ⟨bl,2,none⟩)) rfl (by kernel_rfl) (by kernel_rfl) (by kernel_rfl) (fun c a w' => HQP.out c a _ _ w') (Or.inl ⟨by rfl, ?_⟩) hHeld ?_
 ·intro W hSw
  try dsimp only at hSw
  clear hSw hHeld k0 k1 k2 k3 k4 c2 c3
  go_simp
 simp only [Act.put,List.setIfInBounds_toArray,List.set_cons_zero,List.set_cons_succ]
 refine wpAnyH_take (i := 7) (oi := { dst := some 132,op := Op.load 62 (Operand.tmp 131),type := 62,pos := "ref.go:95",after := #[{ on := 6,ground := Ground.data }],guard := none }) (v := .int .u32 lv) rfl (by kernel_rfl) (by kernel_rfl) (by kernel_rfl) (fun c a w' => HQP.out c a _ _ w') (Or.inl ⟨by rfl, ?_⟩) hHeld ?_
 ·intro W hSw
  try dsimp only at hSw
  have m0 := ck hSw c2
  clear hSw hHeld k0 k1 k2 k3 k4 c2 c3
  go_simp
 simp only [Act.put,List.setIfInBounds_toArray,List.set_cons_zero,List.set_cons_succ]
 refine wpAnyH_take (i := 8) (oi := { dst := some 133,op := Op.convert 62 3 (Operand.tmp 132),type := 3,pos := "ref.go:95",after := #[{ on := 7,ground := Ground.data }],guard := none }) (v := .int .i64 lv) rfl (by kernel_rfl) (by kernel_rfl) (by kernel_rfl) (fun c a w' => HQP.out c a _ _ w') (Or.inl ⟨by rfl, ?_⟩) hHeld ?_
 ·intro W hSw
  try dsimp only at hSw
  clear hSw hHeld k0 k1 k2 k3 k4 c2 c3
  go_simp
 simp only [Act.put,List.setIfInBounds_toArray,List.set_cons_zero,List.set_cons_succ]
 refine wpAnyH_take (i := 10) (oi := { dst := some 135,op := Op.load 25 (Operand.tmp 3),type := 25,pos := "ref.go:95",after := #[],guard := none }) (v := .agg #[V0,V1,V2,V3,V4]) rfl (by kernel_rfl) (by kernel_rfl) (by kernel_rfl) (fun c a w' => HQP.out c a _ _ w') (Or.inl ⟨by rfl, ?_⟩) hHeld ?_
 ·intro W hSw
  try dsimp only at hSw
  have m0 := ck hSw k0
  have m1 := ck hSw k1
  have m2 := ck hSw k2
  have m3 := ck hSw k3
  have m4 := ck hSw k4
  clear hSw hHeld k0 k1 k2 k3 k4 c2 c3
  go_simp
 simp only [Act.put,List.setIfInBounds_toArray,List.set_cons_zero,List.set_cons_succ]
 refine wpAnyH_take (i := 11) (oi := { dst := some 136,op := Op.move (Operand.tmp 1),type := 28,pos := "ref.go:95",after := #[],guard := none }) (v := RV) rfl (by kernel_rfl) (by kernel_rfl) (by kernel_rfl) (fun c a w' => HQP.out c a _ _ w') (Or.inl ⟨by rfl, ?_⟩) hHeld ?_
 ·intro W hSw
  try dsimp only at hSw
  clear hSw hHeld k0 k1 k2 k3 k4 c2 c3
  go_simp
 simp only [Act.put,List.setIfInBounds_toArray,List.set_cons_zero,List.set_cons_succ]
 refine wpAnyH_take (i := 12) (oi := { dst := some 137,op := Op.fieldAddr 65 (Operand.tmp 7) 3,type := 0,pos := "ref.go:95",after := #[],guard := none }) (v := .pointer (some ⟨bl,3,none⟩)) rfl (by kernel_rfl) (by kernel_rfl) (by kernel_rfl) (fun c a w' => HQP.out c a _ _ w') (Or.inl ⟨by rfl, ?_⟩) hHeld ?_
 ·intro W hSw
  try dsimp only at hSw
  clear hSw hHeld k0 k1 k2 k3 k4 c2 c3
  go_simp
 simp only [Act.put,List.setIfInBounds_toArray,List.set_cons_zero,List.set_cons_succ]
 refine wpAnyH_take (i := 13) (oi := { dst := some 138,op := Op.load 62 (Operand.tmp 137),type := 62,pos := "ref.go:95",after := #[{ on := 12,ground := Ground.data }],guard := none }) (v := .int .u32 rv) rfl (by kernel_rfl) (by kernel_rfl) (by kernel_rfl) (fun c a w' => HQP.out c a _ _ w') (Or.inl ⟨by rfl, ?_⟩) hHeld ?_
 ·intro W hSw
  try dsimp only at hSw
  have m0 := ck hSw c3
  clear hSw hHeld k0 k1 k2 k3 k4 c2 c3
  go_simp
 simp only [Act.put,List.setIfInBounds_toArray,List.set_cons_zero,List.set_cons_succ]
 refine wpAnyH_take (i := 14) (oi := { dst := some 139,op := Op.convert 62 3 (Operand.tmp 138),type := 3,pos := "ref.go:95",after := #[{ on := 13,ground := Ground.data }],guard := none }) (v := .int .i64 rv) rfl (by kernel_rfl) (by kernel_rfl) (by kernel_rfl) (fun c a w' => HQP.out c a _ _ w') (Or.inl ⟨by rfl, ?_⟩) hHeld ?_
 ·intro W hSw
  try dsimp only at hSw
  clear hSw hHeld k0 k1 k2 k3 k4 c2 c3
  go_simp
 simp only [Act.put,List.setIfInBounds_toArray,List.set_cons_zero,List.set_cons_succ]
 clear k0 k1 k2 k3 k4 c2 c3
 refine wpAnyH_inv (I14 s0 s4 s5 s6 s8 s9 s10 s11 s15 s16 s17 s18 s19 s20 s21 s22 s23 s24 s25 s26 s27 s28 s29 s30 s31 s32 s33 s34 s35 s36 s37 s38 s39 s40 s41 s42 s43 s44 s45 s46 s47 s48 s49 s50 s51 s52 s53 s54 s55 s56 s57 s58 s59 s60 s61 s62 s63 s64 s65 s66 s67 s68 s69 s70 s71 s72 s73 s74 s75 s76 s77 s78 s79 s80 s81 s82 s83 s84 s85 s86 s87 s88 s89 s90 s91 s92 s93 s94 s95 s96 s97 s98 s99 s100 s101 s102 s103 s104 s105 s106 s107 s108 s109 s110 s111 s112 s113 s114 s115 s116 s117 s118 s119 s120 s121 s122 s123 s124 s141 s142 s143 s144 s145 s146 s147 s148 s149 s150 s151 s152 s153 s154 s155 s156 s157 s158 s159 s160 s161 s162 s163 s164 s165 s166 s167 s168 s169 s170 s171 s172 s173 s174 s175 s176 s177 s178 s179 s180 s181 s182 s183 s184 s185 s186 s187 s188 s189 s190 s191 s192 s193 V0 V1 V2 V3 V4 RV (.agg #[.int .i64 x0, .int .i64 x1, .int .i64 x2]) (.agg #[.int .i64 z0, .int .i64 z1, .int .i64 z2]) (.agg #[.int .i64 v0, .int .i64 v1, .int .i64 v2]) iv lv rv bh bl w) ?_ 9 _ _ _ ⟨false,false,false,false,false,false,s128,s134,s140,s12,s13,s14,0,0,0,rfl,rfl,rfl,by simp,by simp,by simp,by simp,by simp,by simp,by simp,by simp,by simp,by simp,by simp,hHeld⟩
 clear hHeld
 intro n L a w' hI
 obtain ⟨dA,dB,dC,d1,d2,d3,vA,vB,vC,v1',v2',v3',b1,b2,b3,hn,rfl,rfl,hBA,hCB,eA,eB,eC,e1,e2,e3,n12,n13,n23,hb⟩ := hI
 by_cases hall : (dA && dB && dC && d1 && d2 && d3) = true
 ·left
  simp only [Bool.and_eq_true] at hall
  obtain ⟨⟨⟨⟨⟨rfl,rfl⟩,rfl⟩,rfl⟩,rfl⟩,rfl⟩ := hall
  obtain rfl := eA rfl
  obtain rfl := eB rfl
  obtain rfl := eC rfl
  obtain ⟨rfl,hc1,l1⟩ := e1 rfl
  obtain ⟨rfl,hc2,l2⟩ := e2 rfl
  obtain ⟨rfl,hc3,l3⟩ := e3 rfl
  have h12 := n12 rfl rfl
  have h13 := n13 rfl rfl
  have h23 := n23 rfl rfl
  obtain rfl : n = 3 := by have : cnt true = 1 := rfl; omega
  clear hn hBA hCB eA eB eC e1 e2 e3 n12 n13 n23
  have C1 := Lib.hid hc1
  have C2 := Lib.hid hc2
  have C3 := Lib.hid hc3
  have HBB := Lib.hid hb
  have g0 := hc1.frozen 0
  have g1 := hc1.frozen 1
  have g2 := hc1.frozen 2
  have y0 := hc1.cell (i := 0) rfl
  have y1 := hc1.cell (i := 1) rfl
  have y2 := hc1.cell (i := 2) rfl
  have lt1 := hc1.lt
  clear hc1 hc2 hc3 hb
  refine wpAnyH_ready (rs := [19]) (by kernel_rfl) (by simp) (AllReadyH.cons (o := { dst := none,op := Op.store 59 (Operand.tmp 12) (Operand.tmp 128),type := 0,pos := "ref.go:95",after := #[{ on := 16,ground := Ground.data }, { on := 3,ground := Ground.data }, { on := 15,ground := Ground.chain }, { on := 0,ground := Ground.phase }, { on := 1,ground := Ground.phase }, { on := 2,ground := Ground.phase }, { on := 3,ground := Ground.phase }, { on := 4,ground := Ground.textOnly Departure.lateStores }, { on := 5,ground := Ground.textOnly Departure.lateStores }, { on := 6,ground := Ground.textOnly Departure.lateStores }, { on := 7,ground := Ground.textOnly Departure.lateStores }, { on := 8,ground := Ground.textOnly Departure.lateStores }, { on := 9,ground := Ground.textOnly Departure.lateStoresUnsure }, { on := 10,ground := Ground.textOnly Departure.lateStores }, { on := 11,ground := Ground.textOnly Departure.lateStores }, { on := 12,ground := Ground.textOnly Departure.lateStores }, { on := 13,ground := Ground.textOnly Departure.lateStores }, { on := 14,ground := Ground.textOnly Departure.lateStores }, { on := 15,ground := Ground.textOnly Departure.lateStoresUnsure }, { on := 16,ground := Ground.phase }, { on := 17,ground := Ground.phase }, { on := 18,ground := Ground.phase }],guard := none }) rfl (fun K hK => ?_) AllReadyH.nil)
  go_simp
  obtain ⟨wX,hwwX⟩ : ∃ wX,((w'.setCell ⟨b1,0,none⟩ (.int .i64 x0)).setCell ⟨b1,1,none⟩ (.int .i64 x1)).setCell ⟨b1,2,none⟩ (.int .i64 x2) = wX := ⟨_,rfl⟩
  have hb := ((HBB.out.setCell (p := ⟨b1,0,none⟩) l1 (.int .i64 x0)).setCell (p := ⟨b1,1,none⟩) l1 (.int .i64 x1)).setCell (p := ⟨b1,2,none⟩) l1 (.int .i64 x2)
  have hc1 := ((C1.out.set 0 (.int .i64 x0)).set 1 (.int .i64 x1)).set 2 (.int .i64 x2)
  have hc2 := ((C2.out.other (a := ⟨b1,0,none⟩) (Ne.symm h12) (.int .i64 x0)).other (a := ⟨b1,1,none⟩) (Ne.symm h12) (.int .i64 x1)).other (a := ⟨b1,2,none⟩) (Ne.symm h12) (.int .i64 x2)
  have hc3 := ((C3.out.other (a := ⟨b1,0,none⟩) (Ne.symm h13) (.int .i64 x0)).other (a := ⟨b1,1,none⟩) (Ne.symm h13) (.int .i64 x1)).other (a := ⟨b1,2,none⟩) (Ne.symm h13) (.int .i64 x2)
  rw [hwwX] at hb hc1 hc2 hc3 ⊢
  refine hK.out _ _ hb (fun hHeld => ?_)
  simp only [Act.put,List.setIfInBounds_toArray,List.set_cons_zero,List.set_cons_succ]
  clear hK K hHeld C1 C2 C3 HBB g0 g1 g2 y0 y1 y2 hwwX lt1
  have C1 := Lib.hid hc1
  have C2 := Lib.hid hc2
  have C3 := Lib.hid hc3
  have HBB := Lib.hid hb
  have g0 := hc2.frozen 0
  have g1 := hc2.frozen 1
  have g2 := hc2.frozen 2
  have y0 := hc2.cell (i := 0) rfl
  have y1 := hc2.cell (i := 1) rfl
  have y2 := hc2.cell (i := 2) rfl
  have lt2 := hc2.lt
  clear hc1 hc2 hc3 hb
  refine wpAnyH_ready (rs := [20]) (by kernel_rfl) (by simp) (AllReadyH.cons (o := { dst := none,op := Op.store 59 (Operand.tmp 13) (Operand.tmp 134),type := 0,pos := "ref.go:95",after := #[{ on := 17,ground := Ground.data }, { on := 9,ground := Ground.data }, { on := 19,ground := Ground.chain }, { on := 0,ground := Ground.phase }, { on := 1,ground := Ground.phase }, { on := 2,ground := Ground.phase }, { on := 3,ground := Ground.phase }, { on := 4,ground := Ground.phase }, { on := 5,ground := Ground.phase }, { on := 6,ground := Ground.phase }, { on := 7,ground := Ground.phase }, { on := 8,ground := Ground.phase }, { on := 9,ground := Ground.phase }, { on := 10,ground := Ground.textOnly Departure.lateStores }, { on := 11,ground := Ground.textOnly Departure.lateStores }, { on := 12,ground := Ground.textOnly Departure.lateStores }, { on := 13,ground := Ground.textOnly Departure.lateStores }, { on := 14,ground := Ground.textOnly Departure.lateStores }, { on := 15,ground := Ground.textOnly Departure.lateStoresUnsure }, { on := 16,ground := Ground.phase }, { on := 17,ground := Ground.phase }, { on := 18,ground := Ground.phase }, { on := 19,ground := Ground.phase }],guard := none }) rfl (fun K hK => ?_) AllReadyH.nil)
  go_simp
  obtain ⟨wZ,hwwZ⟩ : ∃ wZ,((wX.setCell ⟨b2,0,none⟩ (.int .i64 z0)).setCell ⟨b2,1,none⟩ (.int .i64 z1)).setCell ⟨b2,2,none⟩ (.int .i64 z2) = wZ := ⟨_,rfl⟩
  have hb := ((HBB.out.setCell (p := ⟨b2,0,none⟩) l2 (.int .i64 z0)).setCell (p := ⟨b2,1,none⟩) l2 (.int .i64 z1)).setCell (p := ⟨b2,2,none⟩) l2 (.int .i64 z2)
  have hc1 := ((C1.out.other (a := ⟨b2,0,none⟩) h12 (.int .i64 z0)).other (a := ⟨b2,1,none⟩) h12 (.int .i64 z1)).other (a := ⟨b2,2,none⟩) h12 (.int .i64 z2)
  have hc2 := ((C2.out.set 0 (.int .i64 z0)).set 1 (.int .i64 z1)).set 2 (.int .i64 z2)
  have hc3 := ((C3.out.other (a := ⟨b2,0,none⟩) (Ne.symm h23) (.int .i64 z0)).other (a := ⟨b2,1,none⟩) (Ne.symm h23) (.int .i64 z1)).other (a := ⟨b2,2,none⟩) (Ne.symm h23) (.int .i64 z2)
  rw [hwwZ] at hb hc1 hc2 hc3 ⊢
  refine hK.out _ _ hb (fun hHeld => ?_)
  simp only [Act.put,List.setIfInBounds_toArray,List.set_cons_zero,List.set_cons_succ]
  clear hK K hHeld C1 C2 C3 HBB g0 g1 g2 y0 y1 y2 hwwZ lt2
  have C1 := Lib.hid hc1
  have C2 := Lib.hid hc2
  have C3 := Lib.hid hc3
  have HBB := Lib.hid hb
  have g0 := hc3.frozen 0
  have g1 := hc3.frozen 1
  have g2 := hc3.frozen 2
  have y0 := hc3.cell (i := 0) rfl
  have y1 := hc3.cell (i := 1) rfl
  have y2 := hc3.cell (i := 2) rfl
  have lt3 := hc3.lt
  clear hc1 hc2 hc3 hb
  refine wpAnyH_ready (rs := [21]) (by kernel_rfl) (by simp) (AllReadyH.cons (o := { dst := none,op := Op.store 59 (Operand.tmp 14) (Operand.tmp 140),type := 0,pos := "ref.go:95",after := #[{ on := 18,ground := Ground.data }, { on := 15,ground := Ground.data }, { on := 20,ground := Ground.chain }, { on := 0,ground := Ground.phase }, { on := 1,ground := Ground.phase }, { on := 2,ground := Ground.phase }, { on := 3,ground := Ground.phase }, { on := 4,ground := Ground.phase }, { on := 5,ground := Ground.phase }, { on := 6,ground := Ground.phase }, { on := 7,ground := Ground.phase }, { on := 8,ground := Ground.phase }, { on := 9,ground := Ground.phase }, { on := 10,ground := Ground.phase }, { on := 11,ground := Ground.phase }, { on := 12,ground := Ground.phase }, { on := 13,ground := Ground.phase }, { on := 14,ground := Ground.phase }, { on := 15,ground := Ground.phase }, { on := 16,ground := Ground.phase }, { on := 17,ground := Ground.phase }, { on := 18,ground := Ground.phase }, { on := 19,ground := Ground.phase }, { on := 20,ground := Ground.phase }],guard := none }) rfl (fun K hK => ?_) AllReadyH.nil)
  go_simp
  obtain ⟨wV,hwwV⟩ : ∃ wV,((wZ.setCell ⟨b3,0,none⟩ (.int .i64 v0)).setCell ⟨b3,1,none⟩ (.int .i64 v1)).setCell ⟨b3,2,none⟩ (.int .i64 v2) = wV := ⟨_,rfl⟩
  have hb := ((HBB.out.setCell (p := ⟨b3,0,none⟩) l3 (.int .i64 v0)).setCell (p := ⟨b3,1,none⟩) l3 (.int .i64 v1)).setCell (p := ⟨b3,2,none⟩) l3 (.int .i64 v2)
  have hc1 := ((C1.out.other (a := ⟨b3,0,none⟩) h13 (.int .i64 v0)).other (a := ⟨b3,1,none⟩) h13 (.int .i64 v1)).other (a := ⟨b3,2,none⟩) h13 (.int .i64 v2)
  have hc2 := ((C2.out.other (a := ⟨b3,0,none⟩) h23 (.int .i64 v0)).other (a := ⟨b3,1,none⟩) h23 (.int .i64 v1)).other (a := ⟨b3,2,none⟩) h23 (.int .i64 v2)
  have hc3 := ((C3.out.set 0 (.int .i64 v0)).set 1 (.int .i64 v1)).set 2 (.int .i64 v2)
  rw [hwwV] at hb hc1 hc2 hc3 ⊢
  refine hK.out _ _ hb (fun hHeld => ?_)
  simp only [Act.put,List.setIfInBounds_toArray,List.set_cons_zero,List.set_cons_succ]
  clear hK K hHeld C1 C2 C3 HBB g0 g1 g2 y0 y1 y2 hwwV lt3
  refine wpAnyH_done (by kernel_rfl) ?_ _
  exact HQ.out _ _ _ _ _ _ _ _ _ _ _ _ _ _ _ _ _ _ _ _ hc1 hc2 hc3 hb
 ·right
  have hall' : (dA && dB && dC && d1 && d2 && d3) = false := by simpa using hall
  obtain ⟨hne,hrd⟩ := ready14 dA dB dC d1 d2 d3 hBA hCB hall'
  have hc1 : ∀ d,cnt d ≤ 1 := fun d => by cases d <;> simp [cnt]
  have q1 := hc1 dA
  have q2 := hc1 dB
  have q3 := hc1 dC
  have q4 := hc1 d1
  have q5 := hc1 d2
  have q6 := hc1 d3
  have ct : cnt true = 1 := rfl
  have cf : cnt false = 0 := rfl
  obtain ⟨m,rfl⟩ : ∃ m,n = m + 1 := ⟨n - 1,by omega⟩
  refine ⟨m,rfl,hne,fun i hi => ?_⟩
  have HN := Lib.hid hn
  have HI := Lib.hid (And.intro hBA (And.intro hCB (And.intro eA (And.intro eB (And.intro eC (And.intro e1 (And.intro e2 (And.intro e3 (And.intro n12 (And.intro n13 n23))))))))))
  have HB1 := Lib.hid hb
  have hrd' := hrd i hi
  clear hn hBA hCB eA eB eC e1 e2 e3 n12 n13 n23 hb hrd hi hne hall hall' hc1 q1 q2 q3 q4 q5 q6
  rcases hrd' with ⟨rfl,rfl⟩ | ⟨rfl,rfl,rfl⟩ | ⟨rfl,rfl,rfl⟩ | ⟨rfl,rfl⟩ | ⟨rfl,rfl⟩ | ⟨rfl,rfl⟩
  ·refine wpOp_step (o := { dst := some 128,op := Op.call { callee := Callee.value (Operand.func 55),args := #[Operand.tmp 125,Operand.tmp 126,Operand.tmp 127],argTypes := #[25, 28, 3] },type := 59,pos := "ref.go:95",after := #[{ on := 0,ground := Ground.data }, { on := 1,ground := Ground.data }, { on := 2,ground := Ground.data }],guard := none }) rfl (fun K hK => ?_)
   have HK := Lib.hid hK
   clear hK
   go_simp
   refine (HA.out _ HB1.out).mono ?_
   rintro e w1 ⟨rfl,h1⟩
   go_wp2_with fail
   obtain ⟨hBA,hCB,eA,eB,eC,e1,e2,e3,n12,n13,n23⟩ := HI.out
   have hn := HN.out
   have hb := HB1.out.trans (h1.mono HB1.out.size)
   have keep : ∀ b t l,Cells w' b t l → Cells w1 b t l := fun b t l h => h.below h1 h.lt
   refine HK.out _ _ ⟨hb,true,dB,dC,d1,d2,d3,_,vB,vC,v1',v2',v3',b1,b2,b3, ?_,rfl,rfl, ?_, ?_, ?_, ?_, ?_,fun h => ⟨(e1 h).1,keep _ _ _ (e1 h).2.1,(e1 h).2.2⟩,fun h => ⟨(e2 h).1,keep _ _ _ (e2 h).2.1,(e2 h).2.2⟩,fun h => ⟨(e3 h).1,keep _ _ _ (e3 h).2.1,(e3 h).2.2⟩,n12,n13,n23,hb⟩
   ·omega
   all_goals simp_all
  ·refine wpOp_step (o := { dst := some 134,op := Op.call { callee := Callee.value (Operand.func 55),args := #[Operand.tmp 129,Operand.tmp 130,Operand.tmp 133],argTypes := #[25, 28, 3] },type := 59,pos := "ref.go:95",after := #[{ on := 4,ground := Ground.data }, { on := 5,ground := Ground.data }, { on := 8,ground := Ground.data }, { on := 3,ground := Ground.chain }],guard := none }) rfl (fun K hK => ?_)
   have HK := Lib.hid hK
   clear hK
   go_simp
   refine (HB.out _ HB1.out).mono ?_
   rintro e w1 ⟨rfl,h1⟩
   go_wp2_with fail
   obtain ⟨hBA,hCB,eA,eB,eC,e1,e2,e3,n12,n13,n23⟩ := HI.out
   have hn := HN.out
   have hb := HB1.out.trans (h1.mono HB1.out.size)
   have keep : ∀ b t l,Cells w' b t l → Cells w1 b t l := fun b t l h => h.below h1 h.lt
   refine HK.out _ _ ⟨hb,true,true,dC,d1,d2,d3,vA,_,vC,v1',v2',v3',b1,b2,b3, ?_,rfl,rfl, ?_, ?_, ?_, ?_, ?_,fun h => ⟨(e1 h).1,keep _ _ _ (e1 h).2.1,(e1 h).2.2⟩,fun h => ⟨(e2 h).1,keep _ _ _ (e2 h).2.1,(e2 h).2.2⟩,fun h => ⟨(e3 h).1,keep _ _ _ (e3 h).2.1,(e3 h).2.2⟩,n12,n13,n23,hb⟩
   ·omega
   all_goals simp_all
  ·refine wpOp_step (o := { dst := some 140,op := Op.call { callee := Callee.value (Operand.func 55),args := #[Operand.tmp 135,Operand.tmp 136,Operand.tmp 139],argTypes := #[25, 28, 3] },type := 59,pos := "ref.go:95",after := #[{ on := 10,ground := Ground.data }, { on := 11,ground := Ground.data }, { on := 14,ground := Ground.data }, { on := 9,ground := Ground.chain }],guard := none }) rfl (fun K hK => ?_)
   have HK := Lib.hid hK
   clear hK
   go_simp
   refine (HC.out _ HB1.out).mono ?_
   rintro e w1 ⟨rfl,h1⟩
   go_wp2_with fail
   obtain ⟨hBA,hCB,eA,eB,eC,e1,e2,e3,n12,n13,n23⟩ := HI.out
   have hn := HN.out
   have hb := HB1.out.trans (h1.mono HB1.out.size)
   have keep : ∀ b t l,Cells w' b t l → Cells w1 b t l := fun b t l h => h.below h1 h.lt
   refine HK.out _ _ ⟨hb,dA,true,true,d1,d2,d3,vA,vB,_,v1',v2',v3',b1,b2,b3, ?_,rfl,rfl, ?_, ?_, ?_, ?_, ?_,fun h => ⟨(e1 h).1,keep _ _ _ (e1 h).2.1,(e1 h).2.2⟩,fun h => ⟨(e2 h).1,keep _ _ _ (e2 h).2.1,(e2 h).2.2⟩,fun h => ⟨(e3 h).1,keep _ _ _ (e3 h).2.1,(e3 h).2.2⟩,n12,n13,n23,hb⟩
   ·omega
   all_goals simp_all
  ·refine wpOp_step (o := { dst := some 12,op := Op.alloc 59,type := 0,pos := "ref.go:95",after := #[],guard := none }) rfl (fun K hK => ?_)
   have HK := Lib.hid hK
   clear hK
   go_simp
   obtain ⟨hBA,hCB,eA,eB,eC,e1,e2,e3,n12,n13,n23⟩ := HI.out
   have hn := HN.out
   have hb := HB1.out.alloc HB1.out.size (.cells #[.int .i64 0, .int .i64 0, .int .i64 0] 59)
   refine HK.out _ _ ⟨hb,dA,dB,dC,true,d2,d3,vA,vB,vC,_,v2',v3',w'.heap.size,b2,b3, ?_,rfl,rfl,hBA,hCB,eA,eB,eC,fun _ => ⟨rfl,Cells.new w' _ [.int .i64 0, .int .i64 0, .int .i64 0],HB1.out.size⟩,fun h => ⟨(e2 h).1,(e2 h).2.1.alloc _,(e2 h).2.2⟩,fun h => ⟨(e3 h).1,(e3 h).2.1.alloc _,(e3 h).2.2⟩,fun _ h => Nat.ne_of_gt (e2 h).2.1.lt,fun _ h => Nat.ne_of_gt (e3 h).2.1.lt,n23,hb⟩
   omega
  ·refine wpOp_step (o := { dst := some 13,op := Op.alloc 59,type := 0,pos := "ref.go:95",after := #[],guard := none }) rfl (fun K hK => ?_)
   have HK := Lib.hid hK
   clear hK
   go_simp
   obtain ⟨hBA,hCB,eA,eB,eC,e1,e2,e3,n12,n13,n23⟩ := HI.out
   have hn := HN.out
   have hb := HB1.out.alloc HB1.out.size (.cells #[.int .i64 0, .int .i64 0, .int .i64 0] 59)
   refine HK.out _ _ ⟨hb,dA,dB,dC,d1,true,d3,vA,vB,vC,v1',_,v3',b1,w'.heap.size,b3, ?_,rfl,rfl,hBA,hCB,eA,eB,eC,fun h => ⟨(e1 h).1,(e1 h).2.1.alloc _,(e1 h).2.2⟩,fun _ => ⟨rfl,Cells.new w' _ [.int .i64 0, .int .i64 0, .int .i64 0],HB1.out.size⟩,fun h => ⟨(e3 h).1,(e3 h).2.1.alloc _,(e3 h).2.2⟩,fun h _ => Nat.ne_of_lt (e1 h).2.1.lt,n13,fun _ h => Nat.ne_of_gt (e3 h).2.1.lt,hb⟩
   omega
  ·refine wpOp_step (o := { dst := some 14,op := Op.alloc 59,type := 0,pos := "ref.go:95",after := #[],guard := none }) rfl (fun K hK => ?_)
   have HK := Lib.hid hK
   clear hK
   go_simp
   obtain ⟨hBA,hCB,eA,eB,eC,e1,e2,e3,n12,n13,n23⟩ := HI.out
   have hn := HN.out
   have hb := HB1.out.alloc HB1.out.size (.cells #[.int .i64 0, .int .i64 0, .int .i64 0] 59)
   refine HK.out _ _ ⟨hb,dA,dB,dC,d1,d2,true,vA,vB,vC,v1',v2',_,b1,b2,w'.heap.size, ?_,rfl,rfl,hBA,hCB,eA,eB,eC,fun h => ⟨(e1 h).1,(e1 h).2.1.alloc _,(e1 h).2.2⟩,fun h => ⟨(e2 h).1,(e2 h).2.1.alloc _,(e2 h).2.2⟩,fun _ => ⟨rfl,Cells.new w' _ [.int .i64 0, .int .i64 0, .int .i64 0],HB1.out.size⟩,n12,fun h _ => Nat.ne_of_lt (e1 h).2.1.lt,fun h _ => Nat.ne_of_lt (e2 h).2.1.lt,hb⟩
   omega
end Go.Proofs.YtchhbgckonpedaaGreatDoor
/- The reference's look at one link: what its parts use. -/
namespace Go.Proofs.YtchhbgckonpedaaGreatDoor
open Go.ChangeShapes Go.WideShapes Go.ChangeAt Go.RowKit Go.Joins Go.Deep
def LinkIsL (x : LinkD) (w : World) (e : Ending) (w' : World) : Prop := e = .returned (.agg #[.int .u32 x.to, .int .u64 x.wt, .int .u32 x.left, .int .u32 x.right]) ∧ Below w.heap.size w w'
theorem rlink_lit (A : HA) (h : HierD) (i : Nat) (x : LinkD) (w : World) (see : HSee w A h) (hx : linkAt h i = x) (hi : i < h.up.length + h.dn.length) (hd63 : h.dn.length ≤ 1048576) :
  Calls Tryz.prog 29 #[.agg #[.slice A.a0 h.node.length A.c0, .slice A.a1 h.upF.length A.c1, .slice A.a2 h.up.length A.c2, .slice A.a3 h.dnF.length A.c3, .slice A.a4 h.dn.length A.c4], .int .i64 i] w (LinkIsL x w) := rlink_at A h i x w see hx hi hd63
theorem rendof_lit (A : HA) (h : HierD) (i : Nat) (ra : Option Addr) (rc : Nat) (w : World) (see : HSee w A h) (sr : See w ra rc i64Cells 1 (ranksL h)) (u : FirstsOk h.node.length h.upF h.up.length) (d : FirstsOk h.node.length h.dnF h.dn.length) (htot : h.up.length + h.dn.length ≤ 1048576) (hi : i < h.up.length + h.dn.length) :
  Calls Tryz.prog 55 #[.agg #[.slice A.a0 h.node.length A.c0, .slice A.a1 h.upF.length A.c1, .slice A.a2 h.up.length A.c2, .slice A.a3 h.dnF.length A.c3, .slice A.a4 h.dn.length A.c4], .slice ra (ranksL h).length rc, .int .i64 i] w (REndIs ((endsOf h).getD i default) w) := rendof_any A h i ra rc w see sr u d htot hi
theorem rplain_lit (x : LinkD) (w : World) (hx : x.ok) : Calls Tryz.prog 28 #[.agg #[.int .u32 x.to, .int .u64 x.wt, .int .u32 x.left, .int .u32 x.right]] w (BoolIs x.plain w) := rplain_any x w hx
theorem linkAt_ok {A : HA} {h : HierD} {w : World} (see : HSee w A h) (i : Nat) (hi : i < h.up.length + h.dn.length) : (linkAt h i).ok := by
 unfold linkAt
 split
 ·rename_i h1
  rw [List.getD_eq_getElem?_getD,List.getElem?_eq_getElem h1]
  exact see.bup _ (List.getElem_mem h1)
 ·rename_i h1
  rw [List.getD_eq_getElem?_getD,List.getElem?_eq_getElem (by omega)]
  exact see.bdn _ (List.getElem_mem _)
def linkErrD (h : HierD) (i : Nat) : EV := if shapeB h.node.length h.up.length (endsOf h) i = false then .at 4 i 14 else if weightB (endsOf h) i = false then .at 4 i 8 else .nil
def rendCells (x : EndD) : List Value := [.int .i64 x.tail, .int .i64 x.head, .int .i64 x.rank]
def tailAt : Nat → Code → Code
 | 0,c => c
 | k + 1, .seq _ b => tailAt k b
 | _ + 1,c => c
structure LK (A : HA) (h : HierD) (l : LinkD) (w : World) (bl be bD : Nat) (e1 e2 : List Value) (x1 x2 : EV) (wx : World) : Prop where
 l : Cells wx bl 65 (linkCells l)
 x : Cells wx w.heap.size 25 (hierCells A h)
 r : Cells wx (w.heap.size + 1) 36 errZero
 b : Below w.heap.size w wx
 e : Cells wx be 36 e1
 d : Cells wx bD 36 e2
 u : ErrV wx (.agg e1.toArray) x1
 v : ErrV wx (.agg e2.toArray) x2
theorem LK.below {A : HA} {h : HierD} {l : LinkD} {w : World} {bl be bD : Nat} {e1 e2 : List Value} {x1 x2 : EV} {wx wy : World} (k : LK A h l w bl be bD e1 e2 x1 x2 wx) (o : Below wx.heap.size wx wy) : LK A h l w bl be bD e1 e2 x1 x2 wy :=
 ⟨k.l.below o k.l.lt,k.x.below o k.x.lt,k.r.below o k.r.lt,k.b.trans (o.mono k.b.size),k.e.below o k.e.lt,k.d.below o k.d.lt,k.u.below o,k.v.below o⟩
theorem LK.drew {A : HA} {h : HierD} {l : LinkD} {w : World} {bl be bD : Nat} {e1 e2 : List Value} {x1 x2 : EV} {wx : World} (k : LK A h l w bl be bD e1 e2 x1 x2 wx) : LK A h l w bl be bD e1 e2 x1 x2 wx.drew := k.below (Below.refl _ _).drew
theorem copy_r4 {s0 s1 s2 s3 s4 s5 s7 s8 s9 s11 s12 s13 s14 s15 s16 s17 s18 s19 s20 s21 s22 s23 s24 s25 s26 s27 s28 s29 s30 s31 s32 s33 s34 s35 s36 s37 s38 s39 s40 s41 s42 s43 s44 s45 s46 s47 s48 s49 s50 s51 s52 s53 s54 s55 s56 s57 s58 s59 s60 s61 s62 s63 s64 s65 s66 s67 s68 s69 s70 s71 s72 s73 s74 s75 s76 s77 s78 s79 s80 s81 s82 s83 s84 s85 s86 s87 s88 s89 s90 s91 s92 s93 s94 s95 s96 s97 s98 s99 s100 s101 s102 s103 s104 s105 s106 s107 s108 s109 s110 s111 s112 s113 s114 s115 s116 s117 s118 s119 s120 s121 s122 s123 s124 s125 s126 s127 s128 s129 s130 s131 s132 s133 s134 s135 s136 s137 s138 s139 s140 s141 s142 s143 s144 s145 s146 s147 s148 s149 s150 s151 s152 s153 s154 s155 s156 s157 s158 s159 s160 s161 s162 s163 s164 s165 s166 s167 s168 s169 s170 s171 s172 s173 s174 s175 s176 s177 s178 s179 s180 s181 s182 s183 s184 s185 s186 s187 s188 s189 s190 s191 s192 s193 : Value} {b br : Nat} {c : Int} {a : Option Addr} {m cap : Nat} {w : World} {Q : Exit → Act → World → Prop} (he : Cells w b 36 [.int .i64 c, .slice a m cap]) (hr : Cells w br 36 errZero)
  (hQ : Q .normal ⟨#[s0,s1,s2,s3,s4,s5, .pointer (some ⟨br,0,none⟩),s7,s8,s9, .pointer (some ⟨b,0,none⟩),s11,s12,s13,s14,s15,s16,s17,s18,s19,s20,s21,s22,s23,s24,s25,s26,s27,s28,s29,s30,s31,s32,s33,s34,s35,s36,s37,s38,s39,s40,s41,s42,s43,s44,s45,s46,s47,s48, .agg #[.int .i64 c, .slice a m cap],s50,s51,s52,s53,s54,s55,s56,s57,s58,s59,s60,s61,s62,s63,s64,s65,s66,s67,s68,s69,s70,s71,s72,s73,s74,s75,s76,s77,s78,s79,s80,s81,s82,s83,s84,s85,s86,s87,s88,s89,s90,s91,s92,s93,s94,s95,s96,s97,s98,s99,s100,s101,s102,s103,s104,s105,s106,s107,s108,s109,s110,s111,s112,s113,s114,s115,s116,s117,s118,s119,s120,s121,s122,s123,s124,s125,s126,s127,s128,s129,s130,s131,s132,s133,s134,s135,s136,s137,s138,s139,s140,s141,s142,s143,s144,s145,s146,s147,s148,s149,s150,s151,s152,s153,s154,s155,s156,s157,s158,s159,s160,s161,s162,s163,s164,s165,s166,s167,s168,s169,s170,s171,s172,s173,s174,s175,s176,s177,s178,s179,s180,s181,s182,s183,s184,s185,s186,s187,s188,s189,s190,s191,s192,s193], []⟩ ((w.setCell ⟨br,0,none⟩ (.int .i64 c)).setCell ⟨br,1,none⟩ (.slice a m cap))) : Code.wp Tryz.prog ((regionAt 4 linkBody).getD .skip) Q ⟨#[s0,s1,s2,s3,s4,s5, .pointer (some ⟨br,0,none⟩),s7,s8,s9, .pointer (some ⟨b,0,none⟩),s11,s12,s13,s14,s15,s16,s17,s18,s19,s20,s21,s22,s23,s24,s25,s26,s27,s28,s29,s30,s31,s32,s33,s34,s35,s36,s37,s38,s39,s40,s41,s42,s43,s44,s45,s46,s47,s48,s49,s50,s51,s52,s53,s54,s55,s56,s57,s58,s59,s60,s61,s62,s63,s64,s65,s66,s67,s68,s69,s70,s71,s72,s73,s74,s75,s76,s77,s78,s79,s80,s81,s82,s83,s84,s85,s86,s87,s88,s89,s90,s91,s92,s93,s94,s95,s96,s97,s98,s99,s100,s101,s102,s103,s104,s105,s106,s107,s108,s109,s110,s111,s112,s113,s114,s115,s116,s117,s118,s119,s120,s121,s122,s123,s124,s125,s126,s127,s128,s129,s130,s131,s132,s133,s134,s135,s136,s137,s138,s139,s140,s141,s142,s143,s144,s145,s146,s147,s148,s149,s150,s151,s152,s153,s154,s155,s156,s157,s158,s159,s160,s161,s162,s163,s164,s165,s166,s167,s168,s169,s170,s171,s172,s173,s174,s175,s176,s177,s178,s179,s180,s181,s182,s183,s184,s185,s186,s187,s188,s189,s190,s191,s192,s193], []⟩ w := by
 have HQ := Lib.hid hQ
 have y0 : w.cell? ⟨b,0,none⟩ = some (.int .i64 c) := he.cell rfl
 have y1 : w.cell? ⟨b,1,none⟩ = some (.slice a m cap) := he.cell rfl
 have z0 : w.cell? ⟨br,0,none⟩ = some (.int .i64 0) := hr.cell rfl
 have z1 : w.cell? ⟨br,1,none⟩ = some (.slice none 0 0) := hr.cell rfl
 have g0 := hr.frozen 0
 have g1 := hr.frozen 1
 have lr := hr.lt
 clear hQ he hr
 conv => arg 2; whnf
 go_wp2_with fail
 exact HQ.out
theorem copy_r6 {s0 s1 s2 s3 s4 s5 s7 s8 s9 s11 s12 s13 s14 s15 s16 s17 s18 s19 s20 s21 s22 s23 s24 s25 s26 s27 s28 s29 s30 s31 s32 s33 s34 s35 s36 s37 s38 s39 s40 s41 s42 s43 s44 s45 s46 s47 s48 s49 s50 s51 s52 s53 s54 s55 s56 s57 s58 s59 s60 s61 s62 s63 s64 s65 s66 s67 s68 s69 s70 s71 s72 s73 s74 s75 s76 s77 s78 s79 s80 s81 s82 s83 s84 s85 s86 s87 s88 s89 s90 s91 s92 s93 s94 s95 s96 s97 s98 s99 s100 s101 s102 s103 s104 s105 s106 s107 s108 s109 s110 s111 s112 s113 s114 s115 s116 s117 s118 s119 s120 s121 s122 s123 s124 s125 s126 s127 s128 s129 s130 s131 s132 s133 s134 s135 s136 s137 s138 s139 s140 s141 s142 s143 s144 s145 s146 s147 s148 s149 s150 s151 s152 s153 s154 s155 s156 s157 s158 s159 s160 s161 s162 s163 s164 s165 s166 s167 s168 s169 s170 s171 s172 s173 s174 s175 s176 s177 s178 s179 s180 s181 s182 s183 s184 s185 s186 s187 s188 s189 s190 s191 s192 s193 : Value} {b br : Nat} {c : Int} {a : Option Addr} {m cap : Nat} {w : World} {Q : Exit → Act → World → Prop} (he : Cells w b 36 [.int .i64 c, .slice a m cap]) (hr : Cells w br 36 errZero)
  (hQ : Q .normal ⟨#[s0,s1,s2,s3,s4,s5, .pointer (some ⟨br,0,none⟩),s7,s8,s9, .pointer (some ⟨b,0,none⟩),s11,s12,s13,s14,s15,s16,s17,s18,s19,s20,s21,s22,s23,s24,s25,s26,s27,s28,s29,s30,s31,s32,s33,s34,s35,s36,s37,s38,s39,s40,s41,s42,s43,s44,s45,s46,s47,s48,s49,s50,s51,s52,s53,s54,s55,s56,s57,s58,s59,s60,s61,s62,s63,s64,s65,s66,s67,s68,s69,s70,s71,s72,s73,s74,s75,s76,s77,s78,s79,s80, .agg #[.int .i64 c, .slice a m cap],s82,s83,s84,s85,s86,s87,s88,s89,s90,s91,s92,s93,s94,s95,s96,s97,s98,s99,s100,s101,s102,s103,s104,s105,s106,s107,s108,s109,s110,s111,s112,s113,s114,s115,s116,s117,s118,s119,s120,s121,s122,s123,s124,s125,s126,s127,s128,s129,s130,s131,s132,s133,s134,s135,s136,s137,s138,s139,s140,s141,s142,s143,s144,s145,s146,s147,s148,s149,s150,s151,s152,s153,s154,s155,s156,s157,s158,s159,s160,s161,s162,s163,s164,s165,s166,s167,s168,s169,s170,s171,s172,s173,s174,s175,s176,s177,s178,s179,s180,s181,s182,s183,s184,s185,s186,s187,s188,s189,s190,s191,s192,s193], []⟩ ((w.setCell ⟨br,0,none⟩ (.int .i64 c)).setCell ⟨br,1,none⟩ (.slice a m cap))) : Code.wp Tryz.prog ((regionAt 6 linkBody).getD .skip) Q ⟨#[s0,s1,s2,s3,s4,s5, .pointer (some ⟨br,0,none⟩),s7,s8,s9, .pointer (some ⟨b,0,none⟩),s11,s12,s13,s14,s15,s16,s17,s18,s19,s20,s21,s22,s23,s24,s25,s26,s27,s28,s29,s30,s31,s32,s33,s34,s35,s36,s37,s38,s39,s40,s41,s42,s43,s44,s45,s46,s47,s48,s49,s50,s51,s52,s53,s54,s55,s56,s57,s58,s59,s60,s61,s62,s63,s64,s65,s66,s67,s68,s69,s70,s71,s72,s73,s74,s75,s76,s77,s78,s79,s80,s81,s82,s83,s84,s85,s86,s87,s88,s89,s90,s91,s92,s93,s94,s95,s96,s97,s98,s99,s100,s101,s102,s103,s104,s105,s106,s107,s108,s109,s110,s111,s112,s113,s114,s115,s116,s117,s118,s119,s120,s121,s122,s123,s124,s125,s126,s127,s128,s129,s130,s131,s132,s133,s134,s135,s136,s137,s138,s139,s140,s141,s142,s143,s144,s145,s146,s147,s148,s149,s150,s151,s152,s153,s154,s155,s156,s157,s158,s159,s160,s161,s162,s163,s164,s165,s166,s167,s168,s169,s170,s171,s172,s173,s174,s175,s176,s177,s178,s179,s180,s181,s182,s183,s184,s185,s186,s187,s188,s189,s190,s191,s192,s193], []⟩ w := by
 have HQ := Lib.hid hQ
 have y0 : w.cell? ⟨b,0,none⟩ = some (.int .i64 c) := he.cell rfl
 have y1 : w.cell? ⟨b,1,none⟩ = some (.slice a m cap) := he.cell rfl
 have z0 : w.cell? ⟨br,0,none⟩ = some (.int .i64 0) := hr.cell rfl
 have z1 : w.cell? ⟨br,1,none⟩ = some (.slice none 0 0) := hr.cell rfl
 have g0 := hr.frozen 0
 have g1 := hr.frozen 1
 have lr := hr.lt
 clear hQ he hr
 conv => arg 2; whnf
 go_wp2_with fail
 exact HQ.out
theorem copy_r10 {s0 s1 s2 s3 s4 s5 s7 s8 s9 s10 s12 s13 s14 s15 s16 s17 s18 s19 s20 s21 s22 s23 s24 s25 s26 s27 s28 s29 s30 s31 s32 s33 s34 s35 s36 s37 s38 s39 s40 s41 s42 s43 s44 s45 s46 s47 s48 s49 s50 s51 s52 s53 s54 s55 s56 s57 s58 s59 s60 s61 s62 s63 s64 s65 s66 s67 s68 s69 s70 s71 s72 s73 s74 s75 s76 s77 s78 s79 s80 s81 s82 s83 s84 s85 s86 s87 s88 s89 s90 s91 s92 s93 s94 s95 s96 s97 s98 s99 s100 s101 s102 s103 s104 s105 s106 s107 s108 s109 s110 s111 s112 s113 s114 s115 s116 s117 s118 s119 s120 s121 s122 s123 s124 s125 s126 s127 s128 s129 s130 s131 s132 s133 s134 s135 s136 s137 s138 s139 s140 s141 s142 s143 s144 s145 s146 s147 s148 s149 s150 s151 s152 s153 s154 s155 s156 s157 s158 s159 s160 s161 s162 s163 s164 s165 s166 s167 s168 s169 s170 s171 s172 s173 s174 s175 s176 s177 s178 s179 s180 s181 s182 s183 s184 s185 s186 s187 s188 s189 s190 s191 s192 s193 : Value} {b br : Nat} {c : Int} {a : Option Addr} {m cap : Nat} {w : World} {Q : Exit → Act → World → Prop} (he : Cells w b 36 [.int .i64 c, .slice a m cap]) (hr : Cells w br 36 errZero)
  (hQ : Q .normal ⟨#[s0,s1,s2,s3,s4,s5, .pointer (some ⟨br,0,none⟩),s7,s8,s9,s10, .pointer (some ⟨b,0,none⟩),s12,s13,s14,s15,s16,s17,s18,s19,s20,s21,s22,s23,s24,s25,s26,s27,s28,s29,s30,s31,s32,s33,s34,s35,s36,s37,s38,s39,s40,s41,s42,s43,s44,s45,s46,s47,s48,s49,s50,s51,s52,s53,s54,s55,s56,s57,s58,s59,s60,s61,s62,s63,s64,s65,s66,s67,s68,s69,s70,s71,s72,s73,s74,s75,s76,s77,s78,s79,s80,s81,s82,s83,s84,s85,s86,s87,s88,s89, .agg #[.int .i64 c, .slice a m cap],s91,s92,s93,s94,s95,s96,s97,s98,s99,s100,s101,s102,s103,s104,s105,s106,s107,s108,s109,s110,s111,s112,s113,s114,s115,s116,s117,s118,s119,s120,s121,s122,s123,s124,s125,s126,s127,s128,s129,s130,s131,s132,s133,s134,s135,s136,s137,s138,s139,s140,s141,s142,s143,s144,s145,s146,s147,s148,s149,s150,s151,s152,s153,s154,s155,s156,s157,s158,s159,s160,s161,s162,s163,s164,s165,s166,s167,s168,s169,s170,s171,s172,s173,s174,s175,s176,s177,s178,s179,s180,s181,s182,s183,s184,s185,s186,s187,s188,s189,s190,s191,s192,s193], []⟩ ((w.setCell ⟨br,0,none⟩ (.int .i64 c)).setCell ⟨br,1,none⟩ (.slice a m cap))) : Code.wp Tryz.prog ((regionAt 10 linkBody).getD .skip) Q ⟨#[s0,s1,s2,s3,s4,s5, .pointer (some ⟨br,0,none⟩),s7,s8,s9,s10, .pointer (some ⟨b,0,none⟩),s12,s13,s14,s15,s16,s17,s18,s19,s20,s21,s22,s23,s24,s25,s26,s27,s28,s29,s30,s31,s32,s33,s34,s35,s36,s37,s38,s39,s40,s41,s42,s43,s44,s45,s46,s47,s48,s49,s50,s51,s52,s53,s54,s55,s56,s57,s58,s59,s60,s61,s62,s63,s64,s65,s66,s67,s68,s69,s70,s71,s72,s73,s74,s75,s76,s77,s78,s79,s80,s81,s82,s83,s84,s85,s86,s87,s88,s89,s90,s91,s92,s93,s94,s95,s96,s97,s98,s99,s100,s101,s102,s103,s104,s105,s106,s107,s108,s109,s110,s111,s112,s113,s114,s115,s116,s117,s118,s119,s120,s121,s122,s123,s124,s125,s126,s127,s128,s129,s130,s131,s132,s133,s134,s135,s136,s137,s138,s139,s140,s141,s142,s143,s144,s145,s146,s147,s148,s149,s150,s151,s152,s153,s154,s155,s156,s157,s158,s159,s160,s161,s162,s163,s164,s165,s166,s167,s168,s169,s170,s171,s172,s173,s174,s175,s176,s177,s178,s179,s180,s181,s182,s183,s184,s185,s186,s187,s188,s189,s190,s191,s192,s193], []⟩ w := by
 have HQ := Lib.hid hQ
 have y0 : w.cell? ⟨b,0,none⟩ = some (.int .i64 c) := he.cell rfl
 have y1 : w.cell? ⟨b,1,none⟩ = some (.slice a m cap) := he.cell rfl
 have z0 : w.cell? ⟨br,0,none⟩ = some (.int .i64 0) := hr.cell rfl
 have z1 : w.cell? ⟨br,1,none⟩ = some (.slice none 0 0) := hr.cell rfl
 have g0 := hr.frozen 0
 have g1 := hr.frozen 1
 have lr := hr.lt
 clear hQ he hr
 conv => arg 2; whnf
 go_wp2_with fail
 exact HQ.out
theorem copy_r13 {s0 s1 s2 s3 s4 s5 s7 s8 s9 s11 s12 s13 s14 s15 s16 s17 s18 s19 s20 s21 s22 s23 s24 s25 s26 s27 s28 s29 s30 s31 s32 s33 s34 s35 s36 s37 s38 s39 s40 s41 s42 s43 s44 s45 s46 s47 s48 s49 s50 s51 s52 s53 s54 s55 s56 s57 s58 s59 s60 s61 s62 s63 s64 s65 s66 s67 s68 s69 s70 s71 s72 s73 s74 s75 s76 s77 s78 s79 s80 s81 s82 s83 s84 s85 s86 s87 s88 s89 s90 s91 s92 s93 s94 s95 s96 s97 s98 s99 s100 s101 s102 s103 s104 s105 s106 s107 s108 s109 s110 s111 s112 s113 s114 s115 s116 s117 s118 s119 s120 s121 s122 s123 s124 s125 s126 s127 s128 s129 s130 s131 s132 s133 s134 s135 s136 s137 s138 s139 s140 s141 s142 s143 s144 s145 s146 s147 s148 s149 s150 s151 s152 s153 s154 s155 s156 s157 s158 s159 s160 s161 s162 s163 s164 s165 s166 s167 s168 s169 s170 s171 s172 s173 s174 s175 s176 s177 s178 s179 s180 s181 s182 s183 s184 s185 s186 s187 s188 s189 s190 s191 s192 s193 : Value} {b br : Nat} {c : Int} {a : Option Addr} {m cap : Nat} {w : World} {Q : Exit → Act → World → Prop} (he : Cells w b 36 [.int .i64 c, .slice a m cap]) (hr : Cells w br 36 errZero)
  (hQ : Q .normal ⟨#[s0,s1,s2,s3,s4,s5, .pointer (some ⟨br,0,none⟩),s7,s8,s9, .pointer (some ⟨b,0,none⟩),s11,s12,s13,s14,s15,s16,s17,s18,s19,s20,s21,s22,s23,s24,s25,s26,s27,s28,s29,s30,s31,s32,s33,s34,s35,s36,s37,s38,s39,s40,s41,s42,s43,s44,s45,s46,s47,s48,s49,s50,s51,s52,s53,s54,s55,s56,s57,s58,s59,s60,s61,s62,s63,s64,s65,s66,s67,s68,s69,s70,s71,s72,s73,s74,s75,s76,s77,s78,s79,s80,s81,s82,s83,s84,s85,s86,s87,s88,s89,s90,s91,s92,s93,s94,s95,s96,s97,s98,s99,s100,s101,s102,s103,s104,s105,s106,s107,s108,s109,s110,s111,s112,s113,s114,s115,s116,s117,s118,s119,s120,s121,s122,s123, .agg #[.int .i64 c, .slice a m cap],s125,s126,s127,s128,s129,s130,s131,s132,s133,s134,s135,s136,s137,s138,s139,s140,s141,s142,s143,s144,s145,s146,s147,s148,s149,s150,s151,s152,s153,s154,s155,s156,s157,s158,s159,s160,s161,s162,s163,s164,s165,s166,s167,s168,s169,s170,s171,s172,s173,s174,s175,s176,s177,s178,s179,s180,s181,s182,s183,s184,s185,s186,s187,s188,s189,s190,s191,s192,s193], []⟩ ((w.setCell ⟨br,0,none⟩ (.int .i64 c)).setCell ⟨br,1,none⟩ (.slice a m cap))) : Code.wp Tryz.prog ((regionAt 13 linkBody).getD .skip) Q ⟨#[s0,s1,s2,s3,s4,s5, .pointer (some ⟨br,0,none⟩),s7,s8,s9, .pointer (some ⟨b,0,none⟩),s11,s12,s13,s14,s15,s16,s17,s18,s19,s20,s21,s22,s23,s24,s25,s26,s27,s28,s29,s30,s31,s32,s33,s34,s35,s36,s37,s38,s39,s40,s41,s42,s43,s44,s45,s46,s47,s48,s49,s50,s51,s52,s53,s54,s55,s56,s57,s58,s59,s60,s61,s62,s63,s64,s65,s66,s67,s68,s69,s70,s71,s72,s73,s74,s75,s76,s77,s78,s79,s80,s81,s82,s83,s84,s85,s86,s87,s88,s89,s90,s91,s92,s93,s94,s95,s96,s97,s98,s99,s100,s101,s102,s103,s104,s105,s106,s107,s108,s109,s110,s111,s112,s113,s114,s115,s116,s117,s118,s119,s120,s121,s122,s123,s124,s125,s126,s127,s128,s129,s130,s131,s132,s133,s134,s135,s136,s137,s138,s139,s140,s141,s142,s143,s144,s145,s146,s147,s148,s149,s150,s151,s152,s153,s154,s155,s156,s157,s158,s159,s160,s161,s162,s163,s164,s165,s166,s167,s168,s169,s170,s171,s172,s173,s174,s175,s176,s177,s178,s179,s180,s181,s182,s183,s184,s185,s186,s187,s188,s189,s190,s191,s192,s193], []⟩ w := by
 have HQ := Lib.hid hQ
 have y0 : w.cell? ⟨b,0,none⟩ = some (.int .i64 c) := he.cell rfl
 have y1 : w.cell? ⟨b,1,none⟩ = some (.slice a m cap) := he.cell rfl
 have z0 : w.cell? ⟨br,0,none⟩ = some (.int .i64 0) := hr.cell rfl
 have z1 : w.cell? ⟨br,1,none⟩ = some (.slice none 0 0) := hr.cell rfl
 have g0 := hr.frozen 0
 have g1 := hr.frozen 1
 have lr := hr.lt
 clear hQ he hr
 conv => arg 2; whnf
 go_wp2_with fail
 exact HQ.out
theorem copy_r16 {s0 s1 s2 s3 s4 s5 s7 s8 s9 s11 s12 s13 s14 s15 s16 s17 s18 s19 s20 s21 s22 s23 s24 s25 s26 s27 s28 s29 s30 s31 s32 s33 s34 s35 s36 s37 s38 s39 s40 s41 s42 s43 s44 s45 s46 s47 s48 s49 s50 s51 s52 s53 s54 s55 s56 s57 s58 s59 s60 s61 s62 s63 s64 s65 s66 s67 s68 s69 s70 s71 s72 s73 s74 s75 s76 s77 s78 s79 s80 s81 s82 s83 s84 s85 s86 s87 s88 s89 s90 s91 s92 s93 s94 s95 s96 s97 s98 s99 s100 s101 s102 s103 s104 s105 s106 s107 s108 s109 s110 s111 s112 s113 s114 s115 s116 s117 s118 s119 s120 s121 s122 s123 s124 s125 s126 s127 s128 s129 s130 s131 s132 s133 s134 s135 s136 s137 s138 s139 s140 s141 s142 s143 s144 s145 s146 s147 s148 s149 s150 s151 s152 s153 s154 s155 s156 s157 s158 s159 s160 s161 s162 s163 s164 s165 s166 s167 s168 s169 s170 s171 s172 s173 s174 s175 s176 s177 s178 s179 s180 s181 s182 s183 s184 s185 s186 s187 s188 s189 s190 s191 s192 s193 : Value} {b br : Nat} {c : Int} {a : Option Addr} {m cap : Nat} {w : World} {Q : Exit → Act → World → Prop} (he : Cells w b 36 [.int .i64 c, .slice a m cap]) (hr : Cells w br 36 errZero)
  (hQ : Q .normal ⟨#[s0,s1,s2,s3,s4,s5, .pointer (some ⟨br,0,none⟩),s7,s8,s9, .pointer (some ⟨b,0,none⟩),s11,s12,s13,s14,s15,s16,s17,s18,s19,s20,s21,s22,s23,s24,s25,s26,s27,s28,s29,s30,s31,s32,s33,s34,s35,s36,s37,s38,s39,s40,s41,s42,s43,s44,s45,s46,s47,s48,s49,s50,s51,s52,s53,s54,s55,s56,s57,s58,s59,s60,s61,s62,s63,s64,s65,s66,s67,s68,s69,s70,s71,s72,s73,s74,s75,s76,s77,s78,s79,s80,s81,s82,s83,s84,s85,s86,s87,s88,s89,s90,s91,s92,s93,s94,s95,s96,s97,s98,s99,s100,s101,s102,s103,s104,s105,s106,s107,s108,s109,s110,s111,s112,s113,s114,s115,s116,s117,s118,s119,s120,s121,s122,s123,s124,s125,s126,s127,s128,s129,s130,s131,s132,s133,s134,s135,s136,s137,s138,s139,s140,s141,s142,s143,s144,s145,s146,s147,s148,s149,s150,s151,s152,s153,s154,s155,s156,s157,s158,s159, .agg #[.int .i64 c, .slice a m cap],s161,s162,s163,s164,s165,s166,s167,s168,s169,s170,s171,s172,s173,s174,s175,s176,s177,s178,s179,s180,s181,s182,s183,s184,s185,s186,s187,s188,s189,s190,s191,s192,s193], []⟩ ((w.setCell ⟨br,0,none⟩ (.int .i64 c)).setCell ⟨br,1,none⟩ (.slice a m cap))) : Code.wp Tryz.prog ((regionAt 16 linkBody).getD .skip) Q ⟨#[s0,s1,s2,s3,s4,s5, .pointer (some ⟨br,0,none⟩),s7,s8,s9, .pointer (some ⟨b,0,none⟩),s11,s12,s13,s14,s15,s16,s17,s18,s19,s20,s21,s22,s23,s24,s25,s26,s27,s28,s29,s30,s31,s32,s33,s34,s35,s36,s37,s38,s39,s40,s41,s42,s43,s44,s45,s46,s47,s48,s49,s50,s51,s52,s53,s54,s55,s56,s57,s58,s59,s60,s61,s62,s63,s64,s65,s66,s67,s68,s69,s70,s71,s72,s73,s74,s75,s76,s77,s78,s79,s80,s81,s82,s83,s84,s85,s86,s87,s88,s89,s90,s91,s92,s93,s94,s95,s96,s97,s98,s99,s100,s101,s102,s103,s104,s105,s106,s107,s108,s109,s110,s111,s112,s113,s114,s115,s116,s117,s118,s119,s120,s121,s122,s123,s124,s125,s126,s127,s128,s129,s130,s131,s132,s133,s134,s135,s136,s137,s138,s139,s140,s141,s142,s143,s144,s145,s146,s147,s148,s149,s150,s151,s152,s153,s154,s155,s156,s157,s158,s159,s160,s161,s162,s163,s164,s165,s166,s167,s168,s169,s170,s171,s172,s173,s174,s175,s176,s177,s178,s179,s180,s181,s182,s183,s184,s185,s186,s187,s188,s189,s190,s191,s192,s193], []⟩ w := by
 have HQ := Lib.hid hQ
 have y0 : w.cell? ⟨b,0,none⟩ = some (.int .i64 c) := he.cell rfl
 have y1 : w.cell? ⟨b,1,none⟩ = some (.slice a m cap) := he.cell rfl
 have z0 : w.cell? ⟨br,0,none⟩ = some (.int .i64 0) := hr.cell rfl
 have z1 : w.cell? ⟨br,1,none⟩ = some (.slice none 0 0) := hr.cell rfl
 have g0 := hr.frozen 0
 have g1 := hr.frozen 1
 have lr := hr.lt
 clear hQ he hr
 conv => arg 2; whnf
 go_wp2_with fail
 exact HQ.out
theorem copy_r19 {s0 s1 s2 s3 s4 s5 s7 s8 s9 s10 s12 s13 s14 s15 s16 s17 s18 s19 s20 s21 s22 s23 s24 s25 s26 s27 s28 s29 s30 s31 s32 s33 s34 s35 s36 s37 s38 s39 s40 s41 s42 s43 s44 s45 s46 s47 s48 s49 s50 s51 s52 s53 s54 s55 s56 s57 s58 s59 s60 s61 s62 s63 s64 s65 s66 s67 s68 s69 s70 s71 s72 s73 s74 s75 s76 s77 s78 s79 s80 s81 s82 s83 s84 s85 s86 s87 s88 s89 s90 s91 s92 s93 s94 s95 s96 s97 s98 s99 s100 s101 s102 s103 s104 s105 s106 s107 s108 s109 s110 s111 s112 s113 s114 s115 s116 s117 s118 s119 s120 s121 s122 s123 s124 s125 s126 s127 s128 s129 s130 s131 s132 s133 s134 s135 s136 s137 s138 s139 s140 s141 s142 s143 s144 s145 s146 s147 s148 s149 s150 s151 s152 s153 s154 s155 s156 s157 s158 s159 s160 s161 s162 s163 s164 s165 s166 s167 s168 s169 s170 s171 s172 s173 s174 s175 s176 s177 s178 s179 s180 s181 s182 s183 s184 s185 s186 s187 s188 s189 s190 s191 s192 s193 : Value} {b br : Nat} {c : Int} {a : Option Addr} {m cap : Nat} {w : World} {Q : Exit → Act → World → Prop} (he : Cells w b 36 [.int .i64 c, .slice a m cap]) (hr : Cells w br 36 errZero)
  (hQ : Q .normal ⟨#[s0,s1,s2,s3,s4,s5, .pointer (some ⟨br,0,none⟩),s7,s8,s9,s10, .pointer (some ⟨b,0,none⟩),s12,s13,s14,s15,s16,s17,s18,s19,s20,s21,s22,s23,s24,s25,s26,s27,s28,s29,s30,s31,s32,s33,s34,s35,s36,s37,s38,s39,s40,s41,s42,s43,s44,s45,s46,s47,s48,s49,s50,s51,s52,s53,s54,s55,s56,s57,s58,s59,s60,s61,s62,s63,s64,s65,s66,s67,s68,s69,s70,s71,s72,s73,s74,s75,s76,s77,s78,s79,s80,s81,s82,s83,s84,s85,s86,s87,s88,s89,s90,s91,s92,s93,s94,s95,s96,s97,s98,s99,s100,s101,s102,s103,s104,s105,s106,s107,s108,s109,s110,s111,s112,s113,s114,s115,s116,s117,s118,s119,s120,s121,s122,s123,s124,s125,s126,s127,s128,s129,s130,s131,s132,s133,s134,s135,s136,s137,s138,s139,s140,s141,s142,s143,s144,s145,s146,s147,s148,s149,s150,s151,s152,s153,s154,s155,s156,s157,s158,s159,s160,s161,s162,s163,s164,s165,s166,s167,s168,s169,s170,s171,s172,s173,s174,s175,s176,s177,s178,s179,s180,s181,s182,s183,s184,s185,s186,s187,s188,s189,s190,s191, .agg #[.int .i64 c, .slice a m cap],s193], []⟩ ((w.setCell ⟨br,0,none⟩ (.int .i64 c)).setCell ⟨br,1,none⟩ (.slice a m cap))) : Code.wp Tryz.prog ((regionAt 19 linkBody).getD .skip) Q ⟨#[s0,s1,s2,s3,s4,s5, .pointer (some ⟨br,0,none⟩),s7,s8,s9,s10, .pointer (some ⟨b,0,none⟩),s12,s13,s14,s15,s16,s17,s18,s19,s20,s21,s22,s23,s24,s25,s26,s27,s28,s29,s30,s31,s32,s33,s34,s35,s36,s37,s38,s39,s40,s41,s42,s43,s44,s45,s46,s47,s48,s49,s50,s51,s52,s53,s54,s55,s56,s57,s58,s59,s60,s61,s62,s63,s64,s65,s66,s67,s68,s69,s70,s71,s72,s73,s74,s75,s76,s77,s78,s79,s80,s81,s82,s83,s84,s85,s86,s87,s88,s89,s90,s91,s92,s93,s94,s95,s96,s97,s98,s99,s100,s101,s102,s103,s104,s105,s106,s107,s108,s109,s110,s111,s112,s113,s114,s115,s116,s117,s118,s119,s120,s121,s122,s123,s124,s125,s126,s127,s128,s129,s130,s131,s132,s133,s134,s135,s136,s137,s138,s139,s140,s141,s142,s143,s144,s145,s146,s147,s148,s149,s150,s151,s152,s153,s154,s155,s156,s157,s158,s159,s160,s161,s162,s163,s164,s165,s166,s167,s168,s169,s170,s171,s172,s173,s174,s175,s176,s177,s178,s179,s180,s181,s182,s183,s184,s185,s186,s187,s188,s189,s190,s191,s192,s193], []⟩ w := by
 have HQ := Lib.hid hQ
 have y0 : w.cell? ⟨b,0,none⟩ = some (.int .i64 c) := he.cell rfl
 have y1 : w.cell? ⟨b,1,none⟩ = some (.slice a m cap) := he.cell rfl
 have z0 : w.cell? ⟨br,0,none⟩ = some (.int .i64 0) := hr.cell rfl
 have z1 : w.cell? ⟨br,1,none⟩ = some (.slice none 0 0) := hr.cell rfl
 have g0 := hr.frozen 0
 have g1 := hr.frozen 1
 have lr := hr.lt
 clear hQ he hr
 conv => arg 2; whnf
 go_wp2_with fail
 exact HQ.out
theorem zero_r11 {s0 s1 s2 s3 s4 s5 s7 s8 s9 s10 s11 s12 s13 s14 s15 s16 s17 s18 s19 s20 s21 s22 s23 s24 s25 s26 s27 s28 s29 s30 s31 s32 s33 s34 s35 s36 s37 s38 s39 s40 s41 s42 s43 s44 s45 s46 s47 s48 s49 s50 s51 s52 s53 s54 s55 s56 s57 s58 s59 s60 s61 s62 s63 s64 s65 s66 s67 s68 s69 s70 s71 s72 s73 s74 s75 s76 s77 s78 s79 s80 s81 s82 s83 s84 s85 s86 s87 s88 s89 s90 s91 s92 s93 s94 s95 s96 s97 s98 s99 s100 s101 s102 s103 s104 s105 s106 s107 s108 s109 s110 s111 s112 s113 s114 s115 s116 s117 s118 s119 s120 s121 s122 s123 s124 s125 s126 s127 s128 s129 s130 s131 s132 s133 s134 s135 s136 s137 s138 s139 s140 s141 s142 s143 s144 s145 s146 s147 s148 s149 s150 s151 s152 s153 s154 s155 s156 s157 s158 s159 s160 s161 s162 s163 s164 s165 s166 s167 s168 s169 s170 s171 s172 s173 s174 s175 s176 s177 s178 s179 s180 s181 s182 s183 s184 s185 s186 s187 s188 s189 s190 s191 s192 s193 : Value} {br : Nat} {w : World} {Q : Exit → Act → World → Prop} (hr : Cells w br 36 errZero)
  (hQ : Q .normal ⟨#[s0,s1,s2,s3,s4,s5, .pointer (some ⟨br,0,none⟩),s7,s8,s9,s10,s11,s12,s13,s14,s15,s16,s17,s18,s19,s20,s21,s22,s23,s24,s25,s26,s27,s28,s29,s30,s31,s32,s33,s34,s35,s36,s37,s38,s39,s40,s41,s42,s43,s44,s45,s46,s47,s48,s49,s50,s51,s52,s53,s54,s55,s56,s57,s58,s59,s60,s61,s62,s63,s64,s65,s66,s67,s68,s69,s70,s71,s72,s73,s74,s75,s76,s77,s78,s79,s80,s81,s82,s83,s84,s85,s86,s87,s88,s89,s90, .agg #[.int .i64 0, .slice none 0 0],s92,s93,s94,s95,s96,s97,s98,s99,s100,s101,s102,s103,s104,s105,s106,s107,s108,s109,s110,s111,s112,s113,s114,s115,s116,s117,s118,s119,s120,s121,s122,s123,s124,s125,s126,s127,s128,s129,s130,s131,s132,s133,s134,s135,s136,s137,s138,s139,s140,s141,s142,s143,s144,s145,s146,s147,s148,s149,s150,s151,s152,s153,s154,s155,s156,s157,s158,s159,s160,s161,s162,s163,s164,s165,s166,s167,s168,s169,s170,s171,s172,s173,s174,s175,s176,s177,s178,s179,s180,s181,s182,s183,s184,s185,s186,s187,s188,s189,s190,s191,s192,s193], []⟩ ((w.setCell ⟨br,0,none⟩ (.int .i64 0)).setCell ⟨br,1,none⟩ (.slice none 0 0))) : Code.wp Tryz.prog ((regionAt 11 linkBody).getD .skip) Q ⟨#[s0,s1,s2,s3,s4,s5, .pointer (some ⟨br,0,none⟩),s7,s8,s9,s10,s11,s12,s13,s14,s15,s16,s17,s18,s19,s20,s21,s22,s23,s24,s25,s26,s27,s28,s29,s30,s31,s32,s33,s34,s35,s36,s37,s38,s39,s40,s41,s42,s43,s44,s45,s46,s47,s48,s49,s50,s51,s52,s53,s54,s55,s56,s57,s58,s59,s60,s61,s62,s63,s64,s65,s66,s67,s68,s69,s70,s71,s72,s73,s74,s75,s76,s77,s78,s79,s80,s81,s82,s83,s84,s85,s86,s87,s88,s89,s90,s91,s92,s93,s94,s95,s96,s97,s98,s99,s100,s101,s102,s103,s104,s105,s106,s107,s108,s109,s110,s111,s112,s113,s114,s115,s116,s117,s118,s119,s120,s121,s122,s123,s124,s125,s126,s127,s128,s129,s130,s131,s132,s133,s134,s135,s136,s137,s138,s139,s140,s141,s142,s143,s144,s145,s146,s147,s148,s149,s150,s151,s152,s153,s154,s155,s156,s157,s158,s159,s160,s161,s162,s163,s164,s165,s166,s167,s168,s169,s170,s171,s172,s173,s174,s175,s176,s177,s178,s179,s180,s181,s182,s183,s184,s185,s186,s187,s188,s189,s190,s191,s192,s193], []⟩ w := by
 have HQ := Lib.hid hQ
 have z0 : w.cell? ⟨br,0,none⟩ = some (.int .i64 0) := hr.cell rfl
 have z1 : w.cell? ⟨br,1,none⟩ = some (.slice none 0 0) := hr.cell rfl
 have g0 := hr.frozen 0
 have g1 := hr.frozen 1
 have lr := hr.lt
 clear hQ hr
 conv => arg 2; whnf
 go_wp2_with fail
 exact HQ.out
theorem zero_r20 {s0 s1 s2 s3 s4 s5 s7 s8 s9 s10 s11 s12 s13 s14 s15 s16 s17 s18 s19 s20 s21 s22 s23 s24 s25 s26 s27 s28 s29 s30 s31 s32 s33 s34 s35 s36 s37 s38 s39 s40 s41 s42 s43 s44 s45 s46 s47 s48 s49 s50 s51 s52 s53 s54 s55 s56 s57 s58 s59 s60 s61 s62 s63 s64 s65 s66 s67 s68 s69 s70 s71 s72 s73 s74 s75 s76 s77 s78 s79 s80 s81 s82 s83 s84 s85 s86 s87 s88 s89 s90 s91 s92 s93 s94 s95 s96 s97 s98 s99 s100 s101 s102 s103 s104 s105 s106 s107 s108 s109 s110 s111 s112 s113 s114 s115 s116 s117 s118 s119 s120 s121 s122 s123 s124 s125 s126 s127 s128 s129 s130 s131 s132 s133 s134 s135 s136 s137 s138 s139 s140 s141 s142 s143 s144 s145 s146 s147 s148 s149 s150 s151 s152 s153 s154 s155 s156 s157 s158 s159 s160 s161 s162 s163 s164 s165 s166 s167 s168 s169 s170 s171 s172 s173 s174 s175 s176 s177 s178 s179 s180 s181 s182 s183 s184 s185 s186 s187 s188 s189 s190 s191 s192 s193 : Value} {br : Nat} {w : World} {Q : Exit → Act → World → Prop} (hr : Cells w br 36 errZero)
  (hQ : Q .normal ⟨#[s0,s1,s2,s3,s4,s5, .pointer (some ⟨br,0,none⟩),s7,s8,s9,s10,s11,s12,s13,s14,s15,s16,s17,s18,s19,s20,s21,s22,s23,s24,s25,s26,s27,s28,s29,s30,s31,s32,s33,s34,s35,s36,s37,s38,s39,s40,s41,s42,s43,s44,s45,s46,s47,s48,s49,s50,s51,s52,s53,s54,s55,s56,s57,s58,s59,s60,s61,s62,s63,s64,s65,s66,s67,s68,s69,s70,s71,s72,s73,s74,s75,s76,s77,s78,s79,s80,s81,s82,s83,s84,s85,s86,s87,s88,s89,s90,s91,s92,s93,s94,s95,s96,s97,s98,s99,s100,s101,s102,s103,s104,s105,s106,s107,s108,s109,s110,s111,s112,s113,s114,s115,s116,s117,s118,s119,s120,s121,s122,s123,s124,s125,s126,s127,s128,s129,s130,s131,s132,s133,s134,s135,s136,s137,s138,s139,s140,s141,s142,s143,s144,s145,s146,s147,s148,s149,s150,s151,s152,s153,s154,s155,s156,s157,s158,s159,s160,s161,s162,s163,s164,s165,s166,s167,s168,s169,s170,s171,s172,s173,s174,s175,s176,s177,s178,s179,s180,s181,s182,s183,s184,s185,s186,s187,s188,s189,s190,s191,s192, .agg #[.int .i64 0, .slice none 0 0]], []⟩ ((w.setCell ⟨br,0,none⟩ (.int .i64 0)).setCell ⟨br,1,none⟩ (.slice none 0 0))) : Code.wp Tryz.prog ((regionAt 20 linkBody).getD .skip) Q ⟨#[s0,s1,s2,s3,s4,s5, .pointer (some ⟨br,0,none⟩),s7,s8,s9,s10,s11,s12,s13,s14,s15,s16,s17,s18,s19,s20,s21,s22,s23,s24,s25,s26,s27,s28,s29,s30,s31,s32,s33,s34,s35,s36,s37,s38,s39,s40,s41,s42,s43,s44,s45,s46,s47,s48,s49,s50,s51,s52,s53,s54,s55,s56,s57,s58,s59,s60,s61,s62,s63,s64,s65,s66,s67,s68,s69,s70,s71,s72,s73,s74,s75,s76,s77,s78,s79,s80,s81,s82,s83,s84,s85,s86,s87,s88,s89,s90,s91,s92,s93,s94,s95,s96,s97,s98,s99,s100,s101,s102,s103,s104,s105,s106,s107,s108,s109,s110,s111,s112,s113,s114,s115,s116,s117,s118,s119,s120,s121,s122,s123,s124,s125,s126,s127,s128,s129,s130,s131,s132,s133,s134,s135,s136,s137,s138,s139,s140,s141,s142,s143,s144,s145,s146,s147,s148,s149,s150,s151,s152,s153,s154,s155,s156,s157,s158,s159,s160,s161,s162,s163,s164,s165,s166,s167,s168,s169,s170,s171,s172,s173,s174,s175,s176,s177,s178,s179,s180,s181,s182,s183,s184,s185,s186,s187,s188,s189,s190,s191,s192,s193], []⟩ w := by
 have HQ := Lib.hid hQ
 have z0 : w.cell? ⟨br,0,none⟩ = some (.int .i64 0) := hr.cell rfl
 have z1 : w.cell? ⟨br,1,none⟩ = some (.slice none 0 0) := hr.cell rfl
 have g0 := hr.frozen 0
 have g1 := hr.frozen 1
 have lr := hr.lt
 clear hQ hr
 conv => arg 2; whnf
 go_wp2_with fail
 exact HQ.out
end Go.Proofs.YtchhbgckonpedaaGreatDoor
/- The reference's look at one link: its weights. -/
namespace Go.Proofs.YtchhbgckonpedaaGreatDoor
open Go.ChangeShapes Go.WideShapes Go.ChangeAt Go.RowKit Go.Joins Go.Deep
theorem link_w {s0 s1 s2 s3 s4 s5 s8 s9 s10 s12 s13 s14 s17 s18 s19 s20 s21 s22 s23 s24 s25 s26 s27 s28 s29 s30 s31 s32 s33 s34 s35 s36 s37 s38 s39 s40 s41 s42 s43 s44 s45 s46 s47 s48 s49 s50 s51 s52 s53 s54 s55 s56 s57 s58 s59 s60 s61 s62 s63 s64 s65 s66 s67 s68 s69 s70 s71 s72 s73 s74 s75 s76 s77 s78 s79 s80 s81 s82 s83 s84 s85 s86 s87 s88 s89 s90 s91 s92 s93 s94 s95 s96 s97 s98 s99 s100 s101 s102 s103 s104 s105 s106 s107 s108 s109 s110 s111 s112 s113 s114 s115 s116 s117 s118 s119 s120 s121 s122 s123 s124 s125 s126 s127 s128 s129 s130 s131 s132 s133 s134 s135 s136 s137 s138 s139 s140 s141 s142 s143 s144 s145 s146 s147 s148 s149 s150 s151 s152 s153 s154 s155 s156 s157 s158 s159 s160 s161 s162 s163 s164 s165 s166 s167 s168 s169 s170 s171 s172 s173 s174 s175 s176 s177 s178 s179 s180 s181 s182 s183 s184 s185 s186 s187 s188 s189 s190 s191 s192 s193 : Value} {A : HA} {h : HierD} {l : LinkD} {w wx : World} {bl be bD : Nat} {uc vc : Int} {ua va : Option Addr} {un ucap vn vcap : Nat} {x1 x2 E : EV} {zw vw : Nat} (k : LK A h l w bl be bD [.int .i64 uc, .slice ua un ucap] [.int .i64 vc, .slice va vn vcap] x1 x2 wx)
  (hE : E = if l.wt ≤ 140737488355328 ∧ zw ≤ 140737488355328 ∧ vw ≤ 140737488355328 ∧ zw + vw = l.wt then .nil else x2) :
  Code.wp Tryz.prog (tailAt 11 linkBody) (bodyPost Tryz.prog Tryz.f54 (ErrNew E w)) ⟨#[s0,s1,s2,s3,s4,s5, .pointer (some ⟨(w.heap.size + 1),0,none⟩), .pointer (some ⟨bl,0,none⟩),s8,s9,s10, .pointer (some ⟨bD,0,none⟩),s12,s13,s14, .int .u64 (zw : Nat), .int .u64 (vw : Nat),s17,s18,s19,s20,s21,s22,s23,s24,s25,s26,s27,s28,s29,s30,s31,s32,s33,s34,s35,s36,s37,s38,s39,s40,s41,s42,s43,s44,s45,s46,s47,s48,s49,s50,s51,s52,s53,s54,s55,s56,s57,s58,s59,s60,s61,s62,s63,s64,s65,s66,s67,s68,s69,s70,s71,s72,s73,s74,s75,s76,s77,s78,s79,s80,s81,s82,s83,s84,s85,s86,s87,s88,s89,s90,s91,s92,s93,s94,s95,s96,s97,s98,s99,s100,s101,s102,s103,s104,s105,s106,s107,s108,s109,s110,s111,s112,s113,s114,s115,s116,s117,s118,s119,s120,s121,s122,s123,s124,s125,s126,s127,s128,s129,s130,s131,s132,s133,s134,s135,s136,s137,s138,s139,s140,s141,s142,s143,s144,s145,s146,s147,s148,s149,s150,s151,s152,s153,s154,s155,s156,s157,s158,s159,s160,s161,s162,s163,s164,s165,s166,s167,s168,s169,s170,s171,s172,s173,s174,s175,s176,s177,s178,s179,s180,s181,s182,s183,s184,s185,s186,s187,s188,s189,s190,s191,s192,s193], []⟩ wx := by
 have K := Lib.hid k
 have HE := Lib.hid hE
 have c1 : wx.cell? ⟨bl,1,none⟩ = some (.int .u64 l.wt) := k.l.cell rfl
 clear k hE
 conv => arg 2; whnf
 by_cases g1 : l.wt ≤ 140737488355328
 case neg =>
  have e1 : decide ((140737488355328 : Int) < (l.wt : Int)) = true := by simp; omega
  have HER := Lib.hid (show E = x2 by rw [HE.out,if_neg (fun e => g1 e.1)])
  clear g1  HE
  go_upto_region 19 with fail
  clear c1 e1
  change Code.wp _ ((regionAt 19 linkBody).getD .skip) _ _ _
  refine copy_r19 K.out.d K.out.r ?_
  go_wp2_with fail
  refine bodyPost_ret (results_e rfl _ _ (w.heap.size + 1) 36 [.int .i64 vc, .slice va vn vcap] _ rfl ((K.out.r.set 0 _).set 1 _) Tryz.underlying36 rfl (by rw [Tryz.sizeErr]; rfl)) rfl ?_
  rw [HER.out]
  exact ⟨_,rfl,K.out.v.put K.out.r _ _,(K.out.b.setCell (p := ⟨w.heap.size + 1,0,none⟩) (by simp) _).setCell (p := ⟨w.heap.size + 1,1,none⟩) (by simp) _⟩
 have e1 : decide ((140737488355328 : Int) < (l.wt : Int)) = false := by simp; omega
 by_cases g2 : zw ≤ 140737488355328
 case neg =>
  have e2 : decide ((140737488355328 : Int) < (zw : Int)) = true := by simp; omega
  have HER := Lib.hid (show E = x2 by rw [HE.out,if_neg (fun e => g2 e.2.1)])
  clear g2 g1  HE
  go_upto_region 19 with fail
  clear c1 e2
  change Code.wp _ ((regionAt 19 linkBody).getD .skip) _ _ _
  refine copy_r19 K.out.d K.out.r ?_
  go_wp2_with fail
  refine bodyPost_ret (results_e rfl _ _ (w.heap.size + 1) 36 [.int .i64 vc, .slice va vn vcap] _ rfl ((K.out.r.set 0 _).set 1 _) Tryz.underlying36 rfl (by rw [Tryz.sizeErr]; rfl)) rfl ?_
  rw [HER.out]
  exact ⟨_,rfl,K.out.v.put K.out.r _ _,(K.out.b.setCell (p := ⟨w.heap.size + 1,0,none⟩) (by simp) _).setCell (p := ⟨w.heap.size + 1,1,none⟩) (by simp) _⟩
 have e2 : decide ((140737488355328 : Int) < (zw : Int)) = false := by simp; omega
 by_cases g3 : vw ≤ 140737488355328
 case neg =>
  have e3 : decide ((140737488355328 : Int) < (vw : Int)) = true := by simp; omega
  have HER := Lib.hid (show E = x2 by rw [HE.out,if_neg (fun e => g3 e.2.2.1)])
  clear g3 g1 g2  HE
  go_upto_region 19 with fail
  clear c1 e3
  change Code.wp _ ((regionAt 19 linkBody).getD .skip) _ _ _
  refine copy_r19 K.out.d K.out.r ?_
  go_wp2_with fail
  refine bodyPost_ret (results_e rfl _ _ (w.heap.size + 1) 36 [.int .i64 vc, .slice va vn vcap] _ rfl ((K.out.r.set 0 _).set 1 _) Tryz.underlying36 rfl (by rw [Tryz.sizeErr]; rfl)) rfl ?_
  rw [HER.out]
  exact ⟨_,rfl,K.out.v.put K.out.r _ _,(K.out.b.setCell (p := ⟨w.heap.size + 1,0,none⟩) (by simp) _).setCell (p := ⟨w.heap.size + 1,1,none⟩) (by simp) _⟩
 have e3 : decide ((140737488355328 : Int) < (vw : Int)) = false := by simp; omega
 have u9 : IntKind.u64.wrap ((zw : Int) + (vw : Int)) = (zw : Int) + (vw : Int) := IntWalk.u64_in _ (by omega)
 by_cases g4 : zw + vw = l.wt
 case neg =>
  have e4 : ((zw : Int) + (vw : Int) != (l.wt : Int)) = true := by simp; omega
  have HER := Lib.hid (show E = x2 by rw [HE.out,if_neg (fun e => g4 e.2.2.2)])
  clear g4 g1 g2 g3  HE
  go_upto_region 19 with fail
  clear c1 e4
  change Code.wp _ ((regionAt 19 linkBody).getD .skip) _ _ _
  refine copy_r19 K.out.d K.out.r ?_
  go_wp2_with fail
  refine bodyPost_ret (results_e rfl _ _ (w.heap.size + 1) 36 [.int .i64 vc, .slice va vn vcap] _ rfl ((K.out.r.set 0 _).set 1 _) Tryz.underlying36 rfl (by rw [Tryz.sizeErr]; rfl)) rfl ?_
  rw [HER.out]
  exact ⟨_,rfl,K.out.v.put K.out.r _ _,(K.out.b.setCell (p := ⟨w.heap.size + 1,0,none⟩) (by simp) _).setCell (p := ⟨w.heap.size + 1,1,none⟩) (by simp) _⟩
 have e4 : ((zw : Int) + (vw : Int) != (l.wt : Int)) = false := by simp; omega
 have HER := Lib.hid (show E = .nil by rw [HE.out,if_pos ⟨g1,g2,g3,g4⟩])
 clear g4 g1 g2 g3  HE
 go_upto_region 20 with fail
 clear c1 e1 e2 e3 e4
 change Code.wp _ ((regionAt 20 linkBody).getD .skip) _ _ _
 refine zero_r20 K.out.r ?_
 go_wp2_with fail
 refine bodyPost_ret (results_e rfl _ _ (w.heap.size + 1) 36 [.int .i64 0, .slice none 0 0] _ rfl ((K.out.r.set 0 _).set 1 _) Tryz.underlying36 rfl (by rw [Tryz.sizeErr]; rfl)) rfl ?_
 rw [HER.out]
 exact ⟨_,rfl,rfl,(K.out.b.setCell (p := ⟨w.heap.size + 1,0,none⟩) (by simp) _).setCell (p := ⟨w.heap.size + 1,1,none⟩) (by simp) _⟩
end Go.Proofs.YtchhbgckonpedaaGreatDoor
/- The reference's look at one link: its children and their ends. -/
namespace Go.Proofs.YtchhbgckonpedaaGreatDoor
open Go.ChangeShapes Go.WideShapes Go.ChangeAt Go.RowKit Go.Joins Go.Deep
theorem link_kids {s0 s1 s2 s4 s5 s8 s9 s10 s12 s13 s14 s15 s16 s17 s18 s19 s20 s21 s22 s23 s24 s25 s26 s27 s28 s29 s30 s31 s32 s33 s34 s35 s36 s37 s38 s39 s40 s41 s42 s43 s44 s45 s46 s47 s48 s49 s50 s51 s52 s53 s54 s55 s56 s57 s58 s59 s60 s61 s62 s63 s64 s65 s66 s67 s68 s69 s70 s71 s72 s73 s74 s75 s76 s77 s78 s79 s80 s81 s82 s83 s84 s85 s86 s87 s88 s89 s90 s91 s92 s93 s94 s95 s96 s97 s98 s99 s100 s101 s102 s103 s104 s105 s106 s107 s108 s109 s110 s111 s112 s113 s114 s115 s116 s117 s118 s119 s120 s121 s122 s123 s124 s125 s126 s127 s128 s129 s130 s131 s132 s133 s134 s135 s136 s137 s138 s139 s140 s141 s142 s143 s144 s145 s146 s147 s148 s149 s150 s151 s152 s153 s154 s155 s156 s157 s158 s159 s160 s161 s162 s163 s164 s165 s166 s167 s168 s169 s170 s171 s172 s173 s174 s175 s176 s177 s178 s179 s180 s181 s182 s183 s184 s185 s186 s187 s188 s189 s190 s191 s192 s193 : Value} {A : HA} {h : HierD} {l z v : LinkD} {w wx : World} {bl be bD : Nat} {uc vc : Int} {ua va : Option Addr} {un ucap vn vcap : Nat} {x1 x2 E : EV} (k : LK A h l w bl be bD [.int .i64 uc, .slice ua un ucap] [.int .i64 vc, .slice va vn vcap] x1 x2 wx)
  (see : HSee w A h) (hlt : l.left < h.up.length + h.dn.length) (hrt : l.right < h.up.length + h.dn.length) (hd63 : h.dn.length ≤ 1048576) (hl : linkAt h l.left = z) (hr : linkAt h l.right = v) (hl32 : l.left < 4294967296) (hr32 : l.right < 4294967296)
  (hE : E = if l.wt ≤ 140737488355328 ∧ z.wt ≤ 140737488355328 ∧ v.wt ≤ 140737488355328 ∧ z.wt + v.wt = l.wt then .nil else x2) :
  Code.wp Tryz.prog (tailAt 10 linkBody) (bodyPost Tryz.prog Tryz.f54 (ErrNew E w)) ⟨#[s0,s1,s2, .pointer (some ⟨w.heap.size,0,none⟩),s4,s5, .pointer (some ⟨(w.heap.size + 1),0,none⟩), .pointer (some ⟨bl,0,none⟩),s8,s9,s10, .pointer (some ⟨bD,0,none⟩),s12,s13,s14,s15,s16,s17,s18,s19,s20,s21,s22,s23,s24,s25,s26,s27,s28,s29,s30,s31,s32,s33,s34,s35,s36,s37,s38,s39,s40,s41,s42,s43,s44,s45,s46,s47,s48,s49,s50,s51,s52,s53,s54,s55,s56,s57,s58,s59,s60,s61,s62,s63,s64,s65,s66,s67,s68,s69,s70,s71,s72,s73,s74,s75,s76,s77,s78,s79,s80,s81,s82,s83,s84,s85,s86,s87,s88,s89,s90,s91,s92,s93,s94,s95,s96,s97,s98,s99,s100,s101,s102,s103,s104,s105,s106,s107,s108,s109,s110,s111,s112,s113,s114,s115,s116,s117,s118,s119,s120,s121,s122,s123,s124,s125,s126,s127,s128,s129,s130,s131,s132,s133,s134,s135,s136,s137,s138,s139,s140,s141,s142,s143,s144,s145,s146,s147,s148,s149,s150,s151,s152,s153,s154,s155,s156,s157,s158,s159,s160,s161,s162,s163,s164,s165,s166,s167,s168,s169,s170,s171,s172,s173,s174,s175,s176,s177,s178,s179,s180,s181,s182,s183,s184,s185,s186,s187,s188,s189,s190,s191,s192,s193], []⟩ wx := by
 have K := Lib.hid k
 have SEE := Lib.hid see
 have HE := Lib.hid hE
 have HLD := Lib.hid hl
 have HRD := Lib.hid hr
 obtain ⟨k0,k1,k2,k3,k4⟩ := hier_five k.x
 have c2 : wx.cell? ⟨bl,2,none⟩ = some (.int .u32 l.left) := k.l.cell rfl
 have c3 : wx.cell? ⟨bl,3,none⟩ = some (.int .u32 l.right) := k.l.cell rfl
 have u7 : IntKind.i64.wrap (l.left : Int) = (l.left : Int) := IntWalk.i64_in _ (by omega)
 have u8 : IntKind.i64.wrap (l.right : Int) = (l.right : Int) := IntWalk.i64_in _ (by omega)
 clear k see hE hl hr
 conv => arg 2; whnf
 apply wp_seq_k
 intro KK hK
 have HK := Lib.hid hK
 clear hK
 have hfd := Tryz.fieldLink1
 go_region_held3 (fun W => W.cell? ⟨bl,2,none⟩ = some (.int .u32 l.left) ∧ W.cell? ⟨bl,3,none⟩ = some (.int .u32 l.right) ∧ W.cell? ⟨w.heap.size,0,none⟩ = some (.slice A.a0 h.node.length A.c0) ∧ W.cell? ⟨w.heap.size,1,none⟩ = some (.slice A.a1 h.upF.length A.c1) ∧ W.cell? ⟨w.heap.size,2,none⟩ = some (.slice A.a2 h.up.length A.c2) ∧ W.cell? ⟨w.heap.size,3,none⟩ = some (.slice A.a3 h.dnF.length A.c3) ∧ W.cell? ⟨w.heap.size,4,none⟩ = some (.slice A.a4 h.dn.length A.c4)) (go_keep)
  (first
  | (go_at_call 29; (with_reducible refine (rlink_lit A h l.left z _ ?_ HLD.out hlt hd63).mono ?_); exact (SEE.out.below K.out.b.drew); rintro e wG ⟨rfl,hb⟩; (have m0 := ck hb k0); (have m1 := ck hb k1); (have m2 := ck hb k2); (have m3 := ck hb k3); (have m4 := ck hb k4); (have m5 := ck hb c2); (have m6 := ck hb c3))
  | (go_at_call 29; (with_reducible refine (rlink_lit A h l.right v _ ?_ HRD.out hrt hd63).mono ?_); exact (SEE.out.below (K.out.b.drew.trans (hb.mono K.out.b.size))); rintro e wH ⟨rfl,hbb⟩; (have n0 := ck hbb m0); (have n1 := ck hbb m1); (have n2 := ck hbb m2); (have n3 := ck hbb m3); (have n4 := ck hbb m4); (have n5 := ck hbb m5); (have n6 := ck hbb m6)))
 try dsimp only [Exit.then]
 refine HK.out _ _ ?_
 change Code.wp _ (tailAt 11 linkBody) _ _ _
 exact link_w ((K.out.drew.below hb).below hbb) HE.out
theorem link_ends {s0 s1 s2 s4 s5 s8 s9 s15 s16 s17 s18 s19 s20 s21 s22 s23 s24 s25 s26 s27 s28 s29 s30 s31 s32 s33 s34 s35 s36 s37 s38 s39 s40 s41 s42 s43 s44 s45 s46 s47 s48 s49 s50 s51 s52 s53 s54 s55 s56 s57 s58 s59 s60 s61 s62 s63 s64 s65 s66 s67 s68 s69 s70 s71 s72 s73 s74 s75 s76 s77 s78 s79 s80 s81 s82 s83 s84 s85 s86 s87 s88 s89 s90 s91 s92 s93 s94 s95 s96 s97 s98 s99 s100 s101 s102 s103 s104 s105 s106 s107 s108 s109 s110 s111 s112 s113 s114 s115 s116 s117 s118 s119 s120 s121 s122 s123 s124 s125 s126 s127 s128 s129 s130 s131 s132 s133 s134 s135 s136 s137 s138 s139 s140 s141 s142 s143 s144 s145 s146 s147 s148 s149 s150 s151 s152 s153 s154 s155 s156 s157 s158 s159 s160 s161 s162 s163 s164 s165 s166 s167 s168 s169 s170 s171 s172 s173 s174 s175 s176 s177 s178 s179 s180 s181 s182 s183 s184 s185 s186 s187 s188 s189 s190 s191 s192 s193 : Value} {A : HA} {h : HierD} {l : LinkD} {x z v : EndD} {w wx : World} {bl be bD p1 p2 p3 : Nat} {uc vc : Int} {ua va : Option Addr} {un ucap vn vcap : Nat} {x1 x2 E : EV} (k : LK A h l w bl be bD [.int .i64 uc, .slice ua un ucap] [.int .i64 vc, .slice va vn vcap] x1 x2 wx)
  (see : HSee w A h) (hlt : l.left < h.up.length + h.dn.length) (hrt : l.right < h.up.length + h.dn.length) (hd63 : h.dn.length ≤ 1048576) (hl : linkAt h l.left = z.link) (hr : linkAt h l.right = v.link) (hl32 : l.left < 4294967296) (hr32 : l.right < 4294967296)
  (H1 : Cells wx p1 59 (rendCells x)) (H2 : Cells wx p2 59 (rendCells z)) (H3 : Cells wx p3 59 (rendCells v))
  (hE : E = if z.tail = x.tail ∧ v.head = x.head ∧ z.rank = v.rank then (if l.wt ≤ 140737488355328 ∧ z.link.wt ≤ 140737488355328 ∧ v.link.wt ≤ 140737488355328 ∧ z.link.wt + v.link.wt = l.wt then .nil else x2) else x1) :
  Code.wp Tryz.prog (tailAt 9 linkBody) (bodyPost Tryz.prog Tryz.f54 (ErrNew E w)) ⟨#[s0,s1,s2, .pointer (some ⟨w.heap.size,0,none⟩),s4,s5, .pointer (some ⟨(w.heap.size + 1),0,none⟩), .pointer (some ⟨bl,0,none⟩),s8,s9, .pointer (some ⟨be,0,none⟩), .pointer (some ⟨bD,0,none⟩), .pointer (some ⟨p1,0,none⟩), .pointer (some ⟨p2,0,none⟩), .pointer (some ⟨p3,0,none⟩),s15,s16,s17,s18,s19,s20,s21,s22,s23,s24,s25,s26,s27,s28,s29,s30,s31,s32,s33,s34,s35,s36,s37,s38,s39,s40,s41,s42,s43,s44,s45,s46,s47,s48,s49,s50,s51,s52,s53,s54,s55,s56,s57,s58,s59,s60,s61,s62,s63,s64,s65,s66,s67,s68,s69,s70,s71,s72,s73,s74,s75,s76,s77,s78,s79,s80,s81,s82,s83,s84,s85,s86,s87,s88,s89,s90,s91,s92,s93,s94,s95,s96,s97,s98,s99,s100,s101,s102,s103,s104,s105,s106,s107,s108,s109,s110,s111,s112,s113,s114,s115,s116,s117,s118,s119,s120,s121,s122,s123,s124,s125,s126,s127,s128,s129,s130,s131,s132,s133,s134,s135,s136,s137,s138,s139,s140,s141,s142,s143,s144,s145,s146,s147,s148,s149,s150,s151,s152,s153,s154,s155,s156,s157,s158,s159,s160,s161,s162,s163,s164,s165,s166,s167,s168,s169,s170,s171,s172,s173,s174,s175,s176,s177,s178,s179,s180,s181,s182,s183,s184,s185,s186,s187,s188,s189,s190,s191,s192,s193], []⟩ wx := by
 have K := Lib.hid k
 have SEE := Lib.hid see
 have HE := Lib.hid hE
 have HLD := Lib.hid hl
 have HRD := Lib.hid hr
 have m10 : wx.cell? ⟨p1,0,none⟩ = some (.int .i64 x.tail) := H1.cell rfl
 have m11 : wx.cell? ⟨p1,1,none⟩ = some (.int .i64 x.head) := H1.cell rfl
 have m20 : wx.cell? ⟨p2,0,none⟩ = some (.int .i64 z.tail) := H2.cell rfl
 have m22 : wx.cell? ⟨p2,2,none⟩ = some (.int .i64 z.rank) := H2.cell rfl
 have m31 : wx.cell? ⟨p3,1,none⟩ = some (.int .i64 v.head) := H3.cell rfl
 have m32 : wx.cell? ⟨p3,2,none⟩ = some (.int .i64 v.rank) := H3.cell rfl
 clear k see hE hl hr H1 H2 H3
 conv => arg 2; whnf
 apply wp_seq_k
 intro KK hK
 have HK := Lib.hid hK
 clear hK
 by_cases g1 : z.tail = x.tail
 case neg =>
  have e1 : ((z.tail : Int) != (x.tail : Int)) = true := by simp; omega
  have HER := Lib.hid (show E = x1 by rw [HE.out,if_neg (fun e => g1 e.1)])
  clear g1  HE
  go_upto_region 16 with fail
  clear m10 m11 m20 m22 m31 m32 e1 HK HLD HRD SEE
  change Code.wp _ ((regionAt 16 linkBody).getD .skip) _ _ _
  refine copy_r16 K.out.e K.out.r ?_
  go_wp2_with fail
  refine bodyPost_ret (results_e rfl _ _ (w.heap.size + 1) 36 [.int .i64 uc, .slice ua un ucap] _ rfl ((K.out.r.set 0 _).set 1 _) Tryz.underlying36 rfl (by rw [Tryz.sizeErr]; rfl)) rfl ?_
  rw [HER.out]
  exact ⟨_,rfl,K.out.u.put K.out.r _ _,(K.out.b.setCell (p := ⟨w.heap.size + 1,0,none⟩) (by simp) _).setCell (p := ⟨w.heap.size + 1,1,none⟩) (by simp) _⟩
 have e1 : ((z.tail : Int) != (x.tail : Int)) = false := by simp; omega
 by_cases g2 : v.head = x.head
 case neg =>
  have e2 : ((v.head : Int) != (x.head : Int)) = true := by simp; omega
  have HER := Lib.hid (show E = x1 by rw [HE.out,if_neg (fun e => g2 e.2.1)])
  clear g2 g1  HE
  go_upto_region 16 with fail
  clear m10 m11 m20 m22 m31 m32 e2 HK HLD HRD SEE
  change Code.wp _ ((regionAt 16 linkBody).getD .skip) _ _ _
  refine copy_r16 K.out.e K.out.r ?_
  go_wp2_with fail
  refine bodyPost_ret (results_e rfl _ _ (w.heap.size + 1) 36 [.int .i64 uc, .slice ua un ucap] _ rfl ((K.out.r.set 0 _).set 1 _) Tryz.underlying36 rfl (by rw [Tryz.sizeErr]; rfl)) rfl ?_
  rw [HER.out]
  exact ⟨_,rfl,K.out.u.put K.out.r _ _,(K.out.b.setCell (p := ⟨w.heap.size + 1,0,none⟩) (by simp) _).setCell (p := ⟨w.heap.size + 1,1,none⟩) (by simp) _⟩
 have e2 : ((v.head : Int) != (x.head : Int)) = false := by simp; omega
 by_cases g3 : z.rank = v.rank
 case neg =>
  have e3 : ((z.rank : Int) != (v.rank : Int)) = true := by simp; omega
  have HER := Lib.hid (show E = x1 by rw [HE.out,if_neg (fun e => g3 e.2.2)])
  clear g3 g1 g2  HE
  go_upto_region 16 with fail
  clear m10 m11 m20 m22 m31 m32 e3 HK HLD HRD SEE
  change Code.wp _ ((regionAt 16 linkBody).getD .skip) _ _ _
  refine copy_r16 K.out.e K.out.r ?_
  go_wp2_with fail
  refine bodyPost_ret (results_e rfl _ _ (w.heap.size + 1) 36 [.int .i64 uc, .slice ua un ucap] _ rfl ((K.out.r.set 0 _).set 1 _) Tryz.underlying36 rfl (by rw [Tryz.sizeErr]; rfl)) rfl ?_
  rw [HER.out]
  exact ⟨_,rfl,K.out.u.put K.out.r _ _,(K.out.b.setCell (p := ⟨w.heap.size + 1,0,none⟩) (by simp) _).setCell (p := ⟨w.heap.size + 1,1,none⟩) (by simp) _⟩
 have e3 : ((z.rank : Int) != (v.rank : Int)) = false := by simp; omega
 have HER := Lib.hid (show E = if l.wt ≤ 140737488355328 ∧ z.link.wt ≤ 140737488355328 ∧ v.link.wt ≤ 140737488355328 ∧ z.link.wt + v.link.wt = l.wt then .nil else x2 by rw [HE.out,if_pos ⟨g1,g2,g3⟩])
 clear HE g1 g2 g3 
 go_wp2_with fail
 refine HK.out _ _ ?_
 change Code.wp _ (tailAt 10 linkBody) _ _ _
 exact link_kids K.out SEE.out hlt hrt hd63 HLD.out HRD.out hl32 hr32 HER.out
end Go.Proofs.YtchhbgckonpedaaGreatDoor
