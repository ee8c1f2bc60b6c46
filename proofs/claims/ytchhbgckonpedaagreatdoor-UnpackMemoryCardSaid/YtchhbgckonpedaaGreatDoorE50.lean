/- A hierarchy that comes in, opened: its slices read as data. -/
import Derived.Test.YtchhbgckonpedaaGreatDoorE16
import Derived.Lib.SmallJoins
import Derived.Deep.Slices
import Derived.Deep.Fields
import Derived.Test.YtchhbgckonpedaaGreatDoorE29
import Derived.Test.YtchhbgckonpedaaGreatDoorE35
import Derived.Test.YtchhbgckonpedaaGreatDoorCards
import Derived.Test.YtchhbgckonpedaaGreatDoorTie
import Derived.ChangeSame
import Derived.ChangeVars
import Derived.JoinedOf
import Derived.LaidLaws
import Derived.LaidHandle
import Derived.Stop.Joined
import Derived.SevenTiedAt
set_option linter.unusedSimpArgs false
set_option maxRecDepth 100000
set_option maxHeartbeats 8000000
namespace Go.Proofs.YtchhbgckonpedaaGreatDoor
open Go.ChangeShapes Go.WideShapes Go.ChangeAt Go.RowKit Go.Joins Go.Deep
section
variable {H : Type} {enc : TypeId × Value → H} {P : Program} {w : World}
theorem wfu32 {x : Int} (h : (Lit.int .u32 x).wf = true) : 0 ≤ x ∧ x < 4294967296 := by
 simp [Lit.wf,IntKind.min,IntKind.max,IntKind.signed,IntKind.bits] at h
 omega
theorem wfu64' {x : Int} (h : (Lit.int .u64 x).wf = true) : 0 ≤ x ∧ x < 18446744073709551616 := by
 simp [Lit.wf,IntKind.min,IntKind.max,IntKind.signed,IntKind.bits] at h
 omega
theorem ok_slice {t e : TypeId} {b0 : Nat} {v : Value} (ht : P.underlying t = some (.slice e)) (h : Cell.okWide P w .any b0 t v) : v = .slice none 0 0 ∨ ∃ b o n cap,v = .slice (some ⟨b,o,none⟩) n cap := by
 simp only [Cell.okWide,ht,Cell.ok] at h
 cases v <;> simp_all
 rename_i a n cap
 cases a with
 | none => exact .inl (by cases n <;> cases cap <;> simp_all)
 | some a =>
  obtain ⟨b,o,sp⟩ := a
  simp only [World.has] at h
  exact .inr ⟨b,o,by simpa using h.2.2.2.1⟩
def WordsIn (w : World) (v : Value) : Prop := ∃ ao cap l,v = .slice ao l.length cap ∧ See w ao cap u32Cells 1 l ∧ SForm ao cap ∧ ∀ x ∈ l,x < 4294967296
theorem open_words {t e : TypeId} {v : Value} {b0 base n : Nat} {held : Bool} {y : DataW H × List MemPlace} (ht : P.underlying t = some (.slice e)) (he : P.underlying e = some (.int .u32)) (hce : P.cellsOf e = 1) (hok : Cell.okWide P w .any b0 t v) (h : DataW.trod enc P w base (fun _ => true) held n t [v] = some y) : WordsIn w v := by
 rcases open_ints ht he hce h with ⟨h1, -⟩ | ⟨a,len,cap,zs,h1, -,hl,hm,hz, -,hc,hw⟩
 ·simp only [List.cons.injEq,and_true] at h1
  subst h1
  exact ⟨none,0, [],rfl,See.nil _ _ _, .inl ⟨rfl,rfl⟩,by simp⟩
 ·simp only [List.cons.injEq,and_true] at h1
  subst h1
  rcases ok_slice ht hok with h2 | ⟨b,o,n2,c2,h2⟩
  ·cases h2
  ·simp only [Value.slice.injEq,Option.some.injEq] at h2
   obtain ⟨rfl,rfl,rfl⟩ := h2
   simp only [if_true] at hz
   have hlen : ((zs.take len).map Int.toNat).length = len := by simp; omega
   have hget : ∀ (i x : Nat),((zs.take len).map Int.toNat)[i]? = some x → i < zs.length ∧ zs.getD i 0 = (x : Int) ∧ x < 4294967296 := by
    intro i x hx
    rw [List.getElem?_map,List.getElem?_take] at hx
    split at hx
    ·rename_i hi
     have hil : i < zs.length := by omega
     rw [List.getElem?_eq_getElem hil] at hx
     simp only [Option.map_some,Option.some.injEq] at hx
     have := wfu32 (hw _ (List.getElem_mem hil))
     rw [List.getD_eq_getElem?_getD,List.getElem?_eq_getElem hil]
     simp only [Option.getD_some]
     exact ⟨hil,by omega,by omega⟩
    ·cases hx
   refine ⟨some ⟨b,o,none⟩,cap,(zs.take len).map Int.toNat,by rw [hlen],⟨by omega,hm,fun i x hx => ⟨b,o,rfl,fun j u hu => ?_⟩⟩, .inr ⟨_,_,rfl⟩,fun x hx => ?_⟩
   ·obtain ⟨h3,h4, -⟩ := hget i x hx
    have := hc i h3
    rw [h4] at this
    have e : (⟨b,o,none⟩ : Addr).add i = ⟨b,o + i,none⟩ := by unfold Addr.add; split <;> simp_all
    rw [e] at this
    cases j with
    | zero =>
     simp only [u32Cells,List.getElem?_cons_zero,Option.some.injEq] at hu
     rw [Nat.mul_one,Nat.add_zero,this,hu]
    | succ j => simp [u32Cells] at hu
   ·obtain ⟨i,hi⟩ := List.getElem?_of_mem hx
    exact (hget i x hi).2.2
def LinksIn (w : World) (v : Value) : Prop := ∃ ao cap l,v = .slice ao l.length cap ∧ See w ao cap linkCells 4 l ∧ SForm ao cap ∧ ∀ x ∈ l,x.ok
def LinkType (P : Program) (u a b : TypeId) : Prop := P.underlying a = some (.int .u32) ∧ P.underlying b = some (.int .u64) ∧ P.cellsOf u = 4 ∧ ∃ f0 f1 f2 f3,P.underlying u = some (.struct #[f0,f1,f2,f3]) ∧ oneCellFields P #[f0,f1,f2,f3] = true ∧ f0.type = a ∧ f1.type = b ∧ f2.type = a ∧ f3.type = a
theorem open_link {u a b : TypeId} {base n : Nat} {spare : Nat → Bool} {held : Bool} {cs : List Value} {y : DataW H × List MemPlace} (lt : LinkType P u a b) (h : DataW.trod enc P w base spare held n u cs = some y) : ∃ l : LinkD,cs = linkCells l ∧ l.ok := by
 obtain ⟨ha,hb,hcu,f0,f1,f2,f3,hu,hone,t0,t1,t2,t3⟩ := lt
 obtain ⟨xs,m, -, -,hlen,hxl,hf⟩ := DataW.trod_struct hu h
 rw [hcu] at hlen
 match cs,hlen with
 | [c0,c1,c2,c3],_ =>
  obtain ⟨o0,k0⟩ := hone_of hone 0 f0 rfl
  obtain ⟨o1,k1⟩ := hone_of hone 1 f1 rfl
  obtain ⟨o2,k2⟩ := hone_of hone 2 f2 rfl
  obtain ⟨o3,k3⟩ := hone_of hone 3 f3 rfl
  have h0 := hf 0 f0 rfl
  have h1 := hf 1 f1 rfl
  have h2 := hf 2 f2 rfl
  have h3 := hf 3 f3 rfl
  rw [o0,k0,t0] at h0
  rw [o1,k1,t1] at h1
  rw [o2,k2,t2] at h2
  rw [o3,k3,t3] at h3
  have some_of : ∀ (i : Nat) (f : Field),(#[f0,f1,f2,f3] : Array Field)[i]? = some f → ∃ z,xs[i]? = some z := by
   intro i f hi
   have hlt : i < 4 := (Array.getElem?_eq_some_iff.1 hi).1
   exact ⟨_,List.getElem?_eq_getElem (by simp at hxl; omega)⟩
  obtain ⟨z0,hz0⟩ := some_of 0 f0 rfl
  obtain ⟨z1,hz1⟩ := some_of 1 f1 rfl
  obtain ⟨z2,hz2⟩ := some_of 2 f2 rfl
  obtain ⟨z3,hz3⟩ := some_of 3 f3 rfl
  obtain ⟨n0,e0, -,w0⟩ := DataW.trod_int ha (h0.trans hz0)
  obtain ⟨n1,e1, -,w1⟩ := DataW.trod_int hb (h1.trans hz1)
  obtain ⟨n2,e2, -,w2⟩ := DataW.trod_int ha (h2.trans hz2)
  obtain ⟨n3,e3, -,w3⟩ := DataW.trod_int ha (h3.trans hz3)
  simp at e0 e1 e2 e3
  subst e0 e1 e2 e3
  have b0 := wfu32 w0
  have b1 := wfu64' w1
  have b2 := wfu32 w2
  have b3 := wfu32 w3
  refine ⟨⟨n0.toNat,n1.toNat,n2.toNat,n3.toNat⟩, ?_, ?_⟩
  ·simp only [linkCells]
   rw [Int.toNat_of_nonneg b0.1,Int.toNat_of_nonneg b1.1,Int.toNat_of_nonneg b2.1,Int.toNat_of_nonneg b3.1]
  ·simp only [LinkD.ok]
   omega
theorem open_links {t u a b : TypeId} {v : Value} {b0 base n : Nat} {held : Bool} {y : DataW H × List MemPlace} (hts : P.underlying t = some (.slice u)) (lt : LinkType P u a b) (hok : Cell.okWide P w .any b0 t v) (h : DataW.trod enc P w base (fun _ => true) held n t [v] = some y) : LinksIn w v := by
 rcases open_slice hts h with ⟨h1, -⟩ | ⟨a,len,cap,m,n,D,Pl,h1, -,hl,hm,hmm, -,hi⟩
 ·simp only [List.cons.injEq,and_true] at h1
  subst h1
  exact ⟨none,0, [],rfl,See.nil _ _ _, .inl ⟨rfl,rfl⟩,by simp⟩
 ·simp only [List.cons.injEq,and_true] at h1
  subst h1
  rcases ok_slice hts hok with h2 | ⟨b,o,n2,c2,h2⟩
  ·cases h2
  ·simp only [Value.slice.injEq,Option.some.injEq] at h2
   obtain ⟨rfl,rfl,rfl⟩ := h2
   simp only [if_true] at hmm
   subst hmm
   have each : ∀ i,i < m → ∃ l : LinkD,l.ok ∧ ∀ j u,(linkCells l)[j]? = some u → w.cell? ⟨b,o + i * 4 + j,none⟩ = some u := by
    intro i him
    obtain ⟨cs,hc,ht⟩ := hi i him
    rw [lt.2.2.1] at hc
    obtain ⟨l,rfl,hlo⟩ := open_link lt ht
    obtain ⟨-, -,hat⟩ := World.cells?_some hc
    refine ⟨l,hlo,fun j u hu => ?_⟩
    have hj : j < 4 := (List.getElem?_eq_some_iff.1 hu).1
    have := hat j hj
    have e1 : (⟨b,o,none⟩ : Addr).add (i * 4) = ⟨b,o + i * 4,none⟩ := by unfold Addr.add; split <;> simp_all
    have e2 : (⟨b,o + i * 4,none⟩ : Addr).add j = ⟨b,o + i * 4 + j,none⟩ := by unfold Addr.add; split <;> simp_all
    rw [e1,e2,hu] at this
    exact this
   obtain ⟨L,hL⟩ : ∃ L : Nat → LinkD, ∀ i,i < m → (L i).ok ∧ ∀ j u,(linkCells (L i))[j]? = some u → w.cell? ⟨b,o + i * 4 + j,none⟩ = some u :=
    ⟨fun i => if h : i < m then Classical.choose (each i h) else default,fun i h => by simp only [dif_pos h]; exact Classical.choose_spec (each i h)⟩
   have hget : ∀ i x,((List.range len).map L)[i]? = some x → i < len ∧ x = L i := by
    intro i x hx
    have hil : i < len := by have := (List.getElem?_eq_some_iff.1 hx).1; simpa using this
    rw [List.getElem?_map,List.getElem?_range hil] at hx
    simp only [Option.map_some,Option.some.injEq] at hx
    exact ⟨hil,hx.symm⟩
   refine ⟨some ⟨b,o,none⟩,m,(List.range len).map L,by simp,⟨by simpa using hl,hm,fun i x hx => ⟨b,o,rfl, ?_⟩⟩, .inr ⟨_,_,rfl⟩,fun x hx => ?_⟩
   ·obtain ⟨h3,rfl⟩ := hget i x hx
    exact (hL i (by omega)).2
   ·obtain ⟨i,hi⟩ := List.getElem?_of_mem hx
    obtain ⟨h3,rfl⟩ := hget i x hi
    exact (hL i (by omega)).1
def HierType (P : Program) (u a b : TypeId) : Prop := P.cellsOf u = 5 ∧ P.cellTypes P.depth u = some [a,a,b,a,b] ∧ ∃ f0 f1 f2 f3 f4,P.underlying u = some (.struct #[f0,f1,f2,f3,f4]) ∧ oneCellFields P #[f0,f1,f2,f3,f4] = true ∧ f0.type = a ∧ f1.type = a ∧ f2.type = b ∧ f3.type = a ∧ f4.type = b
theorem open_hier_of {u a b x l y : TypeId} {v : Value} {b0 base : Nat} {held : Bool} {d : DataW H} {p : List MemPlace} (ht : HierType P u a b) (hta : P.underlying a = some (.slice x)) (htx : P.underlying x = some (.int .u32)) (hcx : P.cellsOf x = 1) (htb : P.underlying b = some (.slice l)) (lt : LinkType P l x y) (hv : Value.okWide P w .any b0 u v) (h : DataW.Trod enc P w base (fun _ => true) held u v d p) :
  ∃ A h,v = hierVal A h ∧ HSee w A h ∧ HForm A := by
 obtain ⟨hcs,hct,f0,f1,f2,f3,f4,hu,hone,t0,t1,t2,t3,t4⟩ := ht
 have hv' := hv
 simp only [Value.okWide,hu] at hv'
 obtain ⟨cs,rfl,hsz,ts,hts, -,hrow⟩ := hv'
 rw [hct] at hts
 simp only [Option.some.injEq] at hts
 subst hts
 obtain ⟨cs⟩ := cs
 match cs,hsz.trans hcs with
 | [c0,c1,c2,c3,c4],_ =>
  obtain ⟨fuel,hf⟩ := h
  obtain ⟨xs,n,_,hx,_,hlen,hg⟩ := DataW.trod_struct hu hf
  obtain ⟨o0,k0⟩ := hone_of hone 0 f0 rfl
  obtain ⟨o1,k1⟩ := hone_of hone 1 f1 rfl
  obtain ⟨o2,k2⟩ := hone_of hone 2 f2 rfl
  obtain ⟨o3,k3⟩ := hone_of hone 3 f3 rfl
  obtain ⟨o4,k4⟩ := hone_of hone 4 f4 rfl
  match xs,hlen with
  | [y0,y1,y2,y3,y4],_ =>
   have h0 : DataW.trod enc P w base (fun _ => true) held n f0.type [c0] = some y0 := by simpa [Value.cells,o0,k0] using hg 0 f0 rfl
   have h1 : DataW.trod enc P w base (fun _ => true) held n f1.type [c1] = some y1 := by simpa [Value.cells,o1,k1] using hg 1 f1 rfl
   have h2 : DataW.trod enc P w base (fun _ => true) held n f2.type [c2] = some y2 := by simpa [Value.cells,o2,k2] using hg 2 f2 rfl
   have h3 : DataW.trod enc P w base (fun _ => true) held n f3.type [c3] = some y3 := by simpa [Value.cells,o3,k3] using hg 3 f3 rfl
   have h4 : DataW.trod enc P w base (fun _ => true) held n f4.type [c4] = some y4 := by simpa [Value.cells,o4,k4] using hg 4 f4 rfl
   rw [t0] at h0; rw [t1] at h1; rw [t2] at h2; rw [t3] at h3; rw [t4] at h4
   have r0 : Cell.okWide P w .any b0 a c0 := by obtain ⟨u,hu',h⟩ := hrow 0 c0 rfl; simp at hu'; subst hu'; exact h
   have r1 : Cell.okWide P w .any b0 a c1 := by obtain ⟨u,hu',h⟩ := hrow 1 c1 rfl; simp at hu'; subst hu'; exact h
   have r2 : Cell.okWide P w .any b0 b c2 := by obtain ⟨u,hu',h⟩ := hrow 2 c2 rfl; simp at hu'; subst hu'; exact h
   have r3 : Cell.okWide P w .any b0 a c3 := by obtain ⟨u,hu',h⟩ := hrow 3 c3 rfl; simp at hu'; subst hu'; exact h
   have r4 : Cell.okWide P w .any b0 b c4 := by obtain ⟨u,hu',h⟩ := hrow 4 c4 rfl; simp at hu'; subst hu'; exact h
   obtain ⟨a0,q0,l0,rfl,s0,m0,b0⟩ := open_words hta htx hcx r0 h0
   obtain ⟨a1,q1,l1,rfl,s1,m1,b1⟩ := open_words hta htx hcx r1 h1
   obtain ⟨a2,q2,l2,rfl,s2,m2,b2⟩ := open_links htb lt r2 h2
   obtain ⟨a3,q3,l3,rfl,s3,m3,b3⟩ := open_words hta htx hcx r3 h3
   obtain ⟨a4,q4,l4,rfl,s4,m4,b4⟩ := open_links htb lt r4 h4
   exact ⟨⟨a0,a1,a2,a3,a4,q0,q1,q2,q3,q4⟩,⟨l0,l1,l2,l3,l4⟩,rfl,⟨s0,s1,s2,s3,s4,b0,b1,b3,b2,b4⟩,⟨m0,m1,m2,m3,m4⟩⟩
theorem Tryz.linkType : LinkType Tryz.prog 65 62 45 :=
 ⟨Tryz.underlying62, Tryz.underlying45,by kernel_rfl,_,_,_,_, Tryz.underlying65,by kernel_rfl,rfl,rfl,rfl,rfl⟩
theorem Tryz.hierType : HierType Tryz.prog 25 22 23 :=
 ⟨by kernel_rfl,by kernel_rfl,_,_,_,_,_, Tryz.underlying25,by kernel_rfl,rfl,rfl,rfl,rfl,rfl⟩
theorem open_hier {v : Value} {b0 base : Nat} {held : Bool} {d : DataW H} {p : List MemPlace} (hv : Value.okWide Tryz.prog w .any b0 25 v) (h : DataW.Trod enc Tryz.prog w base (fun _ => true) held 25 v d p) :
  ∃ A h,v = hierVal A h ∧ HSee w A h ∧ HForm A :=
 open_hier_of Tryz.hierType Tryz.underlying22 Tryz.underlying62 (by kernel_rfl) Tryz.underlying23 Tryz.linkType hv h
end
section
variable {H : Type} {enc : TypeId × Value → H} {P : Program} {w : World}
theorem slice_weight {t e : TypeId} {ao : Option Addr} {k cap base n : Nat} {spare : Nat → Bool} {held : Bool} {y : DataW H × List MemPlace} {B : Nat} (ht : P.underlying t = some (.slice e)) (h : DataW.trod enc P w base spare held n t [.slice ao k cap] = some y)
  (hw : (y.1.weights P t).all (· ≤ B) = true) : k * P.bytesOf e ≤ B := by
 rcases DataW.trod_slice ht h with ⟨h1, -⟩ | ⟨a,len,cap2,elems,rest,m, -,h1,rfl, -, -, -,hl, -⟩
 ·simp only [List.cons.injEq,and_true,Value.slice.injEq] at h1
  obtain ⟨-,rfl, -⟩ := h1
  simp
 ·simp only [List.cons.injEq,and_true,Value.slice.injEq] at h1
  obtain ⟨-,rfl, -⟩ := h1
  simp only [DataW.weights,ht,List.all_cons,Bool.and_eq_true,decide_eq_true_eq,List.length_map] at hw
  refine Nat.le_trans ?_ hw.1
  exact Nat.mul_le_mul_right _ (by omega)
theorem hier_reach_of {u a b x l : TypeId} {A : HA} {D : HierD} {base : Nat} {spare : Nat → Bool} {held : Bool} {d : DataW H} {p : List MemPlace} (ht : HierType P u a b) (hta : P.underlying a = some (.slice x)) (htb : P.underlying b = some (.slice l)) (bx : P.bytesOf x = 4) (bl : P.bytesOf l = 24)
  (h : DataW.Trod enc P w base spare held u (hierVal A D) d p) (hw : (d.weights P u).all (· ≤ reachBytes) = true) : Reach5 D := by
 obtain ⟨hcs,hct,f0,f1,f2,f3,f4,hu,hone,t0,t1,t2,t3,t4⟩ := ht
 obtain ⟨fuel,hf⟩ := h
 obtain ⟨xs,n,_,hx,_,hlen,hg⟩ := DataW.trod_struct hu hf
 obtain ⟨o0,k0⟩ := hone_of hone 0 f0 rfl
 obtain ⟨o1,k1⟩ := hone_of hone 1 f1 rfl
 obtain ⟨o2,k2⟩ := hone_of hone 2 f2 rfl
 obtain ⟨o3,k3⟩ := hone_of hone 3 f3 rfl
 obtain ⟨o4,k4⟩ := hone_of hone 4 f4 rfl
 match xs,hlen with
 | [y0,y1,y2,y3,y4],_ =>
  have h0 : DataW.trod enc P w base spare held n f0.type [.slice A.a0 D.node.length A.c0] = some y0 := by simpa [hierVal,Value.cells,o0,k0] using hg 0 f0 rfl
  have h1 : DataW.trod enc P w base spare held n f1.type [.slice A.a1 D.upF.length A.c1] = some y1 := by simpa [hierVal,Value.cells,o1,k1] using hg 1 f1 rfl
  have h2 : DataW.trod enc P w base spare held n f2.type [.slice A.a2 D.up.length A.c2] = some y2 := by simpa [hierVal,Value.cells,o2,k2] using hg 2 f2 rfl
  have h3 : DataW.trod enc P w base spare held n f3.type [.slice A.a3 D.dnF.length A.c3] = some y3 := by simpa [hierVal,Value.cells,o3,k3] using hg 3 f3 rfl
  have h4 : DataW.trod enc P w base spare held n f4.type [.slice A.a4 D.dn.length A.c4] = some y4 := by simpa [hierVal,Value.cells,o4,k4] using hg 4 f4 rfl
  rw [t0] at h0; rw [t1] at h1; rw [t2] at h2; rw [t3] at h3; rw [t4] at h4
  simp only [Prod.mk.injEq] at hx
  obtain ⟨rfl, -⟩ := hx
  simp only [DataW.weights,hu,List.map_cons,List.map_nil,DataW.weightsEach,List.all_append,List.append_nil,Bool.and_eq_true,t0,t1,t2,t3,t4] at hw
  obtain ⟨w0,w1,w2,w3,w4⟩ := hw
  have r0 := slice_weight hta h0 w0
  have r1 := slice_weight hta h1 w1
  have r2 := slice_weight htb h2 w2
  have r3 := slice_weight hta h3 w3
  have r4 := slice_weight htb h4 w4
  rw [bx] at r0 r1 r3
  rw [bl] at r2 r4
  have hB : reachBytes ≤ 140737488355328 := by decide
  exact ⟨by omega,by omega,by omega,by omega,by omega⟩
theorem hier_reach {A : HA} {D : HierD} {base : Nat} {spare : Nat → Bool} {held : Bool} {d : DataW H} {p : List MemPlace}
  (h : DataW.Trod enc Tryz.prog w base spare held 25 (hierVal A D) d p) (hw : (d.weights Tryz.prog 25).all (· ≤ reachBytes) = true) : Reach5 D :=
 hier_reach_of Tryz.hierType Tryz.underlying22 Tryz.underlying23 (by kernel_rfl) (by kernel_rfl) h hw
end
theorem Tryz.own : ownKnob Tryz.prog.godebug = none := by kernel_rfl
theorem Tryz.laid : laidOutB Tryz.prog = true := by kernel_rfl
theorem Tryz.et : Tryz.prog.globalNamed "errors.errorType" = some 0 := by kernel_rfl
theorem Tryz.rt : (Tryz.prog.cutTypes.find? (·.1 == "internal/reflectlite.rtype")).map (·.2) = some 166 := by kernel_rfl
theorem Tryz.oneRow : ((List.range 296).filter fun t => Tryz.prog.rowNamed t [101,114,114,111,114]) = [30] := by kernel_rfl
theorem Tryz.typesSize : Tryz.prog.types.size = 296 := by kernel_rfl
theorem readHier : Tryz.prog.readableRec 25 = true ∧ 25 < Tryz.prog.types.size := ⟨by kernel_rfl,of_decide_eq_true (by kernel_rfl)⟩
theorem readInt : Tryz.prog.readableRec 3 = true ∧ 3 < Tryz.prog.types.size := ⟨by kernel_rfl,of_decide_eq_true (by kernel_rfl)⟩
theorem wf64 {x : Int} (h : (Lit.int .i64 x).wf = true) : -9223372036854775808 ≤ x ∧ x ≤ 9223372036854775807 := by
 simp [Lit.wf,IntKind.min,IntKind.max,IntKind.signed,IntKind.bits] at h
 exact ⟨by omega,by omega⟩
theorem evar_of_laid {W : World} (h : laidMetH Tryz.prog [("errors.errorType",Rows.laid_errors_errorType)] W) : EVar W := by
 have h' : laidMet Tryz.prog [] W ∧ handlesMet Tryz.prog [("errors.errorType",Rows.laid_errors_errorType)] W := h
 obtain ⟨name,u,ty,e1,e2,e3,e4,e5⟩ := h'.2 _ (List.mem_singleton.2 rfl)
 have en : name = [101,114,114,111,114] := (Option.some.inj e1).symm
 subst en
 obtain rfl := Option.some.inj (Tryz.rt.symm.trans e2)
 have hm : ty ∈ (List.range 296).filter fun t => Tryz.prog.rowNamed t [101,114,114,111,114] := List.mem_filter.2 ⟨List.mem_range.2 (by rw [← Tryz.typesSize]; exact e3),e4⟩
 rw [Tryz.oneRow] at hm
 obtain rfl := List.mem_singleton.1 hm
 have hh : typeHandle Tryz.prog 30 = .pointer (some ⟨1, 30,none⟩) := by kernel_rfl
 rw [hh] at e5
 simpa [EVar] using World.var?_cell Tryz.et e5 0
noncomputable def laidWorld (os : Os) : World :=
 let w0 := World.holding Tryz.prog os ⟨#[], #[], []⟩
 { w0 with heap := w0.heap.modify 0 fun
   | .cells _ t frozen => .cells #[.iface 166 (.agg #[.pointer (some ⟨1, 30,none⟩)])] t frozen
   | o => o }
theorem laidWorld_met (os : Os) (args : Array Value) : laidMetH Tryz.prog [("errors.errorType",Rows.laid_errors_errorType)] ((laidWorld os).forCall (fun _ _ => 0) ⟨#[],args, []⟩).memory :=
 laidMetH_of_parts (laidMet_nil _ _) (by kernel_rfl)
end Go.Proofs.YtchhbgckonpedaaGreatDoor
