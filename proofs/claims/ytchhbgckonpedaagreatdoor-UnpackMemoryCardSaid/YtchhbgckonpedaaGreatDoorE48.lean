/- The reference's Graph: the plain links as a normal graph. -/
import Derived.Test.YtchhbgckonpedaaGreatDoorE46
import Derived.Test.YtchhbgckonpedaaGreatDoorE47
import Derived.Test.YtchhbgckonpedaaGreatDoorE39
import Derived.Test.YtchhbgckonpedaaGreatDoorE40
import Derived.Test.YtchhbgckonpedaaGreatDoorE32
import Derived.Test.YtchhbgckonpedaaGreatDoorE31
import Derived.Test.YtchhbgckonpedaaGreatDoorE35
import Derived.Test.YtchhbgckonpedaaGreatDoorE29
import Derived.Laws.StructEq
set_option linter.unusedSimpArgs false
set_option maxRecDepth 100000
set_option maxHeartbeats 8000000
namespace Go.Proofs.YtchhbgckonpedaaGreatDoor
open Go.ChangeShapes Go.WideShapes Go.ChangeAt Go.RowKit Go.Joins Go.Deep
structure RGI (K : Nat) (A : HA) (h : HierD) (k : Nat) (v : Value) (w wr : World) : Prop where
 x : Cells wr w.heap.size 25 (hierCells A h)
 r : Cells wr (w.heap.size + 1) 52 [.int .i64 0, .slice none 0 0]
 g : Cells wr (w.heap.size + 2) 52 [.int .i64 (h.node.length : Int),v]
 o : ArcsO K wr v (arcsTo h k)
 b : Below w.heap.size w wr
theorem RGI.below {K : Nat} {A : HA} {h : HierD} {k : Nat} {v : Value} {w wr wy : World} (s : RGI K A h k v w wr) (o : Below wr.heap.size wr wy) : RGI K A h k v w wy :=
 ⟨s.x.below o s.x.lt,s.r.below o s.r.lt,s.g.below o s.g.lt,s.o.below o,s.b.trans (o.mono s.b.size)⟩
theorem rgraph_any (A : HA) (h : HierD) (w : World) (see : HSee w A h) (hc : checkErr h = .nil) (htot : h.up.length + h.dn.length ≤ 1048576) : Calls Tryz.prog 23 #[hierVal A h] w (ROfPost h.node.length (arcsL h) w) := by
 obtain ⟨fit, -, -,ho, -⟩ := checkErr_parts hc
 obtain ⟨u,d⟩ := parts_firsts hc
 have hn := fit.n
 obtain ⟨N,hN⟩ : ∃ N,(endsOf h).length = N := ⟨_,rfl⟩
 have hNc : N = h.up.length + h.dn.length := by rw [← hN]; exact cnt_ends hc
 have hNb : N ≤ 1048576 := by omega
 have SEE := Lib.hid see
 have HC := Lib.hid hc
 have HN := Lib.hid hN
 have HU := Lib.hid u
 have HD := Lib.hid d
 have HTOT := Lib.hid htot
 have HNC := Lib.hid hNc
 have HAR := Lib.hid (fun W s => arcs_any A h W s u d hn htot)
 unfold hierVal at HAR
 have r0 := Cells.new (w.alloc (.cells (hierCells A h).toArray 25)) 52 [.int .i64 0, .slice none 0 0]
 rw [show (w.alloc (.cells (hierCells A h).toArray 25)).heap.size = w.heap.size + 1 by simp] at r0
 have c0 := Cells.new ((w.alloc (.cells (hierCells A h).toArray 25)).alloc (.cells #[.int .i64 0, .slice none 0 0] 52)) 52 [.int .i64 (h.node.length : Int), .slice none 0 0]
 rw [show ((w.alloc (.cells (hierCells A h).toArray 25)).alloc (.cells #[.int .i64 0, .slice none 0 0] 52)).heap.size = w.heap.size + 2 by simp] at c0
 have hI := fun K => (RGI.mk (K := K) (A := A) (h := h) (k := 0) (v := .slice none 0 0) (w := w) (((Cells.new w 25 (hierCells A h)).alloc _).alloc _) (r0.alloc _) c0 (ArcsO.nil _ _) ((((Below.refl w.heap.size w).alloc (Nat.le_refl _) _).alloc (by simp) _).alloc (by simp; omega) _))
 have HI := Lib.hid hI
 clear hI see hc hN u d htot hNc ho r0 c0 fit
 unfold hierVal
 go_enter Tryz.func23, Tryz.ntmps23
 go_wp2_with fail
 refine (HAR.out _ (SEE.out.below (HI.out 0).b)).mono ?_
 rintro e w1 ⟨aa,ac,rfl,sa,hnew,hb1⟩
 have HI1 := Lib.hid ((HI.out w1.heap.size).below hb1)
 have hw1 : w.heap.size + 3 ≤ w1.heap.size := by have := hb1.size; simp at this; omega
 have SA := Lib.hid sa
 have HNEW := Lib.hid (show ∀ b o,aa = some ⟨b,o,none⟩ → w.heap.size + 3 ≤ b from fun b o e => by have := hnew b o e; simp at this; omega)
 clear sa hb1 hnew HI
 rw [HN.out]
 go_wp2_with fail
 go_loopg [14,4] N (fun gg vi v4 wr => ∃ (k : Nat) (v : Value),vi = .int .i64 k ∧ k ≤ N ∧ gg = N - k ∧ RGI w1.heap.size A h k v w wr ∧ See wr aa ac rendCells 3 (endsOf h) ∧ w1.heap.size ≤ wr.heap.size)
 case atStart => exact ⟨0, .slice none 0 0,rfl,Nat.zero_le _,rfl,HI1.out,SA.out,Nat.le_refl _⟩
 case round =>
  obtain ⟨k,v,rfl,hk,hg,hi,hbw,hw1r⟩ := hrel
  have HG := Lib.hid hg
  have HI2 := Lib.hid hi
  have HBW := Lib.hid hbw
  obtain ⟨k0,k1,k2,k3,k4⟩ := hier_five hi.x
  have lx := hi.x.lt
  clear hg HI1
  by_cases hkN : k < N
  ·obtain ⟨x,hx⟩ : ∃ x,(endsOf h)[k]? = some x := ⟨_,List.getElem?_eq_getElem (by rw [HN.out]; exact hkN)⟩
   obtain ⟨b,o,ea,cc⟩ := hbw.cell k x hx
   have e0 := cc 0 _ rfl
   have e1 := cc 1 _ rfl
   have e2 := cc 2 _ rfl
   have hbw1 : b < w1.heap.size := by
    obtain ⟨b',o',ea',cc'⟩ := SA.out.cell k x hx
    rw [ea] at ea'
    simp only [Option.some.injEq,Addr.mk.injEq,and_true] at ea'
    obtain ⟨rfl,rfl⟩ := ea'
    exact block_lt (cc' 0 _ rfl)
   have hbw2 := HNEW.out b o ea
   rw [Nat.add_zero] at e0
   have lb := block_lt e0
   have hmem := List.mem_of_getElem? hx
   have hkc : k < cntOf h := by rw [← cnt_ends HC.out,HN.out]; exact hkN
   have hexa : endAt h k = x := by unfold endAt; rw [List.getD_eq_getElem?_getD,hx]; rfl
   have hlk := endAt_link HC.out hkc
   rw [hexa] at hlk
   have hok := linkAt_ok SEE.out k hkc
   have HLK := Lib.hid (fun W s => rlink_any A h k W s hkc (by have := HTOT.out; omega))
   unfold hierVal at HLK
   rw [← hlk] at HLK hok
   have HPL := Lib.hid (fun W => rplain_any x.link W hok)
   unfold LinkIs linkVal at HLK
   unfold linkVal at HPL
   have EA := Lib.hid ea
   have HX := Lib.hid (And.intro hx (And.intro hmem hkc))
   have HRC := Lib.hid (show rendCells x = [.int .i64 x.tail, .int .i64 x.head, .int .i64 x.rank] from rfl)
   clear cc ea hx hmem hexa hlk hok hi hbw
   rw [EA.out]
   go_wp2_with fail
   refine (HLK.out _ ((SEE.out.below HI2.out.b).below ((Below.refl _ _).alloc (Nat.le_refl _) _))).mono ?_
   rintro e w2 ⟨rfl,hb2⟩
   have hba := (Below.refl wr.heap.size wr).alloc (Nat.le_refl _) (.cells #[.int .i64 x.tail, .int .i64 x.head, .int .i64 x.rank] 59)
   have hbb := hba.trans (hb2.mono (by simp))
   have hi3 := HI2.out.below hbb
   have hae := (Cells.new wr 59 [.int .i64 x.tail, .int .i64 x.head, .int .i64 x.rank]).below hb2 (by simp)
   have hsz2 : wr.heap.size + 1 ≤ w2.heap.size := by have := hb2.size; simp at this; omega
   have HI3 := Lib.hid hi3
   have HAE := Lib.hid hae
   have HBW3 := Lib.hid (HBW.out.below hbb)
   clear hba hbb hi3 hae hb2 e0 e1 e2 lb k0 k1 k2 k3 k4
   go_wp2_with fail
   refine (HPL.out _).mono ?_
   rintro e w3 ⟨rfl,hb3⟩
   have hba := (Below.refl w2.heap.size w2).alloc (Nat.le_refl _) (.cells #[.int .u32 x.link.to, .int .u64 x.link.wt, .int .u32 x.link.left, .int .u32 x.link.right] 65)
   have hbb := hba.trans (hb3.mono (by simp))
   have hi4 := HI3.out.below hbb
   have hae4 := HAE.out.below hbb HAE.out.lt
   have hll := (Cells.new w2 65 [.int .u32 x.link.to, .int .u64 x.link.wt, .int .u32 x.link.left, .int .u32 x.link.right]).below hb3 (by simp)
   have HI4 := Lib.hid hi4
   have HAE4 := Lib.hid hae4
   have HLL := Lib.hid hll
   have HBW4 := Lib.hid (HBW3.out.below hbb)
   have hsz3 : w2.heap.size + 1 ≤ w3.heap.size := by have := hb3.size; simp at this; omega
   clear hba hbb hi4 hae4 hll hb3
   cases hpl : x.link.plain with
   | false =>
    have hs : arcsTo h (k + 1) = arcsTo h k := by rw [arcsTo_succ h k x HX.out.1,hpl]; simp
    have HS := Lib.hid hs
    clear hs hpl
    go_wp2_with fail
    rw [← EA.out]
    go_roundg (N - (k + 1))
    case measure => rw [HG.out]; omega
    case rel => exact ⟨k + 1,v,by go_num,by omega,rfl,⟨HI4.out.x,HI4.out.r,HI4.out.g,by rw [HS.out]; exact HI4.out.o,HI4.out.b⟩,HBW4.out,by omega⟩
   | true =>
    have HPP := Lib.hid hpl
    clear hpl
    obtain ⟨hq0,hq1⟩ := ends_lt HC.out HX.out.2.1
    obtain ⟨hv0,n0⟩ := node_lt HC.out hq0
    obtain ⟨hv1,n1⟩ := node_lt HC.out hq1
    have hwt := plain_wt HC.out HX.out.2.1 HPP.out
    obtain ⟨va,vb,vc⟩ := arcOf_vals HC.out HX.out.2.1 HPP.out
    have hcx : arcCells (arcOf h x) = [.int .i64 (nodeAt h x.tail : Int), .int .i64 (nodeAt h x.head : Int), .int .i64 (x.link.wt : Int)] := by unfold arcCells; rw [va,vb,vc]
    obtain ⟨b0,o0,ea0,cc0⟩ := SEE.out.node.cell _ _ n0
    obtain ⟨b0',o0',ea1,cc1⟩ := SEE.out.node.cell _ _ n1
    rw [ea0] at ea1
    simp only [Option.some.injEq,Addr.mk.injEq,and_true] at ea1
    obtain ⟨rfl,rfl⟩ := ea1
    have z0 := ck HI4.out.b (cc0 0 _ rfl)
    have z1 := ck HI4.out.b (cc1 0 _ rfl)
    have lb0 := block_lt (cc0 0 _ rfl)
    rw [Nat.mul_one,Nat.add_zero] at z0 z1
    obtain ⟨k0, -, -, -, -⟩ := hier_five HI4.out.x
    rw [ea0] at k0
    clear ea0
    have y1 : w3.cell? ⟨wr.heap.size,0,none⟩ = some (.int .i64 (x.tail : Int)) := HAE4.out.cell rfl
    have y4 : w3.cell? ⟨wr.heap.size,1,none⟩ = some (.int .i64 (x.head : Int)) := HAE4.out.cell rfl
    have y5 : w3.cell? ⟨w2.heap.size,1,none⟩ = some (.int .u64 (x.link.wt : Int)) := HLL.out.cell rfl
    obtain ⟨ao,cap,hv⟩ := HI4.out.o.form
    subst hv
    obtain ⟨M,hM⟩ : ∃ M,(arcsTo h k).length = M := ⟨_,rfl⟩
    have hMk : M ≤ k := by rw [← hM]; exact arcsTo_len h k
    have hown := HI4.out.o.own
    have hnew := HI4.out.o.new
    have hlo2 := HI2.out.o
    rw [hM] at hown hnew hlo2
    have hlt2 : ∀ q,(Value.slice ao M cap).ownBlock = some q → q < wr.heap.size := fun q hq => (hlo2.own.lt q hq).2
    have HCX := Lib.hid hcx
    have HM := Lib.hid hM
    have HNW := Lib.hid hnew
    have HLT := Lib.hid hlt2
    have hgc := HI4.out.g
    have lg2 := HI2.out.g.lt
    rw [hM] at hgc
    go_wp2_with fail
    change Code.wp _ ((regionAt 7 rgBody).getD .skip) _ _ _
    refine rgraph_app k0 y1 y4 y5 hgc z0 z1 hq0 hq1 (by omega) (by omega) hwt (by omega) hown (fun hm => by have := HNW.out _ (own_mem hm); omega) (fun hm => by have := HNW.out _ (own_mem hm); omega) (fun hm => by have := HLT.out _ (own_mem hm); omega) (fun hm => by have := HLT.out _ (own_mem hm); omega) (fun hm => by have := HNW.out _ (own_mem hm); omega) (by omega) (by omega) (by omega) (by omega) ?_
    intro ao5 cap5 w5 t24 t25 t26 t27 t28 t29 t30 t31 t32 t33 t34 t35 t36 t37 t38 t39 t40 t41 t42 t43 t44 t45 t46 hown5 ho5 hk5 hc5
    have hsz5 := ho5.size
    have hs : arcsTo h (k + 1) = arcsTo h k ++ [arcOf h x] := by rw [arcsTo_succ h k x HX.out.1,HPP.out]; rfl
    have hn5 : ArcsO w1.heap.size w5 (.slice ao5 (M + 1) cap5) (arcsTo h (k + 1)) := by
     rw [hs]
     have := HI4.out.o.app [arcOf h x] (m := 1) rfl (ao := ao5) (cap := cap5) (w5 := w5) (by rw [HM.out,List.flatMap_singleton,HCX.out]; exact hown5) (by rw [HM.out]; exact hk5) (by omega)
     rwa [HM.out] at this
    have hout : ∀ q,q < w.heap.size + 3 → q ∉ (Value.slice ao M cap).ownBlock.toList := fun q h1 h2 => by have := HNW.out _ (own_mem h2); omega
    have hO : Only [w.heap.size + 2] w5 (w5.setCell ⟨w.heap.size + 2,1,none⟩ (.slice ao5 (M + 1) cap5)) := (Only.refl _ w5).setCell (p := ⟨w.heap.size + 2,1,none⟩) (by simp) _
    have hb5 : Below w.heap.size w w5 := HI4.out.b.trans (ho5.below (B := w.heap.size) HI4.out.b.size (fun q hq => by have := HNW.out _ (own_mem hq); omega))
    have HS5 := Lib.hid ((HBW4.out.kept ho5 (fun b' o' e' hm => by
     rw [EA.out] at e'
     simp only [Option.some.injEq,Addr.mk.injEq,and_true] at e'
     have := HNW.out _ (own_mem hm)
     omega)).kept hO (fun b' o' e' hm => by
     rw [EA.out] at e'
     simp only [Option.some.injEq,Addr.mk.injEq,and_true] at e'
     simp at hm
     omega))
    have HE := Lib.hid (RGI.mk (K := w1.heap.size) (A := A) (h := h) (k := k + 1) (v := .slice ao5 (M + 1) cap5) (w := w) ((HI4.out.x.kept ho5 (hout _ (by omega))).kept hO (by simp)) ((HI4.out.r.kept ho5 (hout _ (by omega))).kept hO (by simp)) (hc5.set 1 _) (hn5.kept hO (fun q hq hm => by have := hn5.new q hq; simp at hm; omega)) (hb5.trans (hO.below (B := w.heap.size) hb5.size (fun q hq => by simp at hq; omega))))
    clear hown5 ho5 hk5 hc5 hs hn5 hout hO hb5
    go_wp2_with fail
    rw [← EA.out]
    go_roundg (N - (k + 1))
    case measure => rw [HG.out]; omega
    case rel => exact ⟨k + 1, .slice ao5 (M + 1) cap5,by go_num,by omega,rfl,HE.out,HS5.out,by simp; omega⟩
  ·obtain rfl : k = N := by omega
   have c0 : wr.cell? ⟨w.heap.size + 2,0,none⟩ = some (.int .i64 (h.node.length : Int)) := hi.g.cell rfl
   have c1 : wr.cell? ⟨w.heap.size + 2,1,none⟩ = some v := hi.g.cell rfl
   have lg := hi.g.lt
   have hall := arcsTo_all h
   rw [HN.out] at hall
   have ho := hi.o
   rw [hall] at ho
   obtain ⟨ao,cap,rfl⟩ := ho.form
   have hcl := arcs_clean HC.out
   have hle := arcsTo_len h k
   rw [hall] at hle
   have HOF := Lib.hid (rof_any h.node.length ao (arcsL h).length cap (arcsL h) wr ho.see.1 rfl (by have := HNC.out; have := HTOT.out; omega) hcl.ne hcl.nd)
   clear hi hbw ho hcl hall hle k1 k2 k3 k4
   go_wp2_with fail
   refine HOF.out.mono ?_
   rintro e w2 ⟨ao2,cap2,l2,rfl,hp2,ho2,hb2⟩
   have hr2 := HI2.out.r.below hb2 HI2.out.r.lt
   have r0 : w2.cell? ⟨w.heap.size + 1,0,none⟩ = some (.int .i64 0) := hr2.cell rfl
   have r1 : w2.cell? ⟨w.heap.size + 1,1,none⟩ = some (.slice none 0 0) := hr2.cell rfl
   have f0 := hr2.frozen 0
   have f1 := hr2.frozen 1
   have lr := hr2.lt
   have HR2 := Lib.hid hr2
   have HP2 := Lib.hid hp2
   have HO2 := Lib.hid ho2
   have HB2 := Lib.hid (HI2.out.b.trans (hb2.mono HI2.out.b.size))
   clear hr2 hp2 ho2 hb2 c0 c1
   go_wp2_with fail
   refine bodyPost_ret (results_e rfl _ _ (w.heap.size + 1) 52 [.int .i64 (h.node.length : Int), .slice ao2 l2.length cap2] _ rfl ((HR2.out.set 0 _).set 1 _) Tryz.underlying52 rfl (by rw [Tryz.sizeGraph]; rfl)) rfl ?_
   have hO : Only [w.heap.size + 1] w2 ((w2.setCell ⟨w.heap.size + 1,0,none⟩ (.int .i64 (h.node.length : Int))).setCell ⟨w.heap.size + 1,1,none⟩ (.slice ao2 l2.length cap2)) := ((Only.refl _ w2).setCell (p := ⟨w.heap.size + 1,0,none⟩) (by simp) _).setCell (p := ⟨w.heap.size + 1,1,none⟩) (by simp) _
   have lg3 : w.heap.size + 3 ≤ wr.heap.size := by omega
   exact ⟨ao2,cap2,l2,rfl,HP2.out,(HO2.out.kept hO (fun q hq hm => by
     have := HO2.out.new q hq
     simp at hm
     omega)).mono (by omega),HB2.out.trans (hO.below (B := w.heap.size) HB2.out.size (fun q hq => by simp at hq; omega))⟩
def RPathNew (h : HierD) (s t : Int) (w : World) (e : Ending) (w' : World) : Prop :=
 ∃ (r : Nat) (d : Int) (x : EV) (v : Value),e = .returned (.tuple #[.int .u64 d,v]) ∧ ErrV w' v x ∧ MeetIs h s t r d x ∧ Below w.heap.size w w'
theorem rdocpath_any (A : HA) (h : HierD) (s t : Int) (w : World) (see : HSee w A h) (hk1 : h.up.length ≤ 140737488355328) (hk2 : h.dn.length ≤ 140737488355328) (hn64 : h.node.length ≤ 140737488355328) :
  Calls Tryz.prog 20 #[hierVal A h, .int .i64 s, .int .i64 t] w (RPathNew h s t w) := by
 have SEE := Lib.hid see
 have hb0 := ((Below.refl w.heap.size w).alloc (Nat.le_refl _) (.cells (hierCells A h).toArray 25)).alloc (by simp) (.cells errZero.toArray 36)
 have r0 := cells_at (w := w.alloc (.cells (hierCells A h).toArray 25)) (b := w.heap.size + 1) (by simp) 36 errZero
 have HB := Lib.hid hb0
 have HR := Lib.hid r0
 have HDM := Lib.hid (fun W s' => rdocmeet_any A h s t W s' hk1 hk2 hn64)
 unfold hierVal at HDM
 clear see hb0 r0
 unfold hierVal
 go_enter Tryz.func20, Tryz.ntmps20
 go_wp2_with fail
 refine (HDM.out _ (SEE.out.below HB.out)).mono ?_
 rintro e w1 ⟨r,d,x,v,rfl,hv,hm,hb⟩
 obtain ⟨uc,ua,un,ucap,rfl⟩ := hv.form
 have ho := (Below.refl w1.heap.size w1).alloc (Nat.le_refl _) (.cells #[.int .i64 uc, .slice ua un ucap] 36)
 have hr2 := (HR.out.below hb HR.out.lt).alloc (.cells #[.int .i64 uc, .slice ua un ucap] 36)
 have hf2 := Cells.new w1 36 [.int .i64 uc, .slice ua un ucap]
 have HB2 := Lib.hid ((HB.out.trans (hb.mono HB.out.size)).alloc (HB.out.trans (hb.mono HB.out.size)).size (.cells #[.int .i64 uc, .slice ua un ucap] 36))
 have HV2 := Lib.hid (hv.below ho)
 have HM := Lib.hid hm
 obtain ⟨bf,hbf⟩ : ∃ bf,w1.heap.size = bf := ⟨_,rfl⟩
 obtain ⟨wz,hwz⟩ : ∃ wz,w1.alloc (.cells #[.int .i64 uc, .slice ua un ucap] 36) = wz := ⟨_,rfl⟩
 have hlt := (HR.out.below hb HR.out.lt).lt
 rw [hbf] at hf2 hlt
 rw [hwz] at hr2 hf2 HB2 HV2
 have y0 : wz.cell? ⟨bf,0,none⟩ = some (.int .i64 uc) := hf2.cell rfl
 have y1 : wz.cell? ⟨bf,1,none⟩ = some (.slice ua un ucap) := hf2.cell rfl
 have z0 : wz.cell? ⟨w.heap.size + 1,0,none⟩ = some (.int .i64 0) := hr2.cell rfl
 have z1 : wz.cell? ⟨w.heap.size + 1,1,none⟩ = some (.slice none 0 0) := hr2.cell rfl
 have g0 := hr2.frozen 0
 have g1 := hr2.frozen 1
 have lr := hr2.lt
 have lf := hf2.lt
 have ne1 : bf ≠ w.heap.size + 1 := by omega
 have ne2 : w.heap.size + 1 ≠ bf := by omega
 have HR2 := Lib.hid hr2
 clear hb ho hr2 hf2 hv hm
 go_wp2_with fail
 try rw [hwz]
 try rw [hbf]
 clear hbf hwz
 go_region
 all_goals (try dsimp only [Exit.then])
 all_goals go_wp2_with fail
 all_goals refine bodyPost_ret (results_te3 rfl _ _ (w.heap.size + 1) 36 [.int .i64 uc, .slice ua un ucap] _ rfl ((HR2.out.drew.set 0 _).set 1 _) Tryz.underlying36 rfl (by rw [Tryz.sizeErr]; rfl)) rfl ?_
 all_goals exact ⟨r,d,x,_,rfl,(HV2.out.below (Below.refl _ _).drew).put HR2.out.drew _ _,HM.out,((HB2.out.drew).setCell (p := ⟨w.heap.size + 1,0,none⟩) (by simp) _).setCell (p := ⟨w.heap.size + 1,1,none⟩) (by simp) _⟩
def GreatIs (h : HierD) (w : World) (e : Ending) (w' : World) : Prop := ∃ b,e = .returned (.bool b) ∧ (b = false → cntOf h ≤ 2000 ∨ 1048576 < cntOf h) ∧ Below w.heap.size w w'
theorem great22v_any (A : HA) (h : HierD) (w : World) (hk : h.up.length + h.dn.length ≤ 281474976710656) : Calls Tryz.prog 10 #[hierVal A h] w (GreatIs h w) := by
 unfold hierVal
 go_enter Tryz.func10, Tryz.ntmps10
 go_wp2_with fail
 refine (count_any A h _).mono ?_
 rintro e w1 ⟨c,rfl,hc,hb⟩
 rw [IntWalk.wrap64_in _ (by omega)] at hc
 have HCV := Lib.hid hc
 have hbx1 := (Cells.new w 25 (hierCells A h)).below hb (by simp)
 have HB1 := Lib.hid (((Below.refl w.heap.size w).alloc (Nat.le_refl _) _).trans (hb.mono (by simp)))
 obtain ⟨k0,k1,k2,k3,k4⟩ := hier_five hbx1
 clear hb hbx1 hc
 by_cases hd : 2000 < c
 ·have d1 : decide (2000 < c) = true := by simpa using hd
  clear hd
  go_wp2_with fail
  refine (count_any A h _).mono ?_
  rintro e w2 ⟨c2,rfl,hc2,hb⟩
  rw [IntWalk.wrap64_in _ (by omega)] at hc2
  have HC2 := Lib.hid hc2
  have HB2 := Lib.hid (HB1.out.trans (hb.mono HB1.out.size))
  clear hb k0 k1 k2 k3 k4 hc2
  go_wp2
  go_returns
  refine ⟨_,rfl,fun h1 => .inr ?_,HB2.out⟩
  have := HC2.out
  unfold cntOf
  simp only [decide_eq_false_iff_not] at h1
  omega
 ·have d1 : decide (2000 < c) = false := by simpa using hd
  have HD := Lib.hid hd
  clear hd
  go_wp2
  go_returns
  refine ⟨_,rfl,fun _ => .inl ?_,HB1.out⟩
  have := HCV.out
  have := HD.out
  unfold cntOf
  omega
theorem samewords_any (l : List Nat) (ao bo : Option Addr) (ca cb : Nat) (w : World) (sa : See w ao ca u32Cells 1 l) (sb : See w bo cb u32Cells 1 l) :
  Calls Tryz.prog 56 #[.slice ao l.length ca, .slice bo l.length cb] w (BoolIs true w) := by
 have hl := Nat.le_trans sa.hcap sa.hmax
 have SA := Lib.hid sa
 have SB := Lib.hid sb
 clear sa sb
 simp only [maxLen] at hl
 go_enter Tryz.func56, Tryz.ntmps56
 go_wp2_with fail
 go_loopg [13] l.length (fun g vi wr => ∃ k : Nat,vi = .int .i64 k ∧ k ≤ l.length ∧ g = l.length - k ∧ Below w.heap.size w wr)
 case atStart => exact ⟨0,rfl,Nat.zero_le _,rfl,Below.refl _ _⟩
 case round =>
  obtain ⟨k,rfl,hk,hg,hb⟩ := hrel
  obtain ⟨wo,rfl⟩ : ∃ wo : World,wo = wr := ⟨_,rfl⟩
  have HG := Lib.hid hg
  have HB := Lib.hid hb
  clear hg hb
  by_cases hlt : k < l.length
  ·obtain ⟨x,hx⟩ : ∃ x,l[k]? = some x := ⟨_,List.getElem?_eq_getElem hlt⟩
   obtain ⟨b1,o1,e1,cc1⟩ := SA.out.cell k x hx
   obtain ⟨b2,o2,e2,cc2⟩ := SB.out.cell k x hx
   have c1 := ck HB.out (cc1 0 _ rfl)
   have c2 := ck HB.out (cc2 0 _ rfl)
   rw [Nat.mul_one,Nat.add_zero] at c1 c2
   have E1 := Lib.hid e1
   have E2 := Lib.hid e2
   clear hx cc1 cc2 e1 e2
   rw [E1.out,E2.out]
   go_wp2_with fail
   go_quiet (fail)
   go_wp2_with fail
   rw [← E1.out, ← E2.out]
   go_roundg (l.length - (k + 1))
   case measure => rw [HG.out]; omega
   case rel => exact ⟨k + 1,by go_num,by omega,rfl,below_drewN HB.out _⟩
  ·obtain rfl : k = l.length := by omega
   go_wp2
   go_returns
   exact ⟨rfl,HB.out⟩
theorem Tryz.linkNeqSame (a b c d : Int) (w : World) : (binOp .neq 65 (.agg #[.int .u32 a, .int .u64 b, .int .u32 c, .int .u32 d]) (.agg #[.int .u32 a, .int .u64 b, .int .u32 c, .int .u32 d])).run Tryz.prog w = .ok (.bool false) w := by
 have hp : Tryz.prog.stoodInHeld 65 = false := by kernel_rfl
 rw [run_neq_struct,run_equalIn_agg w 9999 65 _ _ (by kernel_rfl) hp]
 simp only [Program.fieldsOf, Tryz.underlying65]
 simp [go_sem,Op.eqFields, Tryz.underlying62, Tryz.underlying45]
theorem Tryz.linkGuard : Tryz.prog.eqGuardType Tryz.prog.depth 65 = false := by kernel_rfl
theorem samelinks_any (l : List LinkD) (ao bo : Option Addr) (ca cb : Nat) (w : World) (sa : See w ao ca linkCells 4 l) (sb : See w bo cb linkCells 4 l) :
  Calls Tryz.prog 57 #[.slice ao l.length ca, .slice bo l.length cb] w (BoolIs true w) := by
 have hl := Nat.le_trans sa.hcap sa.hmax
 have SA := Lib.hid sa
 have SB := Lib.hid sb
 clear sa sb
 simp only [maxLen] at hl
 go_enter Tryz.func57, Tryz.ntmps57
 go_wp2_with fail
 go_loopg [13] l.length (fun g vi wr => ∃ k : Nat,vi = .int .i64 k ∧ k ≤ l.length ∧ g = l.length - k ∧ Below w.heap.size w wr)
 case atStart => exact ⟨0,rfl,Nat.zero_le _,rfl,Below.refl _ _⟩
 case round =>
  obtain ⟨k,rfl,hk,hg,hb⟩ := hrel
  obtain ⟨wo,rfl⟩ : ∃ wo : World,wo = wr := ⟨_,rfl⟩
  have HG := Lib.hid hg
  have HB := Lib.hid hb
  clear hg hb
  by_cases hlt : k < l.length
  ·obtain ⟨x,hx⟩ : ∃ x,l[k]? = some x := ⟨_,List.getElem?_eq_getElem hlt⟩
   obtain ⟨b1,o1,e1,cc1⟩ := SA.out.cell k x hx
   obtain ⟨b2,o2,e2,cc2⟩ := SB.out.cell k x hx
   have c0 := ck HB.out (cc1 0 _ rfl)
   have d0 := ck HB.out (cc2 0 _ rfl)
   have c1 := ck HB.out (cc1 1 _ rfl)
   have d1 := ck HB.out (cc2 1 _ rfl)
   have c2 := ck HB.out (cc1 2 _ rfl)
   have d2 := ck HB.out (cc2 2 _ rfl)
   have c3 := ck HB.out (cc1 3 _ rfl)
   have d3 := ck HB.out (cc2 3 _ rfl)
   simp only [Nat.add_zero] at c0 d0
   have hne := Tryz.linkNeqSame x.to x.wt x.left x.right
   have hem := Tryz.linkGuard
   have E1 := Lib.hid e1
   have E2 := Lib.hid e2
   clear hx cc1 cc2 e1 e2
   rw [E1.out,E2.out]
   go_wp2_with fail
   go_quiet (fail)
   go_wp2_with fail
   rw [← E1.out, ← E2.out]
   go_roundg (l.length - (k + 1))
   case measure => rw [HG.out]; omega
   case rel => exact ⟨k + 1,by go_num,by omega,rfl,below_drewN HB.out _⟩
  ·obtain rfl : k = l.length := by omega
   go_wp2
   go_returns
   exact ⟨rfl,HB.out⟩
theorem rsame_any (A B : HA) (h : HierD) (w : World) (sa : HSee w A h) (sb : HSee w B h) : Calls Tryz.prog 30 #[hierVal A h,hierVal B h] w (BoolIs true w) := by
 have SA := Lib.hid sa
 have SB := Lib.hid sb
 have hx := (Cells.new w 25 (hierCells A h)).alloc (.cells (hierCells B h).toArray 25)
 have hy : Cells ((w.alloc (.cells (hierCells A h).toArray 25)).alloc (.cells (hierCells B h).toArray 25)) (w.heap.size + 1) 25 (hierCells B h) := cells_at (by simp) _ _
 have hb := ((Below.refl w.heap.size w).alloc (Nat.le_refl _) (.cells (hierCells A h).toArray 25)).alloc (by simp) (.cells (hierCells B h).toArray 25)
 obtain ⟨wz,hwz⟩ : ∃ wz,(w.alloc (.cells (hierCells A h).toArray 25)).alloc (.cells (hierCells B h).toArray 25) = wz := ⟨_,rfl⟩
 rw [hwz] at hx hy hb
 have HX := Lib.hid hx
 have HY := Lib.hid hy
 have HB := Lib.hid hb
 clear sa sb hx hy hb
 unfold hierVal
 go_enter Tryz.func30, Tryz.ntmps30
 apply wp_seq_k
 intro K1 hK
 have HK1 := Lib.hid hK
 clear hK
 go_wp2_with fail
 try rw [show (w.alloc (.cells #[.slice A.a0 h.node.length A.c0, .slice A.a1 h.upF.length A.c1, .slice A.a2 h.up.length A.c2, .slice A.a3 h.dnF.length A.c3, .slice A.a4 h.dn.length A.c4] 25)).alloc (.cells #[.slice B.a0 h.node.length B.c0, .slice B.a1 h.upF.length B.c1, .slice B.a2 h.up.length B.c2, .slice B.a3 h.dnF.length B.c3, .slice B.a4 h.dn.length B.c4] 25) = wz from hwz]
 clear hwz
 refine HK1.out _ _ ?_
 clear HK1
 obtain ⟨k0,k1,k2,k3,k4⟩ := hier_five HX.out
 obtain ⟨j0,j1,j2,j3,j4⟩ := hier_five HY.out
 go_wp2_with fail
 refine (samewords_any h.node _ _ _ _ _ (SA.out.below HB.out).node (SB.out.below HB.out).node).mono ?_
 rintro e w1 ⟨rfl,hb⟩
 have HX1 := Lib.hid (HX.out.below hb HX.out.lt)
 have HY1 := Lib.hid (HY.out.below hb HY.out.lt)
 have HB1 := Lib.hid (HB.out.trans (hb.mono HB.out.size))
 clear hb HX HY HB k0 k1 k2 k3 k4 j0 j1 j2 j3 j4
 have HX := HX1
 have HY := HY1
 have HB := HB1
 clear HX1 HY1 HB1
 obtain ⟨k0,k1,k2,k3,k4⟩ := hier_five HX.out
 obtain ⟨j0,j1,j2,j3,j4⟩ := hier_five HY.out
 go_wp2_with fail
 refine (samewords_any h.upF _ _ _ _ _ (SA.out.below HB.out).upF (SB.out.below HB.out).upF).mono ?_
 rintro e w2 ⟨rfl,hb⟩
 have HX2 := Lib.hid (HX.out.below hb HX.out.lt)
 have HY2 := Lib.hid (HY.out.below hb HY.out.lt)
 have HB2 := Lib.hid (HB.out.trans (hb.mono HB.out.size))
 clear hb HX HY HB k0 k1 k2 k3 k4 j0 j1 j2 j3 j4
 have HX := HX2
 have HY := HY2
 have HB := HB2
 clear HX2 HY2 HB2
 obtain ⟨k0,k1,k2,k3,k4⟩ := hier_five HX.out
 obtain ⟨j0,j1,j2,j3,j4⟩ := hier_five HY.out
 go_wp2_with fail
 refine (samewords_any h.dnF _ _ _ _ _ (SA.out.below HB.out).dnF (SB.out.below HB.out).dnF).mono ?_
 rintro e w3 ⟨rfl,hb⟩
 have HX3 := Lib.hid (HX.out.below hb HX.out.lt)
 have HY3 := Lib.hid (HY.out.below hb HY.out.lt)
 have HB3 := Lib.hid (HB.out.trans (hb.mono HB.out.size))
 clear hb HX HY HB k0 k1 k2 k3 k4 j0 j1 j2 j3 j4
 have HX := HX3
 have HY := HY3
 have HB := HB3
 clear HX3 HY3 HB3
 obtain ⟨k0,k1,k2,k3,k4⟩ := hier_five HX.out
 obtain ⟨j0,j1,j2,j3,j4⟩ := hier_five HY.out
 go_wp2_with fail
 refine (samelinks_any h.up _ _ _ _ _ (SA.out.below HB.out).up (SB.out.below HB.out).up).mono ?_
 rintro e w4 ⟨rfl,hb⟩
 have HX4 := Lib.hid (HX.out.below hb HX.out.lt)
 have HY4 := Lib.hid (HY.out.below hb HY.out.lt)
 have HB4 := Lib.hid (HB.out.trans (hb.mono HB.out.size))
 clear hb HX HY HB k0 k1 k2 k3 k4 j0 j1 j2 j3 j4
 have HX := HX4
 have HY := HY4
 have HB := HB4
 clear HX4 HY4 HB4
 obtain ⟨k0,k1,k2,k3,k4⟩ := hier_five HX.out
 obtain ⟨j0,j1,j2,j3,j4⟩ := hier_five HY.out
 go_wp2_with fail
 refine (samelinks_any h.dn _ _ _ _ _ (SA.out.below HB.out).dn (SB.out.below HB.out).dn).mono ?_
 rintro e w5 ⟨rfl,hb⟩
 have HX5 := Lib.hid (HX.out.below hb HX.out.lt)
 have HY5 := Lib.hid (HY.out.below hb HY.out.lt)
 have HB5 := Lib.hid (HB.out.trans (hb.mono HB.out.size))
 clear hb HX HY HB k0 k1 k2 k3 k4 j0 j1 j2 j3 j4
 have HX := HX5
 have HY := HY5
 have HB := HB5
 clear HX5 HY5 HB5
 go_wp2
 go_returns
 exact ⟨rfl,HB.out⟩
end Go.Proofs.YtchhbgckonpedaaGreatDoor
