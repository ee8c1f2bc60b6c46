/- The reference's copy of a hierarchy: Twin. -/
import Derived.Test.YtchhbgckonpedaaGreatDoorE17
import Derived.Deep.RegionHeld3
import Derived.Deep.AppendLies
import Derived.Laws.EntriesVeiled
import Derived.Sort.AtCall
set_option linter.unusedSimpArgs false
set_option maxRecDepth 100000
set_option maxHeartbeats 8000000
namespace Go.Proofs.YtchhbgckonpedaaGreatDoor
open Go.ChangeShapes Go.WideShapes Go.ChangeAt Go.RowKit Go.Joins Go.Deep
theorem Tryz.sizeHier5 : (Tryz.prog.info? 25).map (·.size) = some 5 := by kernel_rfl
theorem five_end (D : HierD) (B : Nat) (bn : ∀ x ∈ D.node,x < 4294967296) (bu : ∀ x ∈ D.upF,x < 4294967296) (bd : ∀ x ∈ D.dnF,x < 4294967296) (bup : ∀ l ∈ D.up,l.ok) (bdn : ∀ l ∈ D.dn,l.ok) {wz wm wn wp wq wr : World} {am an ap aq ar : Option Addr} {cm cn cp cq cr : Nat} (lk : B < wz.heap.size)
  (sm : See wm am cm u32Cells 1 D.node) (gm : SForm am cm ∧ ∀ b o,am = some ⟨b,o,none⟩ → wz.drew.heap.size ≤ b) (lm : B < wm.heap.size)
  (sn : See wn an cn u32Cells 1 D.upF) (gn : SForm an cn ∧ ∀ b o,an = some ⟨b,o,none⟩ → wm.heap.size ≤ b) (ln : B < wn.heap.size)
  (sp : wp.ownsRow 0 65 4 (.slice ap D.up.length cp) D.up.length (D.up.flatMap linkCells)) (gp : ∀ k,(Value.slice ap D.up.length cp).ownBlock = some k → wn.heap.size ≤ k) (lp : B < wp.heap.size)
  (sq : See wq aq cq u32Cells 1 D.dnF) (gq : SForm aq cq ∧ ∀ b o,aq = some ⟨b,o,none⟩ → wp.heap.size ≤ b) (lq : B < wq.heap.size)
  (sr : wr.ownsRow 0 65 4 (.slice ar D.dn.length cr) D.dn.length (D.dn.flatMap linkCells)) (gr : ∀ k,(Value.slice ar D.dn.length cr).ownBlock = some k → wq.heap.size ≤ k)
  (hn : Below wm.heap.size wm wn) (hp : Below wn.heap.size wn wp) (hq : Below wp.heap.size wp wq) (hr : Below wq.heap.size wq wr) (wf : World) (ho : Only [B] wr wf) :
  HSee wf ⟨am,an,ap,aq,ar,cm,cn,cp,cq,cr⟩ D ∧ HForm ⟨am,an,ap,aq,ar,cm,cn,cp,cq,cr⟩ := by
 have p := (See.of_own linkCells_len sp (by omega)).1
 have r := (See.of_own linkCells_len sr (by omega)).1
 have lk' : B < wz.drew.heap.size := lk
 refine ⟨⟨?_, ?_, ?_, ?_, ?_,bn,bu,bd,bup,bdn⟩,gm.1,gn.1,own_form2 sp,gq.1,own_form2 sr⟩
 ·refine ((((sm.below hn).below hp).below hq).below hr).kept ho (fun b off e => ?_)
  have := gm.2 b off e
  simp only [List.mem_singleton]
  omega
 ·refine (((sn.below hp).below hq).below hr).kept ho (fun b off e => ?_)
  have := gn.2 b off e
  simp only [List.mem_singleton]
  omega
 ·refine ((p.below hq).below hr).kept ho (fun b off e => ?_)
  subst e
  have := gp b rfl
  simp only [List.mem_singleton]
  omega
 ·refine (sq.below hr).kept ho (fun b off e => ?_)
  have := gq.2 b off e
  simp only [List.mem_singleton]
  omega
 ·refine r.kept ho (fun b off e => ?_)
  subst e
  have := gr b rfl
  simp only [List.mem_singleton]
  omega
structure Reach5 (h : HierD) : Prop where
 n : h.node.length * 4 ≤ 140737488355328
 u : h.upF.length * 4 ≤ 140737488355328
 up : h.up.length * 24 ≤ 140737488355328
 d : h.dnF.length * 4 ≤ 140737488355328
 dn : h.dn.length * 24 ≤ 140737488355328
theorem twin_any (A : HA) (h : HierD) (w : World) (see : HSee w A h) (hr : Reach5 h) : Calls Tryz.prog 12 #[hierVal A h] w (HierNew h w) := by
 have SEE := Lib.hid see
 have HRN := Lib.hid hr.n
 have HRU := Lib.hid hr.u
 have HRP := Lib.hid hr.up
 have HRD := Lib.hid hr.d
 have HRR := Lib.hid hr.dn
 clear hr
 clear see
 unfold hierVal
 obtain ⟨wz,hwz⟩ : ∃ wz,(w.alloc (.cells (hierCells A h).toArray 25)).alloc (.cells #[.slice none 0 0, .slice none 0 0, .slice none 0 0, .slice none 0 0, .slice none 0 0] 25) = wz := ⟨_,rfl⟩
 have hX0 := (Cells.new w 25 (hierCells A h)).alloc (.cells #[.slice none 0 0, .slice none 0 0, .slice none 0 0, .slice none 0 0, .slice none 0 0] 25)
 have hR0 : Cells ((w.alloc (.cells (hierCells A h).toArray 25)).alloc (.cells #[.slice none 0 0, .slice none 0 0, .slice none 0 0, .slice none 0 0, .slice none 0 0] 25)) (w.heap.size + 1) 25 [.slice none 0 0, .slice none 0 0, .slice none 0 0, .slice none 0 0, .slice none 0 0] := cells_at (by simp) _ _
 have hB0 := ((Below.refl w.heap.size w).alloc (Nat.le_refl _) (.cells (hierCells A h).toArray 25)).alloc (by simp) (.cells #[.slice none 0 0, .slice none 0 0, .slice none 0 0, .slice none 0 0, .slice none 0 0] 25)
 rw [hwz] at hX0 hR0 hB0
 obtain ⟨k0,k1,k2,k3,k4⟩ := hier_five hX0
 have HR := Lib.hid hR0
 have HZ := Lib.hid hB0
 have lk : w.heap.size + 1 < wz.heap.size := hR0.lt
 have fzk0 := HR.out.frozen 0
 have czk0 : wz.cell? ⟨w.heap.size + 1,0,none⟩ = some (.slice none 0 0) := HR.out.cell (i := 0) rfl
 have fzk1 := HR.out.frozen 1
 have czk1 : wz.cell? ⟨w.heap.size + 1,1,none⟩ = some (.slice none 0 0) := HR.out.cell (i := 1) rfl
 have fzk2 := HR.out.frozen 2
 have czk2 : wz.cell? ⟨w.heap.size + 1,2,none⟩ = some (.slice none 0 0) := HR.out.cell (i := 2) rfl
 have fzk3 := HR.out.frozen 3
 have czk3 : wz.cell? ⟨w.heap.size + 1,3,none⟩ = some (.slice none 0 0) := HR.out.cell (i := 3) rfl
 have fzk4 := HR.out.frozen 4
 have czk4 : wz.cell? ⟨w.heap.size + 1,4,none⟩ = some (.slice none 0 0) := HR.out.cell (i := 4) rfl
 clear hX0 hR0 hB0
 go_enter Tryz.func12, Tryz.ntmps12
 go_wp2_with fail
 rw [show (w.alloc (.cells #[.slice A.a0 h.node.length A.c0, .slice A.a1 h.upF.length A.c1, .slice A.a2 h.up.length A.c2, .slice A.a3 h.dnF.length A.c3, .slice A.a4 h.dn.length A.c4] 25)).alloc (.cells #[.slice none 0 0, .slice none 0 0, .slice none 0 0, .slice none 0 0, .slice none 0 0] 25) = wz from hwz]
 clear hwz
 go_region_held3 (fun W => W.cell? ⟨w.heap.size,0,none⟩ = some (.slice A.a0 h.node.length A.c0) ∧ W.cell? ⟨w.heap.size,1,none⟩ = some (.slice A.a1 h.upF.length A.c1) ∧ W.cell? ⟨w.heap.size,2,none⟩ = some (.slice A.a2 h.up.length A.c2) ∧ W.cell? ⟨w.heap.size,3,none⟩ = some (.slice A.a3 h.dnF.length A.c3) ∧ W.cell? ⟨w.heap.size,4,none⟩ = some (.slice A.a4 h.dn.length A.c4) ∧ W.frozen? ⟨w.heap.size + 1,0,none⟩ = false ∧ W.frozen? ⟨w.heap.size + 1,1,none⟩ = false ∧ W.frozen? ⟨w.heap.size + 1,2,none⟩ = false ∧ W.frozen? ⟨w.heap.size + 1,3,none⟩ = false ∧ W.frozen? ⟨w.heap.size + 1,4,none⟩ = false) (go_keep)
  (first
   | (go_at_call 38; (with_reducible refine (words_any h.node A.a0 A.c0 _ (SEE.out.node.below (HZ.out.drew)) HRN.out).mono ?_); rintro e wm ⟨am,cm,rfl,sm,gm,bm⟩; (have Bm := Lib.hid ((HZ.out.drew).trans (bm.mono (HZ.out.drew).size))); (have m0 := ck bm k0); (have m1 := ck bm k1); (have m2 := ck bm k2); (have m3 := ck bm k3); (have m4 := ck bm k4); (have lm := Nat.lt_of_lt_of_le lk bm.size); (have fzm0 := (bm.frozen (p := ⟨w.heap.size + 1,0,none⟩) lk).trans fzk0); (have czm0 := ck bm czk0); (have fzm1 := (bm.frozen (p := ⟨w.heap.size + 1,1,none⟩) lk).trans fzk1); (have czm1 := ck bm czk1); (have fzm2 := (bm.frozen (p := ⟨w.heap.size + 1,2,none⟩) lk).trans fzk2); (have czm2 := ck bm czk2); (have fzm3 := (bm.frozen (p := ⟨w.heap.size + 1,3,none⟩) lk).trans fzk3); (have czm3 := ck bm czk3); (have fzm4 := (bm.frozen (p := ⟨w.heap.size + 1,4,none⟩) lk).trans fzk4); (have czm4 := ck bm czk4))
   | (go_at_call 38; (with_reducible refine (words_any h.upF A.a1 A.c1 _ (SEE.out.upF.below (Bm.out)) HRU.out).mono ?_); rintro e wn ⟨an,cn,rfl,sn,gn,bn⟩; (have Bn := Lib.hid ((Bm.out).trans (bn.mono (Bm.out).size))); (have n0 := ck bn m0); (have n1 := ck bn m1); (have n2 := ck bn m2); (have n3 := ck bn m3); (have n4 := ck bn m4); (have ln := Nat.lt_of_lt_of_le lm bn.size); (have fzn0 := (bn.frozen (p := ⟨w.heap.size + 1,0,none⟩) lm).trans fzm0); (have czn0 := ck bn czm0); (have fzn1 := (bn.frozen (p := ⟨w.heap.size + 1,1,none⟩) lm).trans fzm1); (have czn1 := ck bn czm1); (have fzn2 := (bn.frozen (p := ⟨w.heap.size + 1,2,none⟩) lm).trans fzm2); (have czn2 := ck bn czm2); (have fzn3 := (bn.frozen (p := ⟨w.heap.size + 1,3,none⟩) lm).trans fzm3); (have czn3 := ck bn czm3); (have fzn4 := (bn.frozen (p := ⟨w.heap.size + 1,4,none⟩) lm).trans fzm4); (have czn4 := ck bn czm4))
   | (go_at_call 39; (with_reducible refine (links_copy h.up A.a2 A.c2 _ (SEE.out.up.below (Bn.out)) HRP.out).mono ?_); rintro e wp ⟨ap,cp,rfl,sp,gp,bp⟩; (have Bp := Lib.hid ((Bn.out).trans (bp.mono (Bn.out).size))); (have p0 := ck bp n0); (have p1 := ck bp n1); (have p2 := ck bp n2); (have p3 := ck bp n3); (have p4 := ck bp n4); (have lp := Nat.lt_of_lt_of_le ln bp.size); (have fzp0 := (bp.frozen (p := ⟨w.heap.size + 1,0,none⟩) ln).trans fzn0); (have czp0 := ck bp czn0); (have fzp1 := (bp.frozen (p := ⟨w.heap.size + 1,1,none⟩) ln).trans fzn1); (have czp1 := ck bp czn1); (have fzp2 := (bp.frozen (p := ⟨w.heap.size + 1,2,none⟩) ln).trans fzn2); (have czp2 := ck bp czn2); (have fzp3 := (bp.frozen (p := ⟨w.heap.size + 1,3,none⟩) ln).trans fzn3); (have czp3 := ck bp czn3); (have fzp4 := (bp.frozen (p := ⟨w.heap.size + 1,4,none⟩) ln).trans fzn4); (have czp4 := ck bp czn4))
   | (go_at_call 38; (with_reducible refine (words_any h.dnF A.a3 A.c3 _ (SEE.out.dnF.below (Bp.out)) HRD.out).mono ?_); rintro e wq ⟨aq,cq,rfl,sq,gq,bq⟩; (have Bq := Lib.hid ((Bp.out).trans (bq.mono (Bp.out).size))); (have q0 := ck bq p0); (have q1 := ck bq p1); (have q2 := ck bq p2); (have q3 := ck bq p3); (have q4 := ck bq p4); (have lq := Nat.lt_of_lt_of_le lp bq.size); (have fzq0 := (bq.frozen (p := ⟨w.heap.size + 1,0,none⟩) lp).trans fzp0); (have czq0 := ck bq czp0); (have fzq1 := (bq.frozen (p := ⟨w.heap.size + 1,1,none⟩) lp).trans fzp1); (have czq1 := ck bq czp1); (have fzq2 := (bq.frozen (p := ⟨w.heap.size + 1,2,none⟩) lp).trans fzp2); (have czq2 := ck bq czp2); (have fzq3 := (bq.frozen (p := ⟨w.heap.size + 1,3,none⟩) lp).trans fzp3); (have czq3 := ck bq czp3); (have fzq4 := (bq.frozen (p := ⟨w.heap.size + 1,4,none⟩) lp).trans fzp4); (have czq4 := ck bq czp4))
   | (go_at_call 39; (with_reducible refine (links_copy h.dn A.a4 A.c4 _ (SEE.out.dn.below (Bq.out)) HRR.out).mono ?_); rintro e wr ⟨ar,cr,rfl,sr,gr,br⟩; (have Br := Lib.hid ((Bq.out).trans (br.mono (Bq.out).size))); (have r0 := ck br q0); (have r1 := ck br q1); (have r2 := ck br q2); (have r3 := ck br q3); (have r4 := ck br q4); (have lr := Nat.lt_of_lt_of_le lq br.size); (have fzr0 := (br.frozen (p := ⟨w.heap.size + 1,0,none⟩) lq).trans fzq0); (have czr0 := ck br czq0); (have fzr1 := (br.frozen (p := ⟨w.heap.size + 1,1,none⟩) lq).trans fzq1); (have czr1 := ck br czq1); (have fzr2 := (br.frozen (p := ⟨w.heap.size + 1,2,none⟩) lq).trans fzq2); (have czr2 := ck br czq2); (have fzr3 := (br.frozen (p := ⟨w.heap.size + 1,3,none⟩) lq).trans fzq3); (have czr3 := ck br czq3); (have fzr4 := (br.frozen (p := ⟨w.heap.size + 1,4,none⟩) lq).trans fzq4); (have czr4 := ck br czq4)))
 dsimp only [Exit.then]
 go_wp2_with fail
 have hres := (((((HR.out.drew).below bm lk).below bn lm).below bp ln).below bq lp).below br lq
 refine bodyPost_ret (results_e rfl _ _ (w.heap.size + 1) 25 [.slice am h.node.length cm, .slice an h.upF.length cn, .slice ap h.up.length cp, .slice aq h.dnF.length cq, .slice ar h.dn.length cr] _ rfl (((((hres.set 0 _).set 1 _).set 2 _).set 3 _).set 4 _) Tryz.underlying25 rfl (by rw [Tryz.sizeHier5]; rfl)) rfl ?_
 obtain ⟨hs,hf⟩ := five_end (h) (w.heap.size + 1) SEE.out.bn SEE.out.bu SEE.out.bd SEE.out.bup SEE.out.bdn lk sm gm lm sn gn ln sp gp lp sq gq lq sr gr bn bp bq br _ ((((((Only.refl [w.heap.size + 1] wr).setCell (p := ⟨w.heap.size + 1,0,none⟩) (.inl (by simp)) _).setCell (p := ⟨w.heap.size + 1,1,none⟩) (.inl (by simp)) _).setCell (p := ⟨w.heap.size + 1,2,none⟩) (.inl (by simp)) _).setCell (p := ⟨w.heap.size + 1,3,none⟩) (.inl (by simp)) _).setCell (p := ⟨w.heap.size + 1,4,none⟩) (.inl (by simp)) _)
 exact ⟨⟨am,an,ap,aq,ar,cm,cn,cp,cq,cr⟩,by rfl,hs,hf,(((((Br.out).setCell (p := ⟨w.heap.size + 1,0,none⟩) (by simp) _).setCell (p := ⟨w.heap.size + 1,1,none⟩) (by simp) _).setCell (p := ⟨w.heap.size + 1,2,none⟩) (by simp) _).setCell (p := ⟨w.heap.size + 1,3,none⟩) (by simp) _).setCell (p := ⟨w.heap.size + 1,4,none⟩) (by simp) _⟩
end Go.Proofs.YtchhbgckonpedaaGreatDoor
/- The reference's hierarchy turned about: number,turned,Turn. -/
namespace Go.Proofs.YtchhbgckonpedaaGreatDoor
open Go.ChangeShapes Go.WideShapes Go.ChangeAt Go.RowKit Go.Joins Go.Deep
theorem turnLink_ok5 {ups downs : Nat} {l : LinkD} (h : l.ok) (hud : ups + downs ≤ 1048576) : (turnLink ups downs l).ok := by
 obtain ⟨h1,h2,h3,h4⟩ := h
 refine ⟨h1,h2, ?_, ?_⟩
 ·simp only [turnLink,childOf]; split <;> (try split) <;> omega
 ·simp only [turnLink,childOf]; split <;> (try split) <;> omega
def U32Is (n : Nat) (w : World) (e : Ending) (w' : World) : Prop := e = .returned (.int .u32 (n : Int)) ∧ Below w.heap.size w w'
theorem rnum_any (A : HA) (h : HierD) (i : Nat) (w : World) (hi : i < 4294967296) (htot : h.up.length + h.dn.length ≤ 1048576) : Calls Tryz.prog 140 #[hierVal A h, .int .u32 i] w (U32Is (childOf h.up.length h.dn.length i) w) := by
 have hu63 : h.up.length ≤ 1048576 := by omega
 have hd63 : h.dn.length ≤ 1048576 := by omega
 by_cases h1 : i = 4294967295
 ·have d1 : ((i : Int) == 4294967295) = true := by simp; omega
  have hc : childOf h.up.length h.dn.length i = i := by unfold childOf; rw [if_pos h1]
  rw [hc]
  unfold hierVal
  clear hc h1
  go_enter Tryz.func140, Tryz.ntmps140
  go_wp2
  go_returns
  exact ⟨by first | rfl | (congr 1; congr 1; simp at d1; omega),by go_grown⟩
 ·have d1 : ((i : Int) == 4294967295) = false := by simp; omega
  by_cases h2 : i < h.up.length
  ·have d2 : decide (i < h.up.length) = true := by simpa using h2
   have hc : childOf h.up.length h.dn.length i = i + h.dn.length := by unfold childOf; rw [if_neg h1,if_pos h2]
   rw [hc]
   unfold hierVal
   clear hc h1
   go_enter Tryz.func140, Tryz.ntmps140
   go_wp2
   go_returns
   refine ⟨ret_int ?_,by go_grown⟩
   first | omega | (show IntKind.u32.wrap _ = _; rw [IntWalk.u32_in _ (by omega) (by omega)]; omega)
  ·have d2 : decide (i < h.up.length) = false := by simpa using h2
   have hc : childOf h.up.length h.dn.length i = i - h.up.length := by unfold childOf; rw [if_neg h1,if_neg h2]
   rw [hc]
   unfold hierVal
   clear hc h1
   go_enter Tryz.func140, Tryz.ntmps140
   go_wp2
   go_returns
   refine ⟨ret_int ?_,by go_grown⟩
   first | omega | (show IntKind.u32.wrap _ = _; rw [IntWalk.u32_in _ (by omega) (by omega)]; omega)
theorem rnum_lit (A : HA) (h : HierD) (i : Nat) (w : World) (hi : i < 4294967296) (htot : h.up.length + h.dn.length ≤ 1048576) : Calls Tryz.prog 140 #[.agg #[.slice A.a0 h.node.length A.c0, .slice A.a1 h.upF.length A.c1, .slice A.a2 h.up.length A.c2, .slice A.a3 h.dnF.length A.c3, .slice A.a4 h.dn.length A.c4], .int .u32 i] w (U32Is (childOf h.up.length h.dn.length i) w) := rnum_any A h i w hi htot
theorem rturned_any (A : HA) (h : HierD) (l : List LinkD) (ao : Option Addr) (cap : Nat) (w : World) (see : See w ao cap linkCells 4 l) (hok : ∀ x ∈ l,x.ok) (htot : h.up.length + h.dn.length ≤ 1048576) (hl : l.length ≤ 1048576) :
  Calls Tryz.prog 120 #[hierVal A h, .slice ao l.length cap] w (LinksNew (l.map (turnLink h.up.length h.dn.length)) w) := by
 obtain ⟨i0,hi0,hz0,hz1,hz2⟩ := info_parts Tryz.infoLink
 have HI0 := Lib.hid hi0
 have HZ0 := Lib.hid hz0
 have HZ1 := Lib.hid hz1
 have HZ2 := Lib.hid hz2
 have SEE := Lib.hid see
 have HOK := Lib.hid hok
 clear see hok hi0 hz0 hz1 hz2
 have HX0 := Lib.hid (Cells.new w 25 (hierCells A h))
 have HB0 := Lib.hid ((Below.refl w.heap.size w).alloc (Nat.le_refl _) (.cells (hierCells A h).toArray 25))
 unfold hierVal
 go_enter Tryz.func120, Tryz.ntmps120
 go_wp2_with fail
 go_loopg [5,10] l.length (fun g vm vi wr => ∃ (k : Nat) (ao2 : Option Addr) (cap2 : Nat),vi = .int .i64 k ∧ k ≤ l.length ∧ g = l.length - k ∧ vm = .slice ao2 k cap2 ∧
  wr.ownsRow 0 65 4 (.slice ao2 k cap2) k (((l.take k).map (turnLink h.up.length h.dn.length)).flatMap linkCells) ∧ (∀ b,(Value.slice ao2 k cap2).ownBlock = some b → w.heap.size < b) ∧ Cells wr w.heap.size 25 (hierCells A h) ∧ Below w.heap.size w wr)
 case atStart => exact ⟨0,none,0,rfl,Nat.zero_le _,rfl,rfl,World.ownsRow_nil _ _ _ _,by simp [Value.ownBlock],HX0.out,HB0.out⟩
 case round =>
  obtain ⟨k,ao2,cap2,rfl,hk,hg,rfl,hown,hnew,hcs,hbl⟩ := hrel
  have HG := Lib.hid hg
  have HOWN := Lib.hid hown
  have HNEW := Lib.hid hnew
  have HBL := Lib.hid hbl
  have HCS := Lib.hid hcs
  have hz := hbl.size
  have lb0 := hcs.lt
  clear hg hown hnew hbl hcs
  by_cases hkl : k < l.length
  ·obtain ⟨x,hx⟩ : ∃ x,l[k]? = some x := ⟨_,List.getElem?_eq_getElem hkl⟩
   obtain ⟨b,o,ea,cc⟩ := (SEE.out.below HBL.out).cell k x hx
   have e0 := cc 0 _ rfl
   have e1 := cc 1 _ rfl
   have e2 := cc 2 _ rfl
   have e3 := cc 3 _ rfl
   rw [Nat.add_zero] at e0
   have lb := block_lt e0
   have hxo := HOK.out x (List.mem_of_getElem? hx)
   have x2 := hxo.2.2.1
   have x3 := hxo.2.2.2
   have EA := Lib.hid ea
   have HX := Lib.hid hx
   clear ea cc hx hxo
   rw [EA.out]
   go_wp2_with fail
   obtain ⟨wq,hwq⟩ : ∃ wq,wr.alloc (.cells #[.int .u32 x.to, .int .u64 x.wt, .int .u32 x.left, .int .u32 x.right] 65) = wq := ⟨_,rfl⟩
   have hcx : Cells wq wr.heap.size 65 (linkCells x) := by rw [← hwq]; exact Cells.new wr _ _
   have hbx : Below wr.heap.size wr wq := by rw [← hwq]; exact (Below.refl _ _).alloc (Nat.le_refl _) _
   have hcq : Cells wq w.heap.size 25 (hierCells A h) := by rw [← hwq]; exact HCS.out.alloc _
   have hownx := own_kept (bs := []) HOWN.out (Only.of_below hbx) (fun q _ => by simp)
   rw [hwq]
   obtain ⟨k0,k1,k2,k3,k4⟩ := hier_five hcq
   have v0 : wq.cell? ⟨wr.heap.size,0,none⟩ = some (.int .u32 x.to) := hcx.cell rfl
   have v1 : wq.cell? ⟨wr.heap.size,1,none⟩ = some (.int .u64 x.wt) := hcx.cell rfl
   have v2 : wq.cell? ⟨wr.heap.size,2,none⟩ = some (.int .u32 x.left) := hcx.cell rfl
   have v3 : wq.cell? ⟨wr.heap.size,3,none⟩ = some (.int .u32 x.right) := hcx.cell rfl
   have lq := hcx.lt
   have HCX := Lib.hid hcx
   have HBX := Lib.hid hbx
   have HOX := Lib.hid hownx
   have HCQ := Lib.hid hcq
   have hzq : w.heap.size < wq.heap.size := hcq.lt
   clear hcx hbx hownx hwq hcq e0 e1 e2 e3
   go_region_held3 (fun W => W.cell? ⟨wr.heap.size,0,none⟩ = some (.int .u32 x.to) ∧ W.cell? ⟨wr.heap.size,1,none⟩ = some (.int .u64 x.wt) ∧ W.cell? ⟨wr.heap.size,2,none⟩ = some (.int .u32 x.left) ∧ W.cell? ⟨wr.heap.size,3,none⟩ = some (.int .u32 x.right) ∧
     W.cell? ⟨w.heap.size,0,none⟩ = some (.slice A.a0 h.node.length A.c0) ∧ W.cell? ⟨w.heap.size,1,none⟩ = some (.slice A.a1 h.upF.length A.c1) ∧ W.cell? ⟨w.heap.size,2,none⟩ = some (.slice A.a2 h.up.length A.c2) ∧ W.cell? ⟨w.heap.size,3,none⟩ = some (.slice A.a3 h.dnF.length A.c3) ∧ W.cell? ⟨w.heap.size,4,none⟩ = some (.slice A.a4 h.dn.length A.c4))
    (go_keep)
    (first
     | (go_at_call 140; (with_reducible refine (rnum_lit A h x.right _ x3 htot).mono ?_); rintro e wa ⟨rfl,ba⟩; (have Ba := Lib.hid ba); (have av0 := ck ba v0); (have av1 := ck ba v1); (have av2 := ck ba v2); (have av3 := ck ba v3); (have ak0 := ck ba k0); (have ak1 := ck ba k1); (have ak2 := ck ba k2); (have ak3 := ck ba k3); (have ak4 := ck ba k4))
     | (go_at_call 140; (with_reducible refine (rnum_lit A h x.left _ x2 htot).mono ?_); rintro e wb ⟨rfl,bb⟩; (have Bb := Lib.hid bb); (have bv0 := ck bb av0); (have bv1 := ck bb av1); (have bv2 := ck bb av2); (have bv3 := ck bb av3); (have bk0 := ck bb ak0); (have bk1 := ck bb ak1); (have bk2 := ck bb ak2); (have bk3 := ck bb ak3); (have bk4 := ck bb ak4))
     | (refine step_append_lies _ (by rfl) _ _ _ (by rfl) 0 65 i0 _ 4 24 Tryz.underlying23 HI0.out HZ0.out HZ1.out HZ2.out rfl (by decide) (.slice ao2 k cap2) k (((l.take k).map (turnLink h.up.length h.dn.length)).flatMap linkCells) (by rfl) (own_kept (bs := []) (own_drew HOX.out) ((Only.of_below (bs := []) (Ba.out.trans (Bb.out.mono Ba.out.size))).alloc _) (fun q _ => by simp))
         ⟨wb.heap.size,0,none⟩ 1 1 (linkCells (turnLink h.up.length h.dn.length x)) (by rfl) (by rfl) (World.news_of_block (cs := (linkCells (turnLink h.up.length h.dn.length x)).toArray) (t := 65) (fr := (0,0)) (heap_alloc_new wb _)) (fun u hu => by simp only [linkCells,List.mem_cons,List.not_mem_nil,or_false] at hu; rcases hu with rfl | rfl | rfl | rfl <;> rfl) (by omega) (by unfold maxLen; omega) (by omega) (Nat.zero_le _) (wb.heap.size + 1) (by simp) ?_; intro gg cap5 w5 hown5 hgrow hat hlt; (have ho5 : Only (Value.slice ao2 k cap2).ownBlock.toList (wb.alloc (.cells (linkCells (turnLink h.up.length h.dn.length x)).toArray 65)) w5 := ⟨hgrow.os,hgrow.tape,hgrow.output,hgrow.size,fun q hq hn => hgrow.block q hq (fun e => hn (by simp [← e]))⟩); (have cv0 := ho5.cell (World.cell?_alloc_lt _ _ ⟨wr.heap.size,0,none⟩ (World.block_lt_of_cell? wb _ bv0) ▸ bv0) (fun hq => by have := (HOWN.out.lt _ (by simpa using hq)).2; omega)); (have cv1 := ho5.cell (World.cell?_alloc_lt _ _ ⟨wr.heap.size,1,none⟩ (World.block_lt_of_cell? wb _ bv1) ▸ bv1) (fun hq => by have := (HOWN.out.lt _ (by simpa using hq)).2; omega)); (have cv2 := ho5.cell (World.cell?_alloc_lt _ _ ⟨wr.heap.size,2,none⟩ (World.block_lt_of_cell? wb _ bv2) ▸ bv2) (fun hq => by have := (HOWN.out.lt _ (by simpa using hq)).2; omega)); (have cv3 := ho5.cell (World.cell?_alloc_lt _ _ ⟨wr.heap.size,3,none⟩ (World.block_lt_of_cell? wb _ bv3) ▸ bv3) (fun hq => by have := (HOWN.out.lt _ (by simpa using hq)).2; omega)); (have ck0 := ho5.cell (World.cell?_alloc_lt _ _ ⟨w.heap.size,0,none⟩ (World.block_lt_of_cell? wb _ bk0) ▸ bk0) (fun hq => by have := HNEW.out _ (by simpa using hq); omega)); (have ck1 := ho5.cell (World.cell?_alloc_lt _ _ ⟨w.heap.size,1,none⟩ (World.block_lt_of_cell? wb _ bk1) ▸ bk1) (fun hq => by have := HNEW.out _ (by simpa using hq); omega)); (have ck2 := ho5.cell (World.cell?_alloc_lt _ _ ⟨w.heap.size,2,none⟩ (World.block_lt_of_cell? wb _ bk2) ▸ bk2) (fun hq => by have := HNEW.out _ (by simpa using hq); omega)); (have ck3 := ho5.cell (World.cell?_alloc_lt _ _ ⟨w.heap.size,3,none⟩ (World.block_lt_of_cell? wb _ bk3) ▸ bk3) (fun hq => by have := HNEW.out _ (by simpa using hq); omega)); (have ck4 := ho5.cell (World.cell?_alloc_lt _ _ ⟨w.heap.size,4,none⟩ (World.block_lt_of_cell? wb _ bk4) ▸ bk4) (fun hq => by have := HNEW.out _ (by simpa using hq); omega))))
   have hab : Below wq.heap.size wq wb := (Below.refl _ _).drew.trans (Ba.out.trans (Bb.out.mono Ba.out.size))
   have hzb := hab.size
   have hcs5 : Cells w5 w.heap.size 25 (hierCells A h) := ((HCQ.out.below hab hzq).alloc (.cells (linkCells (turnLink h.up.length h.dn.length x)).toArray 65)).kept ho5 (fun hq => by have := HNEW.out _ (by simpa using hq); omega)
   have hbw : Below w.heap.size w (wb.alloc (.cells (linkCells (turnLink h.up.length h.dn.length x)).toArray 65)) := ((HBL.out.trans (HBX.out.mono hz)).trans (hab.mono (by omega))).alloc (by omega) _
   have hbl5 : Below w.heap.size w w5 := hbw.trans (ho5.below hbw.size (fun q hq => Nat.le_of_lt (HNEW.out q (by simpa using hq))))
   have hnew5 : ∀ b,(Value.slice (some ⟨gg,0,none⟩) (k + 1) cap5).ownBlock = some b → w.heap.size < b := by
    intro b hb
    simp only [Value.ownBlock,Option.some.injEq] at hb
    subst hb
    rcases hat with h1 | h1
    ·exact HNEW.out _ h1
    ·omega
   rw [show ((l.take k).map (turnLink h.up.length h.dn.length)).flatMap linkCells ++ linkCells (turnLink h.up.length h.dn.length x) = ((l.take (k + 1)).map (turnLink h.up.length h.dn.length)).flatMap linkCells by
    rw [List.take_add_one,HX.out,List.map_append,List.flatMap_append]
    simp] at hown5
   have O5 := Lib.hid hown5
   have N5 := Lib.hid hnew5
   have B5 := Lib.hid hbl5
   have C5 := Lib.hid hcs5
   clear hown5 hnew5 hbl5 hcs5 hbw hab hgrow hat ho5
   go_wp2_with fail
   rw [← EA.out]
   go_roundg (l.length - (k + 1))
   case measure => rw [HG.out]; omega
   case rel => exact ⟨k + 1,some ⟨gg,0,none⟩,cap5,by go_num,by omega,rfl,rfl,O5.out,N5.out,C5.out,B5.out⟩
  ·obtain rfl : k = l.length := by omega
   go_wp2
   go_returns
   refine ⟨ao2,cap2,by rw [List.length_map]; rfl, ?_, ?_,HBL.out⟩
   ·rw [List.length_map]
    have := HOWN.out
    rw [List.take_length] at this
    exact this
   ·rw [List.length_map]
    exact fun b hb => Nat.le_of_lt (HNEW.out b hb)
theorem rturned_lit (A : HA) (h : HierD) (l : List LinkD) (ao : Option Addr) (cap : Nat) (w : World) (see : See w ao cap linkCells 4 l) (hok : ∀ x ∈ l,x.ok) (htot : h.up.length + h.dn.length ≤ 1048576) (hl : l.length ≤ 1048576) :
  Calls Tryz.prog 120 #[.agg #[.slice A.a0 h.node.length A.c0, .slice A.a1 h.upF.length A.c1, .slice A.a2 h.up.length A.c2, .slice A.a3 h.dnF.length A.c3, .slice A.a4 h.dn.length A.c4], .slice ao l.length cap] w (LinksNew (l.map (turnLink h.up.length h.dn.length)) w) := rturned_any A h l ao cap w see hok htot hl
theorem rturn_any (A : HA) (h : HierD) (w : World) (see : HSee w A h) (hr : Reach5 h) (htot : h.up.length + h.dn.length ≤ 1048576) : Calls Tryz.prog 99 #[hierVal A h] w (HierNew (turnD h) w) := by
 have SEE := Lib.hid see
 have HRN := Lib.hid hr.n
 have HRU := Lib.hid hr.u
 have HRD := Lib.hid hr.d
 have hdl : h.dn.length ≤ 1048576 := by omega
 have hul : h.up.length ≤ 1048576 := by omega
 clear hr
 clear see
 unfold hierVal
 obtain ⟨wz,hwz⟩ : ∃ wz,(w.alloc (.cells (hierCells A h).toArray 25)).alloc (.cells #[.slice none 0 0, .slice none 0 0, .slice none 0 0, .slice none 0 0, .slice none 0 0] 25) = wz := ⟨_,rfl⟩
 have hX0 := (Cells.new w 25 (hierCells A h)).alloc (.cells #[.slice none 0 0, .slice none 0 0, .slice none 0 0, .slice none 0 0, .slice none 0 0] 25)
 have hR0 : Cells ((w.alloc (.cells (hierCells A h).toArray 25)).alloc (.cells #[.slice none 0 0, .slice none 0 0, .slice none 0 0, .slice none 0 0, .slice none 0 0] 25)) (w.heap.size + 1) 25 [.slice none 0 0, .slice none 0 0, .slice none 0 0, .slice none 0 0, .slice none 0 0] := cells_at (by simp) _ _
 have hB0 := ((Below.refl w.heap.size w).alloc (Nat.le_refl _) (.cells (hierCells A h).toArray 25)).alloc (by simp) (.cells #[.slice none 0 0, .slice none 0 0, .slice none 0 0, .slice none 0 0, .slice none 0 0] 25)
 rw [hwz] at hX0 hR0 hB0
 obtain ⟨k0,k1,k2,k3,k4⟩ := hier_five hX0
 have HR := Lib.hid hR0
 have HZ := Lib.hid hB0
 have lk : w.heap.size + 1 < wz.heap.size := hR0.lt
 have fzk0 := HR.out.frozen 0
 have czk0 : wz.cell? ⟨w.heap.size + 1,0,none⟩ = some (.slice none 0 0) := HR.out.cell (i := 0) rfl
 have fzk1 := HR.out.frozen 1
 have czk1 : wz.cell? ⟨w.heap.size + 1,1,none⟩ = some (.slice none 0 0) := HR.out.cell (i := 1) rfl
 have fzk2 := HR.out.frozen 2
 have czk2 : wz.cell? ⟨w.heap.size + 1,2,none⟩ = some (.slice none 0 0) := HR.out.cell (i := 2) rfl
 have fzk3 := HR.out.frozen 3
 have czk3 : wz.cell? ⟨w.heap.size + 1,3,none⟩ = some (.slice none 0 0) := HR.out.cell (i := 3) rfl
 have fzk4 := HR.out.frozen 4
 have czk4 : wz.cell? ⟨w.heap.size + 1,4,none⟩ = some (.slice none 0 0) := HR.out.cell (i := 4) rfl
 clear hX0 hR0 hB0
 go_enter Tryz.func99, Tryz.ntmps99
 go_wp2_with fail
 rw [show (w.alloc (.cells #[.slice A.a0 h.node.length A.c0, .slice A.a1 h.upF.length A.c1, .slice A.a2 h.up.length A.c2, .slice A.a3 h.dnF.length A.c3, .slice A.a4 h.dn.length A.c4] 25)).alloc (.cells #[.slice none 0 0, .slice none 0 0, .slice none 0 0, .slice none 0 0, .slice none 0 0] 25) = wz from hwz]
 clear hwz
 go_region_held3 (fun W => W.cell? ⟨w.heap.size,0,none⟩ = some (.slice A.a0 h.node.length A.c0) ∧ W.cell? ⟨w.heap.size,1,none⟩ = some (.slice A.a1 h.upF.length A.c1) ∧ W.cell? ⟨w.heap.size,2,none⟩ = some (.slice A.a2 h.up.length A.c2) ∧ W.cell? ⟨w.heap.size,3,none⟩ = some (.slice A.a3 h.dnF.length A.c3) ∧ W.cell? ⟨w.heap.size,4,none⟩ = some (.slice A.a4 h.dn.length A.c4) ∧ W.frozen? ⟨w.heap.size + 1,0,none⟩ = false ∧ W.frozen? ⟨w.heap.size + 1,1,none⟩ = false ∧ W.frozen? ⟨w.heap.size + 1,2,none⟩ = false ∧ W.frozen? ⟨w.heap.size + 1,3,none⟩ = false ∧ W.frozen? ⟨w.heap.size + 1,4,none⟩ = false) (go_keep)
  (first
   | (go_at_call 38; (with_reducible refine (words_any h.node A.a0 A.c0 _ (SEE.out.node.below (HZ.out.drew)) HRN.out).mono ?_); rintro e wm ⟨am,cm,rfl,sm,gm,bm⟩; (have Bm := Lib.hid ((HZ.out.drew).trans (bm.mono (HZ.out.drew).size))); (have m0 := ck bm k0); (have m1 := ck bm k1); (have m2 := ck bm k2); (have m3 := ck bm k3); (have m4 := ck bm k4); (have lm := Nat.lt_of_lt_of_le lk bm.size); (have fzm0 := (bm.frozen (p := ⟨w.heap.size + 1,0,none⟩) lk).trans fzk0); (have czm0 := ck bm czk0); (have fzm1 := (bm.frozen (p := ⟨w.heap.size + 1,1,none⟩) lk).trans fzk1); (have czm1 := ck bm czk1); (have fzm2 := (bm.frozen (p := ⟨w.heap.size + 1,2,none⟩) lk).trans fzk2); (have czm2 := ck bm czk2); (have fzm3 := (bm.frozen (p := ⟨w.heap.size + 1,3,none⟩) lk).trans fzk3); (have czm3 := ck bm czk3); (have fzm4 := (bm.frozen (p := ⟨w.heap.size + 1,4,none⟩) lk).trans fzk4); (have czm4 := ck bm czk4))
   | (go_at_call 38; (with_reducible refine (words_any h.dnF A.a3 A.c3 _ (SEE.out.dnF.below (Bm.out)) HRD.out).mono ?_); rintro e wn ⟨an,cn,rfl,sn,gn,bn⟩; (have Bn := Lib.hid ((Bm.out).trans (bn.mono (Bm.out).size))); (have n0 := ck bn m0); (have n1 := ck bn m1); (have n2 := ck bn m2); (have n3 := ck bn m3); (have n4 := ck bn m4); (have ln := Nat.lt_of_lt_of_le lm bn.size); (have fzn0 := (bn.frozen (p := ⟨w.heap.size + 1,0,none⟩) lm).trans fzm0); (have czn0 := ck bn czm0); (have fzn1 := (bn.frozen (p := ⟨w.heap.size + 1,1,none⟩) lm).trans fzm1); (have czn1 := ck bn czm1); (have fzn2 := (bn.frozen (p := ⟨w.heap.size + 1,2,none⟩) lm).trans fzm2); (have czn2 := ck bn czm2); (have fzn3 := (bn.frozen (p := ⟨w.heap.size + 1,3,none⟩) lm).trans fzm3); (have czn3 := ck bn czm3); (have fzn4 := (bn.frozen (p := ⟨w.heap.size + 1,4,none⟩) lm).trans fzm4); (have czn4 := ck bn czm4))
   | (go_at_call 120; (with_reducible refine (rturned_lit A h h.dn A.a4 A.c4 _ (SEE.out.dn.below (Bn.out)) SEE.out.bdn htot hdl).mono ?_); rintro e wp ⟨ap,cp,rfl,sp,gp,bp⟩; (have Bp := Lib.hid ((Bn.out).trans (bp.mono (Bn.out).size))); (have p0 := ck bp n0); (have p1 := ck bp n1); (have p2 := ck bp n2); (have p3 := ck bp n3); (have p4 := ck bp n4); (have lp := Nat.lt_of_lt_of_le ln bp.size); (have fzp0 := (bp.frozen (p := ⟨w.heap.size + 1,0,none⟩) ln).trans fzn0); (have czp0 := ck bp czn0); (have fzp1 := (bp.frozen (p := ⟨w.heap.size + 1,1,none⟩) ln).trans fzn1); (have czp1 := ck bp czn1); (have fzp2 := (bp.frozen (p := ⟨w.heap.size + 1,2,none⟩) ln).trans fzn2); (have czp2 := ck bp czn2); (have fzp3 := (bp.frozen (p := ⟨w.heap.size + 1,3,none⟩) ln).trans fzn3); (have czp3 := ck bp czn3); (have fzp4 := (bp.frozen (p := ⟨w.heap.size + 1,4,none⟩) ln).trans fzn4); (have czp4 := ck bp czn4))
   | (go_at_call 38; (with_reducible refine (words_any h.upF A.a1 A.c1 _ (SEE.out.upF.below (Bp.out)) HRU.out).mono ?_); rintro e wq ⟨aq,cq,rfl,sq,gq,bq⟩; (have Bq := Lib.hid ((Bp.out).trans (bq.mono (Bp.out).size))); (have q0 := ck bq p0); (have q1 := ck bq p1); (have q2 := ck bq p2); (have q3 := ck bq p3); (have q4 := ck bq p4); (have lq := Nat.lt_of_lt_of_le lp bq.size); (have fzq0 := (bq.frozen (p := ⟨w.heap.size + 1,0,none⟩) lp).trans fzp0); (have czq0 := ck bq czp0); (have fzq1 := (bq.frozen (p := ⟨w.heap.size + 1,1,none⟩) lp).trans fzp1); (have czq1 := ck bq czp1); (have fzq2 := (bq.frozen (p := ⟨w.heap.size + 1,2,none⟩) lp).trans fzp2); (have czq2 := ck bq czp2); (have fzq3 := (bq.frozen (p := ⟨w.heap.size + 1,3,none⟩) lp).trans fzp3); (have czq3 := ck bq czp3); (have fzq4 := (bq.frozen (p := ⟨w.heap.size + 1,4,none⟩) lp).trans fzp4); (have czq4 := ck bq czp4))
   | (go_at_call 120; (with_reducible refine (rturned_lit A h h.up A.a2 A.c2 _ (SEE.out.up.below (Bq.out)) SEE.out.bup htot hul).mono ?_); rintro e wr ⟨ar,cr,rfl,sr,gr,br⟩; (have Br := Lib.hid ((Bq.out).trans (br.mono (Bq.out).size))); (have r0 := ck br q0); (have r1 := ck br q1); (have r2 := ck br q2); (have r3 := ck br q3); (have r4 := ck br q4); (have lr := Nat.lt_of_lt_of_le lq br.size); (have fzr0 := (br.frozen (p := ⟨w.heap.size + 1,0,none⟩) lq).trans fzq0); (have czr0 := ck br czq0); (have fzr1 := (br.frozen (p := ⟨w.heap.size + 1,1,none⟩) lq).trans fzq1); (have czr1 := ck br czq1); (have fzr2 := (br.frozen (p := ⟨w.heap.size + 1,2,none⟩) lq).trans fzq2); (have czr2 := ck br czq2); (have fzr3 := (br.frozen (p := ⟨w.heap.size + 1,3,none⟩) lq).trans fzq3); (have czr3 := ck br czq3); (have fzr4 := (br.frozen (p := ⟨w.heap.size + 1,4,none⟩) lq).trans fzq4); (have czr4 := ck br czq4)))
 dsimp only [Exit.then]
 go_wp2_with fail
 have hres := (((((HR.out.drew).below bm lk).below bn lm).below bp ln).below bq lp).below br lq
 refine bodyPost_ret (results_e rfl _ _ (w.heap.size + 1) 25 [.slice am h.node.length cm, .slice an h.dnF.length cn, .slice ap h.dn.length cp, .slice aq h.upF.length cq, .slice ar h.up.length cr] _ rfl (((((hres.set 0 _).set 1 _).set 2 _).set 3 _).set 4 _) Tryz.underlying25 rfl (by rw [Tryz.sizeHier5]; rfl)) rfl ?_
 obtain ⟨hs,hf⟩ := five_end ((turnD h)) (w.heap.size + 1) SEE.out.bn SEE.out.bd SEE.out.bu (fun l hl => by simp only [turnD,List.mem_map] at hl; obtain ⟨x,hx,rfl⟩ := hl; exact turnLink_ok5 (SEE.out.bdn x hx) htot) (fun l hl => by simp only [turnD,List.mem_map] at hl; obtain ⟨x,hx,rfl⟩ := hl; exact turnLink_ok5 (SEE.out.bup x hx) htot) lk sm gm lm sn gn ln sp gp lp sq gq lq sr gr bn bp bq br _ ((((((Only.refl [w.heap.size + 1] wr).setCell (p := ⟨w.heap.size + 1,0,none⟩) (.inl (by simp)) _).setCell (p := ⟨w.heap.size + 1,1,none⟩) (.inl (by simp)) _).setCell (p := ⟨w.heap.size + 1,2,none⟩) (.inl (by simp)) _).setCell (p := ⟨w.heap.size + 1,3,none⟩) (.inl (by simp)) _).setCell (p := ⟨w.heap.size + 1,4,none⟩) (.inl (by simp)) _)
 exact ⟨⟨am,an,ap,aq,ar,cm,cn,cp,cq,cr⟩,by simp [hierVal,turnD],hs,hf,(((((Br.out).setCell (p := ⟨w.heap.size + 1,0,none⟩) (by simp) _).setCell (p := ⟨w.heap.size + 1,1,none⟩) (by simp) _).setCell (p := ⟨w.heap.size + 1,2,none⟩) (by simp) _).setCell (p := ⟨w.heap.size + 1,3,none⟩) (by simp) _).setCell (p := ⟨w.heap.size + 1,4,none⟩) (by simp) _⟩
end Go.Proofs.YtchhbgckonpedaaGreatDoor
