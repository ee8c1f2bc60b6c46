/- The contract of hier's Turn. -/
import Derived.Test.YtjbphoophgbmiaaForm
import Derived.Deep.RegionHeld3
import Derived.Laws.EntriesVeiled
import Derived.Sort.AtCall
namespace Go.Proofs.Ytjbphoophgbmiaa
open Go.ChangeShapes Go.WideShapes Go.ChangeAt Go.RowKit Go.Joins Go.Deep

def zeroHier : Value := .agg #[.slice none 0 0, .slice none 0 0, .slice none 0 0, .slice none 0 0, .slice none 0 0]
def TurnPost (h : HierD) (w : World) (e : Ending) (w' : World) : Prop :=
  (∃ v, e = .returned (.tuple #[zeroHier, v]) ∧ ErrIs w' v (checkErr h) ∧ checkErr h ≠ .nil ∧ Below w.heap.size w w') ∨
  (∃ A', e = .returned (.tuple #[hierVal A' (turnD h), .nilIface]) ∧ checkErr h = .nil ∧ HSee w' A' (turnD h) ∧ HForm A' ∧ Below w.heap.size w w')
theorem Try.sizeHier : (Try.prog.info? 25).map (·.size) = some 5 := by kernel_rfl
theorem turnLink_ok {ups downs : Nat} {l : LinkD} (h : l.ok) (hud : ups + downs ≤ 1048576) : (turnLink ups downs l).ok := by
  obtain ⟨h1, h2, h3, h4⟩ := h
  refine ⟨h1, h2, ?_, ?_⟩
  · simp only [turnLink, childOf]; split <;> (try split) <;> omega
  · simp only [turnLink, childOf]; split <;> (try split) <;> omega

/-- What lies there when the hierarchy has been turned about. -/
theorem turn_end {A : HA} {w0 : World} (h : HierD) (B : Nat) (see : HSee w0 A h) (htot : h.up.length + h.dn.length ≤ 1048576) {wz wm wn wp wq wr : World} {am an ap aq ar : Option Addr} {cm cn cp cq cr : Nat} (lk : B < wz.heap.size)
    (sm : See wm am cm u32Cells 1 h.node) (gm : SForm am cm ∧ ∀ b o, am = some ⟨b, o, none⟩ → wz.drew.heap.size ≤ b) (lm : B < wm.heap.size)
    (sn : See wn an cn u32Cells 1 h.dnF) (gn : SForm an cn ∧ ∀ b o, an = some ⟨b, o, none⟩ → wm.heap.size ≤ b) (ln : B < wn.heap.size)
    (sp : wp.ownsRow 0 60 4 (.slice ap (h.dn.map (turnLink h.up.length h.dn.length)).length cp) (h.dn.map (turnLink h.up.length h.dn.length)).length ((h.dn.map (turnLink h.up.length h.dn.length)).flatMap linkCells))
    (gp : ∀ k, (Value.slice ap (h.dn.map (turnLink h.up.length h.dn.length)).length cp).ownBlock = some k → wn.heap.size ≤ k) (lp : B < wp.heap.size)
    (sq : See wq aq cq u32Cells 1 h.upF) (gq : SForm aq cq ∧ ∀ b o, aq = some ⟨b, o, none⟩ → wp.heap.size ≤ b) (lq : B < wq.heap.size)
    (sr : wr.ownsRow 0 60 4 (.slice ar (h.up.map (turnLink h.up.length h.dn.length)).length cr) (h.up.map (turnLink h.up.length h.dn.length)).length ((h.up.map (turnLink h.up.length h.dn.length)).flatMap linkCells))
    (gr : ∀ k, (Value.slice ar (h.up.map (turnLink h.up.length h.dn.length)).length cr).ownBlock = some k → wq.heap.size ≤ k)
    (bn : Below wm.heap.size wm wn) (bp : Below wn.heap.size wn wp) (bq : Below wp.heap.size wp wq) (br : Below wq.heap.size wq wr) (wf : World) (ho : Only [B] wr wf) :
    HSee wf ⟨am, an, ap, aq, ar, cm, cn, cp, cq, cr⟩ (turnD h) ∧ HForm ⟨am, an, ap, aq, ar, cm, cn, cp, cq, cr⟩ := by
  have p := (See.of_own linkCells_len sp (by omega)).1
  have r := (See.of_own linkCells_len sr (by omega)).1
  have lk' : B < wz.drew.heap.size := lk
  refine ⟨⟨?_, ?_, ?_, ?_, ?_, see.bn, see.bd, see.bu, ?_, ?_⟩, gm.1, gn.1, own_form2 sp, gq.1, own_form2 sr⟩
  · refine ((((sm.below bn).below bp).below bq).below br).kept ho (fun b off e => ?_)
    have := gm.2 b off e
    simp only [List.mem_singleton]
    omega
  · refine (((sn.below bp).below bq).below br).kept ho (fun b off e => ?_)
    have := gn.2 b off e
    simp only [List.mem_singleton]
    omega
  · refine ((p.below bq).below br).kept ho (fun b off e => ?_)
    subst e
    have := gp b rfl
    simp only [List.mem_singleton]
    omega
  · refine (sq.below br).kept ho (fun b off e => ?_)
    have := gq.2 b off e
    simp only [List.mem_singleton]
    omega
  · refine r.kept ho (fun b off e => ?_)
    subst e
    have := gr b rfl
    simp only [List.mem_singleton]
    omega
  · intro l hl
    simp only [turnD, List.mem_map] at hl
    obtain ⟨x, hx, rfl⟩ := hl
    exact turnLink_ok (see.bdn x hx) htot
  · intro l hl
    simp only [turnD, List.mem_map] at hl
    obtain ⟨x, hx, rfl⟩ := hl
    exact turnLink_ok (see.bup x hx) htot

/-- An error stays while another block is written. -/
theorem ErrIs.setH {w : World} {v : Value} {x : EV} {B o : Nat} {l : List Value} {a : Value} (h : ErrIs w v x) (hc : Cells w B 25 l) : ErrIs (w.setCell ⟨B, o, none⟩ a) v x := by
  cases x with
  | nil => exact h
  | code n => exact h
  | «at» k i n =>
    obtain ⟨g, e, hg⟩ := h
    have hne : g ≠ B := by
      rintro rfl
      have := (show w.heap[g]? = _ from hg).symm.trans hc
      simp at this
    exact ⟨g, e, hg.other (a := ⟨B, o, none⟩) hne _⟩
theorem turn_err {w : World} {v : Value} {x : EV} {B : Nat} {l : List Value} {a b c d e : Value} (h : ErrIs w v x) (hc : Cells w B 25 l) :
    ErrIs (((((w.setCell ⟨B, 0, none⟩ a).setCell ⟨B, 1, none⟩ b).setCell ⟨B, 2, none⟩ c).setCell ⟨B, 3, none⟩ d).setCell ⟨B, 4, none⟩ e) v x :=
  ((((h.setH hc).setH (hc.set 0 a)).setH ((hc.set 0 a).set 1 b)).setH (((hc.set 0 a).set 1 b).set 2 c)).setH ((((hc.set 0 a).set 1 b).set 2 c).set 3 d)

set_option maxRecDepth 100000 in
set_option maxHeartbeats 4000000 in
theorem turn_any (A : HA) (h : HierD) (w : World) (see : HSee w A h) (form : HForm A) : Calls Try.prog 8 #[hierVal A h] w (TurnPost h w) := by
  have SEE := Lib.hid see
  have FORM := Lib.hid form
  clear see form
  unfold hierVal
  go_enter Try.func8, Try.ntmps8
  go_wp2_with fail
  refine (hcheck_any A h _ (SEE.out.below (((Below.refl _ _).alloc (Nat.le_refl _) _).alloc (by simp) _))).mono ?_
  rintro e w1 ⟨v, rfl, hv, hb⟩
  have hcs0 := ((Cells.new w 25 (hierCells A h)).alloc (.cells #[.slice none 0 0, .slice none 0 0, .slice none 0 0, .slice none 0 0, .slice none 0 0] 25)).below hb (by simp; omega)
  have hcs := (Cells.new (w.alloc (.cells (hierCells A h).toArray 25)) 25 [.slice none 0 0, .slice none 0 0, .slice none 0 0, .slice none 0 0, .slice none 0 0]).below hb (by simp)
  rw [World.size_alloc] at hcs
  have lb := hcs.lt
  have HCS0 := Lib.hid hcs0
  have HCS := Lib.hid hcs
  have HB := Lib.hid ((((Below.refl w.heap.size w).alloc (Nat.le_refl _) _).alloc (by simp) _).trans (hb.mono (by simp; omega)))
  have HV := Lib.hid hv
  by_cases hc : checkErr h = .nil
  · obtain rfl := hv.nilv hc
    obtain ⟨f, e1, e2, -, -⟩ := checkErr_parts hc
    have htot := f.total SEE.out (firsts_nil f.u e1) (firsts_nil f.d e2)
    have hnl := f.n
    have F := Lib.hid f
    have HC := Lib.hid hc
    have k0 : w1.cell? ⟨w.heap.size, 0, none⟩ = some (.slice A.a0 h.node.length A.c0) := hcs0.cell rfl
    have k1 : w1.cell? ⟨w.heap.size, 1, none⟩ = some (.slice A.a1 h.upF.length A.c1) := hcs0.cell rfl
    have k2 : w1.cell? ⟨w.heap.size, 2, none⟩ = some (.slice A.a2 h.up.length A.c2) := hcs0.cell rfl
    have k3 : w1.cell? ⟨w.heap.size, 3, none⟩ = some (.slice A.a3 h.dnF.length A.c3) := hcs0.cell rfl
    have k4 : w1.cell? ⟨w.heap.size, 4, none⟩ = some (.slice A.a4 h.dn.length A.c4) := hcs0.cell rfl
    have lb0 : w.heap.size < w1.heap.size := by omega
    have hup : h.up.length ≤ 1048576 := by omega
    have hdn : h.dn.length ≤ 1048576 := by omega
    clear hb hcs hcs0 hv f e1 e2 hc
    go_wp2_with fail
    go_region
    all_goals
      dsimp only [Exit.then]
    · obtain ⟨wq, hwq⟩ : ∃ wq, ((w1.alloc (.cells #[.int .u32 h.up.length] 38)).alloc (.cells #[.int .u32 h.dn.length] 38)).drew = wq := ⟨_, rfl⟩
      have z1 : Cells wq w1.heap.size 38 [.int .u32 h.up.length] := by
        rw [← hwq]
        exact ((Cells.new w1 38 [.int .u32 h.up.length]).alloc _).drew
      have z2 : Cells wq (w1.heap.size + 1) 38 [.int .u32 h.dn.length] := by
        rw [← hwq]
        have := Cells.new (w1.alloc (.cells #[.int .u32 h.up.length] 38)) 38 [.int .u32 h.dn.length]
        rw [World.size_alloc] at this
        exact this.drew
      have zb : Below w1.heap.size w1 wq := by
        rw [← hwq]
        exact (((Below.refl _ _).alloc (Nat.le_refl _) _).alloc (by simp) _).drew
      have zs : wq.heap.size = w1.heap.size + 2 := by
        rw [← hwq]
        simp [World.drew]
      rw [hwq]
      clear hwq
      have hf : Cells (wq.alloc (.cells #[.func (.func 23) #[] #[.pointer (some ⟨w1.heap.size, 0, none⟩), .pointer (some ⟨w1.heap.size + 1, 0, none⟩)]] 58)) wq.heap.size 58 [.func (.func 23) #[] #[.pointer (some ⟨w1.heap.size, 0, none⟩), .pointer (some ⟨w1.heap.size + 1, 0, none⟩)]] := Cells.new wq 58 [.func (.func 23) #[] #[.pointer (some ⟨w1.heap.size, 0, none⟩), .pointer (some ⟨w1.heap.size + 1, 0, none⟩)]]
      have hzq : Below w1.heap.size w1 (wq.alloc (.cells #[.func (.func 23) #[] #[.pointer (some ⟨w1.heap.size, 0, none⟩), .pointer (some ⟨w1.heap.size + 1, 0, none⟩)]] 58)) := zb.alloc (by omega) _
      have hy1 := z1.alloc (.cells #[.func (.func 23) #[] #[.pointer (some ⟨w1.heap.size, 0, none⟩), .pointer (some ⟨w1.heap.size + 1, 0, none⟩)]] 58)
      have hy2 := z2.alloc (.cells #[.func (.func 23) #[] #[.pointer (some ⟨w1.heap.size, 0, none⟩), .pointer (some ⟨w1.heap.size + 1, 0, none⟩)]] 58)
      have ZS := Lib.hid zs
      clear zs
      go_wp2_with fail
      obtain ⟨wz, hwz⟩ : ∃ wz, wq.alloc (.cells #[.func (.func 23) #[] #[.pointer (some ⟨w1.heap.size, 0, none⟩), .pointer (some ⟨w1.heap.size + 1, 0, none⟩)]] 58) = wz := ⟨_, rfl⟩
      rw [hwz] at hf hzq hy1 hy2 ⊢
      have HZ := Lib.hid (HB.out.trans (hzq.mono HB.out.size))
      replace k0 := ck hzq k0
      replace k1 := ck hzq k1
      replace k2 := ck hzq k2
      replace k3 := ck hzq k3
      replace k4 := ck hzq k4
      have k5 := hy1.cell (i := 0) rfl
      have k6 := hy2.cell (i := 0) rfl
      have k7 := hf.cell (i := 0) rfl
      have HR := Lib.hid (HCS.out.below hzq (by omega))
      clear hf hzq hy1 hy2 hwz z1 z2 zb
      have fzk0 := HR.out.frozen 0
      have czk0 : wz.cell? ⟨w.heap.size + 1, 0, none⟩ = some (.slice none 0 0) := HR.out.cell (i := 0) rfl
      have fzk1 := HR.out.frozen 1
      have czk1 : wz.cell? ⟨w.heap.size + 1, 1, none⟩ = some (.slice none 0 0) := HR.out.cell (i := 1) rfl
      have fzk2 := HR.out.frozen 2
      have czk2 : wz.cell? ⟨w.heap.size + 1, 2, none⟩ = some (.slice none 0 0) := HR.out.cell (i := 2) rfl
      have fzk3 := HR.out.frozen 3
      have czk3 : wz.cell? ⟨w.heap.size + 1, 3, none⟩ = some (.slice none 0 0) := HR.out.cell (i := 3) rfl
      have fzk4 := HR.out.frozen 4
      have czk4 : wz.cell? ⟨w.heap.size + 1, 4, none⟩ = some (.slice none 0 0) := HR.out.cell (i := 4) rfl
      have nr5 : ¬ w.heap.size + 1 = w1.heap.size := by omega
      have nr6 : ¬ w.heap.size + 1 = w1.heap.size + 1 := by omega
      have nr6b : ¬ w.heap.size = w1.heap.size := by omega
      have nr7 : ¬ w.heap.size + 1 = wq.heap.size := by have := ZS.out; omega
      have ne5 : ¬ w1.heap.size = w.heap.size + 1 := by omega
      have ne6 : ¬ w1.heap.size + 1 = w.heap.size + 1 := by omega
      have ne6b : ¬ w1.heap.size = w.heap.size := by omega
      have ne7 : ¬ wq.heap.size = w.heap.size + 1 := by have := ZS.out; omega
      have lk : w.heap.size + 1 < wz.heap.size := HR.out.lt
      go_region_held3 (fun W => W.cell? ⟨w.heap.size, 0, none⟩ = some (.slice A.a0 h.node.length A.c0) ∧ W.cell? ⟨w.heap.size, 1, none⟩ = some (.slice A.a1 h.upF.length A.c1) ∧ W.cell? ⟨w.heap.size, 2, none⟩ = some (.slice A.a2 h.up.length A.c2) ∧ W.cell? ⟨w.heap.size, 3, none⟩ = some (.slice A.a3 h.dnF.length A.c3) ∧ W.cell? ⟨w.heap.size, 4, none⟩ = some (.slice A.a4 h.dn.length A.c4) ∧ W.cell? ⟨w1.heap.size, 0, none⟩ = some (.int .u32 h.up.length) ∧ W.cell? ⟨w1.heap.size + 1, 0, none⟩ = some (.int .u32 h.dn.length) ∧ W.cell? ⟨wq.heap.size, 0, none⟩ = some (.func (.func 23) #[] #[.pointer (some ⟨w1.heap.size, 0, none⟩), .pointer (some ⟨w1.heap.size + 1, 0, none⟩)]) ∧ W.frozen? ⟨w.heap.size + 1, 0, none⟩ = false ∧ W.frozen? ⟨w.heap.size + 1, 1, none⟩ = false ∧ W.frozen? ⟨w.heap.size + 1, 2, none⟩ = false ∧ W.frozen? ⟨w.heap.size + 1, 3, none⟩ = false ∧ W.frozen? ⟨w.heap.size + 1, 4, none⟩ = false) (go_keep)
        (first
          | (go_at_call_has 25 h.node; refine (clone_any h.node A.a0 A.c0 _ (SEE.out.node.below (HZ.out.drew)) FORM.out.f0 (by omega)).mono ?_; rintro e wm ⟨am, cm, rfl, sm, gm, bm⟩; (have Bm := Lib.hid ((HZ.out.drew).trans (bm.mono (HZ.out.drew).size))); (have m0 := ck bm k0); (have m1 := ck bm k1); (have m2 := ck bm k2); (have m3 := ck bm k3); (have m4 := ck bm k4); (have m5 := ck bm k5); (have m6 := ck bm k6); (have m7 := ck bm k7); (have lm := Nat.lt_of_lt_of_le lk bm.size); (have fzm0 := (bm.frozen (p := ⟨w.heap.size + 1, 0, none⟩) lk).trans fzk0); (have czm0 := ck bm czk0); (have fzm1 := (bm.frozen (p := ⟨w.heap.size + 1, 1, none⟩) lk).trans fzk1); (have czm1 := ck bm czk1); (have fzm2 := (bm.frozen (p := ⟨w.heap.size + 1, 2, none⟩) lk).trans fzk2); (have czm2 := ck bm czk2); (have fzm3 := (bm.frozen (p := ⟨w.heap.size + 1, 3, none⟩) lk).trans fzk3); (have czm3 := ck bm czk3); (have fzm4 := (bm.frozen (p := ⟨w.heap.size + 1, 4, none⟩) lk).trans fzk4); (have czm4 := ck bm czk4))
          | (go_at_call_has 25 h.dnF; refine (clone_any h.dnF A.a3 A.c3 _ (SEE.out.dnF.below (Bm.out)) FORM.out.f3 (by have := F.out.d; omega)).mono ?_; rintro e wn ⟨an, cn, rfl, sn, gn, bn⟩; (have Bn := Lib.hid ((Bm.out).trans (bn.mono (Bm.out).size))); (have n0 := ck bn m0); (have n1 := ck bn m1); (have n2 := ck bn m2); (have n3 := ck bn m3); (have n4 := ck bn m4); (have n5 := ck bn m5); (have n6 := ck bn m6); (have n7 := ck bn m7); (have ln := Nat.lt_of_lt_of_le lm bn.size); (have fzn0 := (bn.frozen (p := ⟨w.heap.size + 1, 0, none⟩) lm).trans fzm0); (have czn0 := ck bn czm0); (have fzn1 := (bn.frozen (p := ⟨w.heap.size + 1, 1, none⟩) lm).trans fzm1); (have czn1 := ck bn czm1); (have fzn2 := (bn.frozen (p := ⟨w.heap.size + 1, 2, none⟩) lm).trans fzm2); (have czn2 := ck bn czm2); (have fzn3 := (bn.frozen (p := ⟨w.heap.size + 1, 3, none⟩) lm).trans fzm3); (have czn3 := ck bn czm3); (have fzn4 := (bn.frozen (p := ⟨w.heap.size + 1, 4, none⟩) lm).trans fzm4); (have czn4 := ck bn czm4))
          | (go_at_call_has 24 h.dn; refine (turned_any h.up.length h.dn.length _ _ _ h.dn A.a4 A.c4 _ (SEE.out.dn.below (Bn.out)) n5 n6 n7 SEE.out.bdn htot hdn).mono ?_; rintro e wp ⟨ap, cp, rfl, sp, gp, bp⟩; (have Bp := Lib.hid ((Bn.out).trans (bp.mono (Bn.out).size))); (have p0 := ck bp n0); (have p1 := ck bp n1); (have p2 := ck bp n2); (have p3 := ck bp n3); (have p4 := ck bp n4); (have p5 := ck bp n5); (have p6 := ck bp n6); (have p7 := ck bp n7); (have lp := Nat.lt_of_lt_of_le ln bp.size); (have fzp0 := (bp.frozen (p := ⟨w.heap.size + 1, 0, none⟩) ln).trans fzn0); (have czp0 := ck bp czn0); (have fzp1 := (bp.frozen (p := ⟨w.heap.size + 1, 1, none⟩) ln).trans fzn1); (have czp1 := ck bp czn1); (have fzp2 := (bp.frozen (p := ⟨w.heap.size + 1, 2, none⟩) ln).trans fzn2); (have czp2 := ck bp czn2); (have fzp3 := (bp.frozen (p := ⟨w.heap.size + 1, 3, none⟩) ln).trans fzn3); (have czp3 := ck bp czn3); (have fzp4 := (bp.frozen (p := ⟨w.heap.size + 1, 4, none⟩) ln).trans fzn4); (have czp4 := ck bp czn4))
          | (go_at_call_has 25 h.upF; refine (clone_any h.upF A.a1 A.c1 _ (SEE.out.upF.below (Bp.out)) FORM.out.f1 (by have := F.out.u; omega)).mono ?_; rintro e wq ⟨aq, cq, rfl, sq, gq, bq⟩; (have Bq := Lib.hid ((Bp.out).trans (bq.mono (Bp.out).size))); (have q0 := ck bq p0); (have q1 := ck bq p1); (have q2 := ck bq p2); (have q3 := ck bq p3); (have q4 := ck bq p4); (have q5 := ck bq p5); (have q6 := ck bq p6); (have q7 := ck bq p7); (have lq := Nat.lt_of_lt_of_le lp bq.size); (have fzq0 := (bq.frozen (p := ⟨w.heap.size + 1, 0, none⟩) lp).trans fzp0); (have czq0 := ck bq czp0); (have fzq1 := (bq.frozen (p := ⟨w.heap.size + 1, 1, none⟩) lp).trans fzp1); (have czq1 := ck bq czp1); (have fzq2 := (bq.frozen (p := ⟨w.heap.size + 1, 2, none⟩) lp).trans fzp2); (have czq2 := ck bq czp2); (have fzq3 := (bq.frozen (p := ⟨w.heap.size + 1, 3, none⟩) lp).trans fzp3); (have czq3 := ck bq czp3); (have fzq4 := (bq.frozen (p := ⟨w.heap.size + 1, 4, none⟩) lp).trans fzp4); (have czq4 := ck bq czp4))
          | (go_at_call_has 24 h.up; refine (turned_any h.up.length h.dn.length _ _ _ h.up A.a2 A.c2 _ (SEE.out.up.below (Bq.out)) q5 q6 q7 SEE.out.bup htot hup).mono ?_; rintro e wr ⟨ar, cr, rfl, sr, gr, br⟩; (have Br := Lib.hid ((Bq.out).trans (br.mono (Bq.out).size))); (have r0 := ck br q0); (have r1 := ck br q1); (have r2 := ck br q2); (have r3 := ck br q3); (have r4 := ck br q4); (have r5 := ck br q5); (have r6 := ck br q6); (have r7 := ck br q7); (have lr := Nat.lt_of_lt_of_le lq br.size); (have fzr0 := (br.frozen (p := ⟨w.heap.size + 1, 0, none⟩) lq).trans fzq0); (have czr0 := ck br czq0); (have fzr1 := (br.frozen (p := ⟨w.heap.size + 1, 1, none⟩) lq).trans fzq1); (have czr1 := ck br czq1); (have fzr2 := (br.frozen (p := ⟨w.heap.size + 1, 2, none⟩) lq).trans fzq2); (have czr2 := ck br czq2); (have fzr3 := (br.frozen (p := ⟨w.heap.size + 1, 3, none⟩) lq).trans fzq3); (have czr3 := ck br czq3); (have fzr4 := (br.frozen (p := ⟨w.heap.size + 1, 4, none⟩) lq).trans fzq4); (have czr4 := ck br czq4)))
      dsimp only [Exit.then]
      go_wp2_with fail
      have hres := (((((HR.out.drew).below bm lk).below bn lm).below bp ln).below bq lp).below br lq
      refine bodyPost_ret (results_ct rfl _ _ (w.heap.size + 1) 25 [.slice am h.node.length cm, .slice an h.dnF.length cn, .slice ap h.dn.length cp, .slice aq h.upF.length cq, .slice ar h.up.length cr] _ rfl (((((hres.set 0 _).set 1 _).set 2 _).set 3 _).set 4 _) Try.underlying25 rfl (by rw [Try.sizeHier]; rfl)) rfl ?_
      obtain ⟨hs, hf⟩ := turn_end h (w.heap.size + 1) SEE.out htot lk sm gm lm sn gn ln sp gp lp sq gq lq sr gr bn bp bq br _ (((((Only.refl [w.heap.size + 1] wr).setCell (p := ⟨w.heap.size + 1, 0, none⟩) (.inl (by simp)) (.slice am h.node.length cm)).setCell (p := ⟨w.heap.size + 1, 1, none⟩) (.inl (by simp)) (.slice an h.dnF.length cn)).setCell (p := ⟨w.heap.size + 1, 2, none⟩) (.inl (by simp)) (.slice ap h.dn.length cp)).setCell (p := ⟨w.heap.size + 1, 3, none⟩) (.inl (by simp)) (.slice aq h.upF.length cq) |>.setCell (p := ⟨w.heap.size + 1, 4, none⟩) (.inl (by simp)) (.slice ar h.up.length cr))
      exact .inr ⟨⟨am, an, ap, aq, ar, cm, cn, cp, cq, cr⟩, by simp [hierVal, turnD], HC.out, hs, hf, (((((Br.out.setCell (p := ⟨w.heap.size + 1, 0, none⟩) (by simp) _).setCell (p := ⟨w.heap.size + 1, 1, none⟩) (by simp) _).setCell (p := ⟨w.heap.size + 1, 2, none⟩) (by simp) _).setCell (p := ⟨w.heap.size + 1, 3, none⟩) (by simp) _).setCell (p := ⟨w.heap.size + 1, 4, none⟩) (by simp) _)⟩
    · obtain ⟨wq, hwq⟩ : ∃ wq, ((w1.alloc (.cells #[.int .u32 h.dn.length] 38)).alloc (.cells #[.int .u32 h.up.length] 38)).drew = wq := ⟨_, rfl⟩
      have z1 : Cells wq (w1.heap.size + 1) 38 [.int .u32 h.up.length] := by
        rw [← hwq]
        have := Cells.new (w1.alloc (.cells #[.int .u32 h.dn.length] 38)) 38 [.int .u32 h.up.length]
        rw [World.size_alloc] at this
        exact this.drew
      have z2 : Cells wq w1.heap.size 38 [.int .u32 h.dn.length] := by
        rw [← hwq]
        exact ((Cells.new w1 38 [.int .u32 h.dn.length]).alloc _).drew
      have zb : Below w1.heap.size w1 wq := by
        rw [← hwq]
        exact (((Below.refl _ _).alloc (Nat.le_refl _) _).alloc (by simp) _).drew
      have zs : wq.heap.size = w1.heap.size + 2 := by
        rw [← hwq]
        simp [World.drew]
      rw [hwq]
      clear hwq
      have hf : Cells (wq.alloc (.cells #[.func (.func 23) #[] #[.pointer (some ⟨w1.heap.size + 1, 0, none⟩), .pointer (some ⟨w1.heap.size, 0, none⟩)]] 58)) wq.heap.size 58 [.func (.func 23) #[] #[.pointer (some ⟨w1.heap.size + 1, 0, none⟩), .pointer (some ⟨w1.heap.size, 0, none⟩)]] := Cells.new wq 58 [.func (.func 23) #[] #[.pointer (some ⟨w1.heap.size + 1, 0, none⟩), .pointer (some ⟨w1.heap.size, 0, none⟩)]]
      have hzq : Below w1.heap.size w1 (wq.alloc (.cells #[.func (.func 23) #[] #[.pointer (some ⟨w1.heap.size + 1, 0, none⟩), .pointer (some ⟨w1.heap.size, 0, none⟩)]] 58)) := zb.alloc (by omega) _
      have hy1 := z1.alloc (.cells #[.func (.func 23) #[] #[.pointer (some ⟨w1.heap.size + 1, 0, none⟩), .pointer (some ⟨w1.heap.size, 0, none⟩)]] 58)
      have hy2 := z2.alloc (.cells #[.func (.func 23) #[] #[.pointer (some ⟨w1.heap.size + 1, 0, none⟩), .pointer (some ⟨w1.heap.size, 0, none⟩)]] 58)
      have ZS := Lib.hid zs
      clear zs
      go_wp2_with fail
      obtain ⟨wz, hwz⟩ : ∃ wz, wq.alloc (.cells #[.func (.func 23) #[] #[.pointer (some ⟨w1.heap.size + 1, 0, none⟩), .pointer (some ⟨w1.heap.size, 0, none⟩)]] 58) = wz := ⟨_, rfl⟩
      rw [hwz] at hf hzq hy1 hy2 ⊢
      have HZ := Lib.hid (HB.out.trans (hzq.mono HB.out.size))
      replace k0 := ck hzq k0
      replace k1 := ck hzq k1
      replace k2 := ck hzq k2
      replace k3 := ck hzq k3
      replace k4 := ck hzq k4
      have k5 := hy1.cell (i := 0) rfl
      have k6 := hy2.cell (i := 0) rfl
      have k7 := hf.cell (i := 0) rfl
      have HR := Lib.hid (HCS.out.below hzq (by omega))
      clear hf hzq hy1 hy2 hwz z1 z2 zb
      have fzk0 := HR.out.frozen 0
      have czk0 : wz.cell? ⟨w.heap.size + 1, 0, none⟩ = some (.slice none 0 0) := HR.out.cell (i := 0) rfl
      have fzk1 := HR.out.frozen 1
      have czk1 : wz.cell? ⟨w.heap.size + 1, 1, none⟩ = some (.slice none 0 0) := HR.out.cell (i := 1) rfl
      have fzk2 := HR.out.frozen 2
      have czk2 : wz.cell? ⟨w.heap.size + 1, 2, none⟩ = some (.slice none 0 0) := HR.out.cell (i := 2) rfl
      have fzk3 := HR.out.frozen 3
      have czk3 : wz.cell? ⟨w.heap.size + 1, 3, none⟩ = some (.slice none 0 0) := HR.out.cell (i := 3) rfl
      have fzk4 := HR.out.frozen 4
      have czk4 : wz.cell? ⟨w.heap.size + 1, 4, none⟩ = some (.slice none 0 0) := HR.out.cell (i := 4) rfl
      have nr5 : ¬ w.heap.size + 1 = w1.heap.size := by omega
      have nr6 : ¬ w.heap.size + 1 = w1.heap.size + 1 := by omega
      have nr6b : ¬ w.heap.size = w1.heap.size := by omega
      have nr7 : ¬ w.heap.size + 1 = wq.heap.size := by have := ZS.out; omega
      have ne5 : ¬ w1.heap.size = w.heap.size + 1 := by omega
      have ne6 : ¬ w1.heap.size + 1 = w.heap.size + 1 := by omega
      have ne6b : ¬ w1.heap.size = w.heap.size := by omega
      have ne7 : ¬ wq.heap.size = w.heap.size + 1 := by have := ZS.out; omega
      have lk : w.heap.size + 1 < wz.heap.size := HR.out.lt
      go_region_held3 (fun W => W.cell? ⟨w.heap.size, 0, none⟩ = some (.slice A.a0 h.node.length A.c0) ∧ W.cell? ⟨w.heap.size, 1, none⟩ = some (.slice A.a1 h.upF.length A.c1) ∧ W.cell? ⟨w.heap.size, 2, none⟩ = some (.slice A.a2 h.up.length A.c2) ∧ W.cell? ⟨w.heap.size, 3, none⟩ = some (.slice A.a3 h.dnF.length A.c3) ∧ W.cell? ⟨w.heap.size, 4, none⟩ = some (.slice A.a4 h.dn.length A.c4) ∧ W.cell? ⟨w1.heap.size + 1, 0, none⟩ = some (.int .u32 h.up.length) ∧ W.cell? ⟨w1.heap.size, 0, none⟩ = some (.int .u32 h.dn.length) ∧ W.cell? ⟨wq.heap.size, 0, none⟩ = some (.func (.func 23) #[] #[.pointer (some ⟨w1.heap.size + 1, 0, none⟩), .pointer (some ⟨w1.heap.size, 0, none⟩)]) ∧ W.frozen? ⟨w.heap.size + 1, 0, none⟩ = false ∧ W.frozen? ⟨w.heap.size + 1, 1, none⟩ = false ∧ W.frozen? ⟨w.heap.size + 1, 2, none⟩ = false ∧ W.frozen? ⟨w.heap.size + 1, 3, none⟩ = false ∧ W.frozen? ⟨w.heap.size + 1, 4, none⟩ = false) (go_keep)
        (first
          | (go_at_call_has 25 h.node; refine (clone_any h.node A.a0 A.c0 _ (SEE.out.node.below (HZ.out.drew)) FORM.out.f0 (by omega)).mono ?_; rintro e wm ⟨am, cm, rfl, sm, gm, bm⟩; (have Bm := Lib.hid ((HZ.out.drew).trans (bm.mono (HZ.out.drew).size))); (have m0 := ck bm k0); (have m1 := ck bm k1); (have m2 := ck bm k2); (have m3 := ck bm k3); (have m4 := ck bm k4); (have m5 := ck bm k5); (have m6 := ck bm k6); (have m7 := ck bm k7); (have lm := Nat.lt_of_lt_of_le lk bm.size); (have fzm0 := (bm.frozen (p := ⟨w.heap.size + 1, 0, none⟩) lk).trans fzk0); (have czm0 := ck bm czk0); (have fzm1 := (bm.frozen (p := ⟨w.heap.size + 1, 1, none⟩) lk).trans fzk1); (have czm1 := ck bm czk1); (have fzm2 := (bm.frozen (p := ⟨w.heap.size + 1, 2, none⟩) lk).trans fzk2); (have czm2 := ck bm czk2); (have fzm3 := (bm.frozen (p := ⟨w.heap.size + 1, 3, none⟩) lk).trans fzk3); (have czm3 := ck bm czk3); (have fzm4 := (bm.frozen (p := ⟨w.heap.size + 1, 4, none⟩) lk).trans fzk4); (have czm4 := ck bm czk4))
          | (go_at_call_has 25 h.dnF; refine (clone_any h.dnF A.a3 A.c3 _ (SEE.out.dnF.below (Bm.out)) FORM.out.f3 (by have := F.out.d; omega)).mono ?_; rintro e wn ⟨an, cn, rfl, sn, gn, bn⟩; (have Bn := Lib.hid ((Bm.out).trans (bn.mono (Bm.out).size))); (have n0 := ck bn m0); (have n1 := ck bn m1); (have n2 := ck bn m2); (have n3 := ck bn m3); (have n4 := ck bn m4); (have n5 := ck bn m5); (have n6 := ck bn m6); (have n7 := ck bn m7); (have ln := Nat.lt_of_lt_of_le lm bn.size); (have fzn0 := (bn.frozen (p := ⟨w.heap.size + 1, 0, none⟩) lm).trans fzm0); (have czn0 := ck bn czm0); (have fzn1 := (bn.frozen (p := ⟨w.heap.size + 1, 1, none⟩) lm).trans fzm1); (have czn1 := ck bn czm1); (have fzn2 := (bn.frozen (p := ⟨w.heap.size + 1, 2, none⟩) lm).trans fzm2); (have czn2 := ck bn czm2); (have fzn3 := (bn.frozen (p := ⟨w.heap.size + 1, 3, none⟩) lm).trans fzm3); (have czn3 := ck bn czm3); (have fzn4 := (bn.frozen (p := ⟨w.heap.size + 1, 4, none⟩) lm).trans fzm4); (have czn4 := ck bn czm4))
          | (go_at_call_has 24 h.dn; refine (turned_any h.up.length h.dn.length _ _ _ h.dn A.a4 A.c4 _ (SEE.out.dn.below (Bn.out)) n5 n6 n7 SEE.out.bdn htot hdn).mono ?_; rintro e wp ⟨ap, cp, rfl, sp, gp, bp⟩; (have Bp := Lib.hid ((Bn.out).trans (bp.mono (Bn.out).size))); (have p0 := ck bp n0); (have p1 := ck bp n1); (have p2 := ck bp n2); (have p3 := ck bp n3); (have p4 := ck bp n4); (have p5 := ck bp n5); (have p6 := ck bp n6); (have p7 := ck bp n7); (have lp := Nat.lt_of_lt_of_le ln bp.size); (have fzp0 := (bp.frozen (p := ⟨w.heap.size + 1, 0, none⟩) ln).trans fzn0); (have czp0 := ck bp czn0); (have fzp1 := (bp.frozen (p := ⟨w.heap.size + 1, 1, none⟩) ln).trans fzn1); (have czp1 := ck bp czn1); (have fzp2 := (bp.frozen (p := ⟨w.heap.size + 1, 2, none⟩) ln).trans fzn2); (have czp2 := ck bp czn2); (have fzp3 := (bp.frozen (p := ⟨w.heap.size + 1, 3, none⟩) ln).trans fzn3); (have czp3 := ck bp czn3); (have fzp4 := (bp.frozen (p := ⟨w.heap.size + 1, 4, none⟩) ln).trans fzn4); (have czp4 := ck bp czn4))
          | (go_at_call_has 25 h.upF; refine (clone_any h.upF A.a1 A.c1 _ (SEE.out.upF.below (Bp.out)) FORM.out.f1 (by have := F.out.u; omega)).mono ?_; rintro e wq ⟨aq, cq, rfl, sq, gq, bq⟩; (have Bq := Lib.hid ((Bp.out).trans (bq.mono (Bp.out).size))); (have q0 := ck bq p0); (have q1 := ck bq p1); (have q2 := ck bq p2); (have q3 := ck bq p3); (have q4 := ck bq p4); (have q5 := ck bq p5); (have q6 := ck bq p6); (have q7 := ck bq p7); (have lq := Nat.lt_of_lt_of_le lp bq.size); (have fzq0 := (bq.frozen (p := ⟨w.heap.size + 1, 0, none⟩) lp).trans fzp0); (have czq0 := ck bq czp0); (have fzq1 := (bq.frozen (p := ⟨w.heap.size + 1, 1, none⟩) lp).trans fzp1); (have czq1 := ck bq czp1); (have fzq2 := (bq.frozen (p := ⟨w.heap.size + 1, 2, none⟩) lp).trans fzp2); (have czq2 := ck bq czp2); (have fzq3 := (bq.frozen (p := ⟨w.heap.size + 1, 3, none⟩) lp).trans fzp3); (have czq3 := ck bq czp3); (have fzq4 := (bq.frozen (p := ⟨w.heap.size + 1, 4, none⟩) lp).trans fzp4); (have czq4 := ck bq czp4))
          | (go_at_call_has 24 h.up; refine (turned_any h.up.length h.dn.length _ _ _ h.up A.a2 A.c2 _ (SEE.out.up.below (Bq.out)) q5 q6 q7 SEE.out.bup htot hup).mono ?_; rintro e wr ⟨ar, cr, rfl, sr, gr, br⟩; (have Br := Lib.hid ((Bq.out).trans (br.mono (Bq.out).size))); (have r0 := ck br q0); (have r1 := ck br q1); (have r2 := ck br q2); (have r3 := ck br q3); (have r4 := ck br q4); (have r5 := ck br q5); (have r6 := ck br q6); (have r7 := ck br q7); (have lr := Nat.lt_of_lt_of_le lq br.size); (have fzr0 := (br.frozen (p := ⟨w.heap.size + 1, 0, none⟩) lq).trans fzq0); (have czr0 := ck br czq0); (have fzr1 := (br.frozen (p := ⟨w.heap.size + 1, 1, none⟩) lq).trans fzq1); (have czr1 := ck br czq1); (have fzr2 := (br.frozen (p := ⟨w.heap.size + 1, 2, none⟩) lq).trans fzq2); (have czr2 := ck br czq2); (have fzr3 := (br.frozen (p := ⟨w.heap.size + 1, 3, none⟩) lq).trans fzq3); (have czr3 := ck br czq3); (have fzr4 := (br.frozen (p := ⟨w.heap.size + 1, 4, none⟩) lq).trans fzq4); (have czr4 := ck br czq4)))
      dsimp only [Exit.then]
      go_wp2_with fail
      have hres := (((((HR.out.drew).below bm lk).below bn lm).below bp ln).below bq lp).below br lq
      refine bodyPost_ret (results_ct rfl _ _ (w.heap.size + 1) 25 [.slice am h.node.length cm, .slice an h.dnF.length cn, .slice ap h.dn.length cp, .slice aq h.upF.length cq, .slice ar h.up.length cr] _ rfl (((((hres.set 0 _).set 1 _).set 2 _).set 3 _).set 4 _) Try.underlying25 rfl (by rw [Try.sizeHier]; rfl)) rfl ?_
      obtain ⟨hs, hf⟩ := turn_end h (w.heap.size + 1) SEE.out htot lk sm gm lm sn gn ln sp gp lp sq gq lq sr gr bn bp bq br _ (((((Only.refl [w.heap.size + 1] wr).setCell (p := ⟨w.heap.size + 1, 0, none⟩) (.inl (by simp)) (.slice am h.node.length cm)).setCell (p := ⟨w.heap.size + 1, 1, none⟩) (.inl (by simp)) (.slice an h.dnF.length cn)).setCell (p := ⟨w.heap.size + 1, 2, none⟩) (.inl (by simp)) (.slice ap h.dn.length cp)).setCell (p := ⟨w.heap.size + 1, 3, none⟩) (.inl (by simp)) (.slice aq h.upF.length cq) |>.setCell (p := ⟨w.heap.size + 1, 4, none⟩) (.inl (by simp)) (.slice ar h.up.length cr))
      exact .inr ⟨⟨am, an, ap, aq, ar, cm, cn, cp, cq, cr⟩, by simp [hierVal, turnD], HC.out, hs, hf, (((((Br.out.setCell (p := ⟨w.heap.size + 1, 0, none⟩) (by simp) _).setCell (p := ⟨w.heap.size + 1, 1, none⟩) (by simp) _).setCell (p := ⟨w.heap.size + 1, 2, none⟩) (by simp) _).setCell (p := ⟨w.heap.size + 1, 3, none⟩) (by simp) _).setCell (p := ⟨w.heap.size + 1, 4, none⟩) (by simp) _)⟩
  · obtain ⟨tt, u, rfl⟩ := hv.iface hc
    have c0 : w1.cell? ⟨w.heap.size + 1, 0, none⟩ = some (.slice none 0 0) := hcs.cell rfl
    have c1 : w1.cell? ⟨w.heap.size + 1, 1, none⟩ = some (.slice none 0 0) := hcs.cell rfl
    have c2 : w1.cell? ⟨w.heap.size + 1, 2, none⟩ = some (.slice none 0 0) := hcs.cell rfl
    have c3 : w1.cell? ⟨w.heap.size + 1, 3, none⟩ = some (.slice none 0 0) := hcs.cell rfl
    have c4 : w1.cell? ⟨w.heap.size + 1, 4, none⟩ = some (.slice none 0 0) := hcs.cell rfl
    have f0 := hcs.frozen 0
    have f1 := hcs.frozen 1
    have f2 := hcs.frozen 2
    have f3 := hcs.frozen 3
    have f4 := hcs.frozen 4
    have HC := Lib.hid hc
    have HR := Lib.hid hcs
    clear hb hcs hcs0 hv hc
    go_wp2
    refine bodyPost_ret (results_ct rfl _ _ (w.heap.size + 1) 25 [.slice none 0 0, .slice none 0 0, .slice none 0 0, .slice none 0 0, .slice none 0 0] _ rfl (((((HR.out.set 0 _).set 1 _).set 2 _).set 3 _).set 4 _) Try.underlying25 rfl (by rw [Try.sizeHier]; rfl)) rfl ?_
    have hB5 := ((((HB.out.setCell (p := ⟨w.heap.size + 1, 0, none⟩) (by simp) (.slice none 0 0)).setCell (p := ⟨w.heap.size + 1, 1, none⟩) (by simp) (.slice none 0 0)).setCell (p := ⟨w.heap.size + 1, 2, none⟩) (by simp) (.slice none 0 0)).setCell (p := ⟨w.heap.size + 1, 3, none⟩) (by simp) (.slice none 0 0)).setCell (p := ⟨w.heap.size + 1, 4, none⟩) (by simp) (.slice none 0 0)
    exact .inl ⟨_, rfl, turn_err HV.out HR.out, HC.out, hB5⟩
end Go.Proofs.Ytjbphoophgbmiaa
