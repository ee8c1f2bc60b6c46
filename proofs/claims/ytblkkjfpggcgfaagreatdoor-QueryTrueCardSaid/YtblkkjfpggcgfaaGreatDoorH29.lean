/- csr.flat: the arrays of a graph. -/
import Derived.Test.YtblkkjfpggcgfaaGreatDoorH28
import Derived.Test.YtblkkjfpggcgfaaGreatDoorH27
namespace Go.Proofs.YtblkkjfpggcgfaaGreatDoor
open Go.ChangeShapes Go.WideShapes Go.ChangeAt Go.RowKit Go.Joins Go.Deep
theorem Tryz.sizeCsr : (Tryz.prog.info? 40).map (·.size) = some 3 := by kernel_rfl
def FlatPost (n : Nat) (l : List AF) (w : World) (e : Ending) (w' : World) : Prop :=
  ∃ (af at_ aw : Option Addr) (cf ct cw : Nat), e = .returned (.agg #[.slice af (n + 1) cf, .slice at_ l.length ct, .slice aw l.length cw]) ∧ See w' af cf i64Cells 1 (firstL l n) ∧ See w' at_ ct i64Cells 1 (toL l) ∧ See w' aw cw i64Cells 1 (wtL l) ∧ (∀ a ∈ [af, at_, aw], ∀ b o, a = some ⟨b, o, none⟩ → w.heap.size ≤ b) ∧ Below w.heap.size w w'
structure FlatI (B n : Nat) (gv : List Value) (row : List Nat) (ts ws : List Nat) (vt vw : Value) (w wr : World) : Prop where
  g : Cells wr B 30 gv
  r : Cells wr (B + 1) 40 [.slice none 0 0, .slice none 0 0, .slice none 0 0]
  f : Cells wr (B + 2) 3 (nums row)
  c : Cells wr (B + 3) 40 [.slice (some ⟨B + 2, 0, none⟩) (n + 1) (n + 1), vt, vw]
  t : Nats (B + 4) wr vt ts
  u : Nats (B + 4) wr vw ws
  ne : ∀ k, vt.ownBlock = some k → vw.ownBlock = some k → False
  b : Below w.heap.size w wr
theorem flat_start (n : Nat) (gv : List Value) (l : List AF) (w : World) : FlatI w.heap.size n gv (cntRow (l.take 0) n) (toL (l.take 0)) (wtL (l.take 0)) (.slice none 0 0) (.slice none 0 0) w
    ((((w.alloc (.cells gv.toArray 30)).alloc (.cells #[.slice none 0 0, .slice none 0 0, .slice none 0 0] 40)).alloc (.cells (nums (cntRow [] n)).toArray 3)).alloc (.cells #[.slice (some ⟨w.heap.size + 2, 0, none⟩) (n + 1) (n + 1), .slice none 0 0, .slice none 0 0] 40)) := by
  have r := Cells.new (w.alloc (.cells gv.toArray 30)) 40 [.slice none 0 0, .slice none 0 0, .slice none 0 0]
  rw [show (w.alloc (.cells gv.toArray 30)).heap.size = w.heap.size + 1 by simp] at r
  have f := Cells.new ((w.alloc (.cells gv.toArray 30)).alloc (.cells #[.slice none 0 0, .slice none 0 0, .slice none 0 0] 40)) 3 (nums (cntRow [] n))
  rw [show ((w.alloc (.cells gv.toArray 30)).alloc (.cells #[.slice none 0 0, .slice none 0 0, .slice none 0 0] 40)).heap.size = w.heap.size + 2 by simp] at f
  have c := Cells.new (((w.alloc (.cells gv.toArray 30)).alloc (.cells #[.slice none 0 0, .slice none 0 0, .slice none 0 0] 40)).alloc (.cells (nums (cntRow [] n)).toArray 3)) 40 [.slice (some ⟨w.heap.size + 2, 0, none⟩) (n + 1) (n + 1), .slice none 0 0, .slice none 0 0]
  rw [show (((w.alloc (.cells gv.toArray 30)).alloc (.cells #[.slice none 0 0, .slice none 0 0, .slice none 0 0] 40)).alloc (.cells (nums (cntRow [] n)).toArray 3)).heap.size = w.heap.size + 3 by simp] at c
  rw [List.take_zero]
  exact ⟨(((Cells.new w 30 gv).alloc _).alloc _).alloc _, (r.alloc _).alloc _, f.alloc _, c, Nats.nil _ _, Nats.nil _ _, by simp [Value.ownBlock], ((((Below.refl _ _).alloc (Nat.le_refl _) _).alloc (by simp) _).alloc (by simp; omega) _).alloc (by simp; omega) _⟩
set_option linter.unusedSimpArgs false in
set_option maxRecDepth 100000 in
set_option maxHeartbeats 8000000 in
theorem flat_any (n : Nat) (ao : Option Addr) (cap : Nat) (l : List AF) (w : World) (see : See w ao cap arcCells 3 l) (hn : n ≤ 65536) (hl : l.length ≤ 262144) (hg : InG n l) :
    Calls Tryz.prog 22 #[.agg #[.int .i64 (n : Int), .slice ao l.length cap]] w (FlatPost n l w) := by
  obtain ⟨N, hN⟩ : ∃ N, l.length = N := ⟨_, rfl⟩
  have SEE := Lib.hid see
  have HG := Lib.hid hg
  rw [hN] at hl ⊢
  have HN := Lib.hid hN
  have hmk := run_make_n (P := Tryz.prog) 38 3 (.int .i64 0) 1 8 Tryz.underlying38 Tryz.infoInt .i64 .i64 (n + 1) (by omega) (by omega)
  rw [nums_rep, ← cntRow_nil, show ((n + 1 : Nat) : Int) = (n : Int) + 1 from rfl] at hmk
  have cn := IntWalk.i64_in ((n : Int) + 1) (by omega)
  clear see hg hN
  go_enter Tryz.func22, Tryz.ntmps22
  go_wp2_with fail
  go_loopg [15] N (fun g vi wr => ∃ (k : Nat) (vt vw : Value), vi = .int .i64 k ∧ k ≤ N ∧ g = N - k ∧ FlatI w.heap.size n [.int .i64 (n : Int), .slice ao N cap] (cntRow (l.take k) n) (toL (l.take k)) (wtL (l.take k)) vt vw w wr)
  case atStart => exact ⟨0, .slice none 0 0, .slice none 0 0, rfl, Nat.zero_le _, rfl, flat_start n [.int .i64 (n : Int), .slice ao N cap] l w⟩
  case round =>
    obtain ⟨k, vt, vw, rfl, hk, hg, hi⟩ := hrel
    have HGM := Lib.hid hg
    have HI := Lib.hid hi
    have g0 : wr.cell? ⟨w.heap.size, 0, none⟩ = some (.int .i64 (n : Int)) := hi.g.cell rfl
    have g1 : wr.cell? ⟨w.heap.size, 1, none⟩ = some (.slice ao N cap) := hi.g.cell rfl
    have c0 : wr.cell? ⟨w.heap.size + 3, 0, none⟩ = some (.slice (some ⟨w.heap.size + 2, 0, none⟩) (n + 1) (n + 1)) := hi.c.cell rfl
    have c1 : wr.cell? ⟨w.heap.size + 3, 1, none⟩ = some vt := hi.c.cell rfl
    have c2 : wr.cell? ⟨w.heap.size + 3, 2, none⟩ = some vw := hi.c.cell rfl
    have lc := hi.c.lt
    have lf := hi.f.lt
    clear hg hi
    by_cases hkl : k < N
    · obtain ⟨x, hx⟩ : ∃ x, l[k]? = some x := ⟨_, List.getElem?_eq_getElem (by rw [HN.out]; exact hkl)⟩
      obtain ⟨b, o, ea, cc⟩ := SEE.out.cell k x hx
      have EA := Lib.hid ea
      have HXX := Lib.hid hx
      have hfr := (HG.out x (List.mem_of_getElem? hx)).1
      obtain ⟨v, hv⟩ : ∃ v, x.1.val = v := ⟨_, rfl⟩
      obtain ⟨t, ht⟩ : ∃ t, x.2.1.val = t := ⟨_, rfl⟩
      obtain ⟨m, hm⟩ : ∃ m, x.2.2.val = m := ⟨_, rfl⟩
      have e0 : wr.cell? ⟨b, o + k * 3, none⟩ = some (.int .i64 (v : Int)) := by
        rw [← hv]
        have := ck HI.out.b (cc 0 _ rfl)
        rwa [Nat.add_zero] at this
      have e1 : wr.cell? ⟨b, o + k * 3 + 1, none⟩ = some (.int .i64 (t : Int)) := by
        rw [← ht]
        exact ck HI.out.b (cc 1 _ rfl)
      have e2 : wr.cell? ⟨b, o + k * 3 + 2, none⟩ = some (.int .i64 (m : Int)) := by
        rw [← hm]
        exact ck HI.out.b (cc 2 _ rfl)
      have lb := block_lt e0
      rw [hv] at hfr
      obtain ⟨q, hq⟩ : ∃ q, v + 1 = q := ⟨_, rfl⟩
      have hqi : (v : Int) + 1 = (q : Int) := by omega
      have hqn : q < n + 1 := by omega
      have cq := IntWalk.i64_in (q : Int) (by omega)
      obtain ⟨y, hy⟩ : ∃ y, cntEq (l.take k) q = y := ⟨_, rfl⟩
      have hyl : y ≤ 262144 := by
        rw [← hy]
        have := cntEq_le (l.take k) q
        rw [List.length_take] at this
        omega
      have z0 : wr.cell? ⟨w.heap.size + 2, q, none⟩ = some (.int .i64 (y : Int)) := by
        rw [← hy]
        exact HI.out.f.cell (nums_get (cntRow_get _ _ _ (by omega)))
      have fz := HI.out.f.frozen q
      have cy := IntWalk.i64_in ((y : Int) + 1) (by omega)
      have HV := Lib.hid (And.intro hv (And.intro ht (And.intro hm (And.intro hq hy))))
      clear hx cc ea hv ht hm hq hy
      rw [EA.out]
      go_upto_region 6 with fail
      obtain ⟨wp, hwp⟩ : ∃ wp, (wr.setCell ⟨w.heap.size + 2, q, none⟩ (.int .i64 ((y : Int) + 1))).alloc (.cells #[.int .i64 (v : Int), .int .i64 (t : Int), .int .i64 (m : Int)] 68) = wp := ⟨_, rfl⟩
      have hX : Cells wp wr.heap.size 68 [.int .i64 (v : Int), .int .i64 (t : Int), .int .i64 (m : Int)] := by
        have := Cells.new (wr.setCell ⟨w.heap.size + 2, q, none⟩ (.int .i64 ((y : Int) + 1))) 68 [.int .i64 (v : Int), .int .i64 (t : Int), .int .i64 (m : Int)]
        rw [show (wr.setCell ⟨w.heap.size + 2, q, none⟩ (.int .i64 ((y : Int) + 1))).heap.size = wr.heap.size by simp [World.setCell]] at this
        rw [← hwp]
        exact this
      have hO : Only [w.heap.size + 2] wr wp := by
        rw [← hwp]
        exact ((Only.refl _ wr).setCell (p := ⟨w.heap.size + 2, q, none⟩) (by simp) _).alloc _
      have hsz : wp.heap.size = wr.heap.size + 1 := by rw [← hwp]; simp [World.setCell]
      have hF : Cells wp (w.heap.size + 2) 3 (nums (cntRow (l.take (k + 1)) n)) := by
        rw [← hwp, List.take_add_one, HXX.out, Option.toList_some, cntRow_snoc _ _ _ (by rw [HV.out.1]; omega), HV.out.1, HV.out.2.2.2.1, HV.out.2.2.2.2, ← nums_set]
        exact (HI.out.f.set q _).alloc _
      rw [hwp]
      have hT : Nats (w.heap.size + 4) wp vt (toL (l.take k)) := HI.out.t.kept hO (fun q hq hm => by
        have h1 := HI.out.t.new q hq
        simp at hm
        omega)
      have hU : Nats (w.heap.size + 4) wp vw (wtL (l.take k)) := HI.out.u.kept hO (fun q hq hm => by
        have h1 := HI.out.u.new q hq
        simp at hm
        omega)
      have hC := HI.out.c.kept hO (by simp)
      have hR := HI.out.r.kept hO (by simp)
      have hGc := HI.out.g.kept hO (by simp)
      have hB := HI.out.b.trans (hO.below (B := w.heap.size) HI.out.b.size (fun q hq => by simp at hq; omega))
      have htl : (toL (l.take k)).length = k := by unfold toL; rw [List.length_map, List.length_take, HN.out]; omega
      have hul : (wtL (l.take k)).length = k := by unfold wtL; rw [List.length_map, List.length_take, HN.out]; omega
      have x1 : wp.cell? ⟨wr.heap.size, 1, none⟩ = some (.int .i64 (t : Int)) := hX.cell rfl
      have x2 : wp.cell? ⟨wr.heap.size, 2, none⟩ = some (.int .i64 (m : Int)) := hX.cell rfl
      have d1 : wp.cell? ⟨w.heap.size + 3, 1, none⟩ = some vt := hC.cell rfl
      have d2 : wp.cell? ⟨w.heap.size + 3, 2, none⟩ = some vw := hC.cell rfl
      have fd1 := hC.frozen 1
      have ld := hC.lt
      have lX := hX.lt
      have hTo := hT.own
      rw [htl] at hTo
      have HTo := Lib.hid hTo
      have HT := Lib.hid hT
      have HU := Lib.hid hU
      have HC := Lib.hid hC
      have HR := Lib.hid hR
      have HGc := Lib.hid hGc
      have HB := Lib.hid hB
      have HTL := Lib.hid htl
      have HUL := Lib.hid hul
      have HXc := Lib.hid hX
      have HF := Lib.hid hF
      have HO := Lib.hid hO
      have HSZ := Lib.hid hsz
      clear hsz hT hU hC hR hGc hB htl hul hTo hX hF hO hwp z0 fz c0 c1 c2 g0 g1 e0 e1 e2
      go_wp2_with (at_builtin; refine wpList_app _ rfl _ _ 38 rfl 3 (.int .i64 0) 1 8 Tryz.underlying38 Tryz.infoInt rfl (by decide) vt k ((toL (l.take k)).flatMap i64Cells) rfl ?own ⟨wp.heap.size, 0, none⟩ 1 1 (i64Cells t) rfl rfl ?c1 ?c2 ?c3 ?c4 ?_)
      case own => exact own_kept (bs := []) HTo.out ((Only.refl _ wp).alloc _) (fun q _ => by simp)
      case c1 => exact cells_new wp 3 (i64Cells t)
      case c2 => intro u hu; simp [i64Cells] at hu; subst hu; rfl
      case c3 => unfold maxLen; omega
      case c4 => omega
      intro ao5 cap5 w5 hown5 ho5 hk5
      have hba : Below wp.heap.size wp (wp.alloc (.cells #[.int .i64 (t : Int)] 3)) := (Below.refl _ _).alloc (Nat.le_refl _) _
      have hnt : ∀ b : Nat, b < w.heap.size + 4 → b ∉ vt.ownBlock.toList := by
        intro b hb hm
        have h1 := HT.out.new b (own_mem hm)
        omega
      have hC5 := (HC.out.below hba HC.out.lt).kept ho5 (hnt _ (by omega))
      have d1 : w5.cell? ⟨w.heap.size + 3, 1, none⟩ = some vt := hC5.cell rfl
      have d2 : w5.cell? ⟨w.heap.size + 3, 2, none⟩ = some vw := hC5.cell rfl
      have fd1 := hC5.frozen 1
      have fd2 := hC5.frozen 2
      have ld := hC5.lt
      have HC5 := Lib.hid hC5
      have HO5 := Lib.hid ho5
      have HW5 := Lib.hid hown5
      have HK5 := Lib.hid hk5
      have HBA := Lib.hid hba
      have HNT := Lib.hid hnt
      clear hC5 ho5 hown5 hk5 hba hnt
      go_upto_region 7 with fail
      obtain ⟨wq, hwq⟩ : ∃ wq, w5.setCell ⟨w.heap.size + 3, 1, none⟩ (.slice ao5 (k + 1) cap5) = wq := ⟨_, rfl⟩
      have hC6 := HC5.out.set 1 (.slice ao5 (k + 1) cap5)
      have hO6 : Only ((w.heap.size + 3) :: vt.ownBlock.toList) wp wq := by
        rw [← hwq]
        refine ((Only.of_below HBA.out).trans (show Only ((w.heap.size + 3) :: vt.ownBlock.toList) _ w5 from ⟨HO5.out.os, HO5.out.tape, HO5.out.output, HO5.out.size, fun q hq hn => HO5.out.block q hq (fun h => hn (List.mem_cons_of_mem _ h))⟩) (fun q hq => .inl hq)).setCell (p := ⟨w.heap.size + 3, 1, none⟩) (by simp) _
      rw [hwq] at hC6 ⊢
      have hnu : ∀ q, vw.ownBlock = some q → q ∉ ((w.heap.size + 3) :: vt.ownBlock.toList) := by
        intro q hq hm
        simp only [List.mem_cons] at hm
        rcases hm with h | h
        · have h1 := HU.out.new q hq
          omega
        · exact HI.out.ne q (own_mem h) hq
      have hU6 := HU.out.kept hO6 hnu
      have hlow : ∀ b : Nat, b < w.heap.size + 3 → b ∉ ((w.heap.size + 3) :: vt.ownBlock.toList) := by
        intro b hb hm
        simp only [List.mem_cons] at hm
        rcases hm with h | h
        · omega
        · exact HNT.out b (by omega) h
      have hR6 := HR.out.kept hO6 (hlow _ (by omega))
      have hG6 := HGc.out.kept hO6 (hlow _ (by omega))
      have hF6 := HF.out.kept hO6 (hlow _ (by omega))
      have hB6 := HB.out.trans (hO6.below (B := w.heap.size) HB.out.size (fun q hq => by
        simp only [List.mem_cons] at hq
        rcases hq with h | h
        · omega
        · have h1 := HT.out.new q (own_mem h)
          omega))
      have hX6 := HXc.out.kept hO6 (by
        intro hm
        simp only [List.mem_cons] at hm
        rcases hm with h | h
        · omega
        · have h1 := (HI.out.t.own.lt _ (own_mem h)).2
          omega)
      have x2 : wq.cell? ⟨wr.heap.size, 2, none⟩ = some (.int .i64 (m : Int)) := hX6.cell rfl
      have d2 : wq.cell? ⟨w.heap.size + 3, 2, none⟩ = some vw := hC6.cell rfl
      have fd2 := hC6.frozen 2
      have ld := hC6.lt
      have lX := hX6.lt
      have hUo := hU6.own
      rw [HUL.out] at hUo
      have HUo := Lib.hid hUo
      have HC6 := Lib.hid hC6
      have HO6 := Lib.hid hO6
      have HU6 := Lib.hid hU6
      have HR6 := Lib.hid hR6
      have HG6 := Lib.hid hG6
      have HF6 := Lib.hid hF6
      have HB6 := Lib.hid hB6
      have HX6 := Lib.hid hX6
      have HWQ := Lib.hid hwq
      clear hC6 hO6 hU6 hR6 hG6 hF6 hB6 hX6 hUo hwq hnu hlow d1 fd1
      go_wp2_with (at_builtin; refine wpList_app _ rfl _ _ 38 rfl 3 (.int .i64 0) 1 8 Tryz.underlying38 Tryz.infoInt rfl (by decide) vw k ((wtL (l.take k)).flatMap i64Cells) rfl ?own ⟨wq.heap.size, 0, none⟩ 1 1 (i64Cells m) rfl rfl ?c1 ?c2 ?c3 ?c4 ?_)
      case own => exact own_kept (bs := []) HUo.out ((Only.refl _ wq).alloc _) (fun q _ => by simp)
      case c1 => exact cells_new wq 3 (i64Cells m)
      case c2 => intro u hu; simp [i64Cells] at hu; subst hu; rfl
      case c3 => unfold maxLen; omega
      case c4 => omega
      intro ao7 cap7 w7 hown7 ho7 hk7
      have hba7 : Below wq.heap.size wq (wq.alloc (.cells #[.int .i64 (m : Int)] 3)) := (Below.refl _ _).alloc (Nat.le_refl _) _
      have hnu : ∀ b : Nat, b < w.heap.size + 4 → b ∉ vw.ownBlock.toList := by
        intro b hb hm
        have h1 := HU6.out.new b (own_mem hm)
        omega
      have hC7 := (HC6.out.below hba7 HC6.out.lt).kept ho7 (hnu _ (by omega))
      have d2 : w7.cell? ⟨w.heap.size + 3, 2, none⟩ = some vw := hC7.cell rfl
      have fd2 := hC7.frozen 2
      have ld := hC7.lt
      have HC7 := Lib.hid hC7
      have HO7 := Lib.hid ho7
      have HW7 := Lib.hid hown7
      have HK7 := Lib.hid hk7
      have HBA7 := Lib.hid hba7
      have HNU := Lib.hid hnu
      clear hC7 ho7 hown7 hk7 hba7 hnu
      go_wp2_with fail
      rw [← EA.out]
      go_roundg (N - (k + 1))
      case measure => rw [HGM.out]; omega
      case rel =>
        have hsz := HSZ.out
        have hto : toL (l.take (k + 1)) = toL (l.take k) ++ [t] := by rw [List.take_add_one, HXX.out, ← HV.out.2.1]; simp [toL]
        have hwo : wtL (l.take (k + 1)) = wtL (l.take k) ++ [m] := by rw [List.take_add_one, HXX.out, ← HV.out.2.2.1]; simp [wtL]
        have hO8 : Only ((w.heap.size + 3) :: vw.ownBlock.toList) wq (w7.setCell ⟨w.heap.size + 3, 2, none⟩ (.slice ao7 (k + 1) cap7)) :=
          ((Only.of_below HBA7.out).trans (show Only ((w.heap.size + 3) :: vw.ownBlock.toList) _ w7 from ⟨HO7.out.os, HO7.out.tape, HO7.out.output, HO7.out.size, fun q hq hn => HO7.out.block q hq (fun h => hn (List.mem_cons_of_mem _ h))⟩) (fun q hq => .inl hq)).setCell (p := ⟨w.heap.size + 3, 2, none⟩) (by simp) _
        have hN5 : Nats (w.heap.size + 4) w5 (.slice ao5 (k + 1) cap5) (toL (l.take k) ++ [t]) := by
          have := (HT.out.below HBA.out).app [t] (m := 1) rfl (ao := ao5) (cap := cap5) (w5 := w5) (by rw [HTL.out, List.flatMap_singleton]; exact HW5.out) (by rw [HTL.out]; simpa using HK5.out) (by simp; omega)
          rwa [HTL.out] at this
        have hN7 : Nats (w.heap.size + 4) w7 (.slice ao7 (k + 1) cap7) (wtL (l.take k) ++ [m]) := by
          have := (HU6.out.below HBA7.out).app [m] (m := 1) rfl (ao := ao7) (cap := cap7) (w5 := w7) (by rw [HUL.out, List.flatMap_singleton]; exact HW7.out) (by rw [HUL.out]; simpa using HK7.out) (by have := HO6.out.size; simp; omega)
          rwa [HUL.out] at this
        have hN6 : Nats (w.heap.size + 4) wq (.slice ao5 (k + 1) cap5) (toL (l.take k) ++ [t]) := by
          rw [← HWQ.out]
          exact hN5.kept (bs := [w.heap.size + 3]) ((Only.refl _ w5).setCell (p := ⟨w.heap.size + 3, 1, none⟩) (by simp) _) (fun q hq hm => by
            have h1 := hN5.new q hq
            simp at hm
            omega)
        have hap : ∀ q, (Value.slice ao5 (k + 1) cap5).ownBlock = some q → vw.ownBlock = some q → False := by
          intro q h1 h2
          rcases HK5.out q h1 with h3 | h3
          · exact HI.out.ne q h3 h2
          · have h4 := (HI.out.u.own.lt _ h2).2
            omega
        have hlow : ∀ b : Nat, b < w.heap.size + 3 → b ∉ ((w.heap.size + 3) :: vw.ownBlock.toList) := by
          intro b hb hm
          simp only [List.mem_cons] at hm
          rcases hm with h | h
          · omega
          · exact HNU.out b (by omega) h
        have hT9 := hN6.kept hO8 (fun q hq hm => by
          simp only [List.mem_cons] at hm
          rcases hm with h | h
          · have h1 := hN6.new q hq
            omega
          · exact hap q hq (own_mem h))
        have hU9 := hN7.kept (bs := [w.heap.size + 3]) ((Only.refl _ w7).setCell (p := ⟨w.heap.size + 3, 2, none⟩) (by simp) (.slice ao7 (k + 1) cap7)) (fun q hq hm => by
          have h1 := hN7.new q hq
          simp at hm
          omega)
        refine ⟨k + 1, .slice ao5 (k + 1) cap5, .slice ao7 (k + 1) cap7, by go_num, by omega, rfl, HG6.out.kept hO8 (hlow _ (by omega)), HR6.out.kept hO8 (hlow _ (by omega)), HF6.out.kept hO8 (hlow _ (by omega)), HC7.out.set 2 _, ?_, ?_, ?_, ?_⟩
        · rw [hto]; exact hT9
        · rw [hwo]; exact hU9
        · intro q h1 h2
          rcases HK7.out q h2 with h3 | h3
          · exact hap q h1 h3
          · have h4 := (hN6.own.lt _ h1).2
            omega
        · exact HB6.out.trans (hO8.below HB6.out.size (fun q hq => by
            simp only [List.mem_cons] at hq
            rcases hq with h | h
            · omega
            · have h1 := HU6.out.new q (own_mem h)
              omega))
    · obtain rfl : k = N := by omega
      have hall : l.take k = l := by rw [← HN.out, List.take_length]
      rw [hall, ← sumRow_zero] at HI
      clear hall
      go_wp2_with fail
      have HI0 := Lib.hid HI.out
      clear g0 g1 c0 c1 c2 lc lf HI
      go_loopg [45] n (fun g vi wr => ∃ j : Nat, vi = .int .i64 j ∧ j ≤ n ∧ g = n - j ∧ FlatI w.heap.size n [.int .i64 (n : Int), .slice ao k cap] (sumRow l n j) (toL l) (wtL l) vt vw w wr)
      case atStart => exact ⟨0, rfl, Nat.zero_le _, rfl, HI0.out⟩
      case round =>
        obtain ⟨j, rfl, hj, hg2, hi⟩ := hrel
        have HGM2 := Lib.hid hg2
        have HI := Lib.hid hi
        have c0 : wr.cell? ⟨w.heap.size + 3, 0, none⟩ = some (.slice (some ⟨w.heap.size + 2, 0, none⟩) (n + 1) (n + 1)) := hi.c.cell rfl
        have lc := hi.c.lt
        have lf := hi.f.lt
        clear hg2 hi
        by_cases hjn : j < n
        · obtain ⟨q, hq⟩ : ∃ q, j + 1 = q := ⟨_, rfl⟩
          have hqi : (j : Int) + 1 = (q : Int) := by omega
          have cq := IntWalk.i64_in (q : Int) (by omega)
          have hqn : q < n + 1 := by omega
          have hjn1 : j < n + 1 := by omega
          obtain ⟨y, hy⟩ : ∃ y, cntEq l q = y := ⟨_, rfl⟩
          obtain ⟨z, hz⟩ : ∃ z, cntLt l j = z := ⟨_, rfl⟩
          have hyl : y ≤ 262144 := by
            rw [← hy]
            have := cntEq_le l q
            have := HN.out
            omega
          have hzl : z ≤ 262144 := by
            rw [← hz]
            have := cntLt_le l j
            have := HN.out
            omega
          have z0 : wr.cell? ⟨w.heap.size + 2, q, none⟩ = some (.int .i64 (y : Int)) := by
            rw [← hy]
            have := sumRow_get l n j q (by omega)
            rw [if_neg (by omega)] at this
            exact HI.out.f.cell (nums_get this)
          have z1 : wr.cell? ⟨w.heap.size + 2, j, none⟩ = some (.int .i64 (z : Int)) := by
            rw [← hz]
            have := sumRow_get l n j j (by omega)
            rw [if_pos (by omega)] at this
            exact HI.out.f.cell (nums_get this)
          have fz := HI.out.f.frozen q
          have cyz := IntWalk.i64_in ((y : Int) + (z : Int)) (by omega)
          have HQ := Lib.hid hq
          have HYZ := Lib.hid (And.intro hy hz)
          clear hq hy hz
          go_upto_region 12 with fail
          go_region
          all_goals
            try dsimp only [Exit.then]
            go_wp2_with fail
            go_roundg (n - (j + 1))
            case measure => rw [HGM2.out]; omega
            case rel =>
              have hO : Only [w.heap.size + 2] wr (wr.drew.setCell ⟨w.heap.size + 2, q, none⟩ (.int .i64 ((y : Int) + (z : Int)))) := ((Only.refl _ wr).drew).setCell (p := ⟨w.heap.size + 2, q, none⟩) (by simp) _
              have hst : ∀ v : Value, (∀ e, v.ownBlock = some e → w.heap.size + 4 ≤ e) → ∀ e, v.ownBlock = some e → e ∉ [w.heap.size + 2] := fun v hv e he hm => by
                have := hv e he
                simp at hm
                omega
              refine ⟨j + 1, by go_num, by omega, rfl, HI.out.g.kept hO (by simp), HI.out.r.kept hO (by simp), ?_, HI.out.c.kept hO (by simp), HI.out.t.kept hO (hst _ HI.out.t.new), HI.out.u.kept hO (hst _ HI.out.u.new), HI.out.ne, HI.out.b.trans (hO.below (B := w.heap.size) HI.out.b.size (fun e he => by simp at he; omega))⟩
              rw [sumRow_succ l n j hjn, HQ.out, HYZ.out.1, HYZ.out.2, ← nums_set]
              exact (HI.out.f.drew).set q _
        · obtain rfl : j = n := by omega
          have c1 : wr.cell? ⟨w.heap.size + 3, 1, none⟩ = some vt := HI.out.c.cell rfl
          have c2 : wr.cell? ⟨w.heap.size + 3, 2, none⟩ = some vw := HI.out.c.cell rfl
          have r0 : wr.cell? ⟨w.heap.size + 1, 0, none⟩ = some (.slice none 0 0) := HI.out.r.cell rfl
          have r1 : wr.cell? ⟨w.heap.size + 1, 1, none⟩ = some (.slice none 0 0) := HI.out.r.cell rfl
          have r2 : wr.cell? ⟨w.heap.size + 1, 2, none⟩ = some (.slice none 0 0) := HI.out.r.cell rfl
          have f0 := HI.out.r.frozen 0
          have f1 := HI.out.r.frozen 1
          have f2 := HI.out.r.frozen 2
          have lr := HI.out.r.lt
          obtain ⟨ta, tc, rfl⟩ := HI.out.t.form
          obtain ⟨wa, wc, rfl⟩ := HI.out.u.form
          have hlt : (toL l).length = l.length := by simp [toL]
          have hlw : (wtL l).length = l.length := by simp [wtL]
          rw [hlt] at c1
          rw [hlw] at c2
          have HLT := Lib.hid hlt
          have HLW := Lib.hid hlw
          clear hlt hlw
          go_wp2_with fail
          refine bodyPost_ret (results_e rfl _ _ (w.heap.size + 1) 40 [.slice (some ⟨w.heap.size + 2, 0, none⟩) (j + 1) (j + 1), .slice ta l.length tc, .slice wa l.length wc] _ rfl (((HI.out.r.set 0 _).set 1 _).set 2 _) Tryz.underlying40 rfl (by rw [Tryz.sizeCsr]; rfl)) rfl ?_
          have hO : Only [w.heap.size + 1] wr (((wr.setCell ⟨w.heap.size + 1, 0, none⟩ (.slice (some ⟨w.heap.size + 2, 0, none⟩) (j + 1) (j + 1))).setCell ⟨w.heap.size + 1, 1, none⟩ (.slice ta l.length tc)).setCell ⟨w.heap.size + 1, 2, none⟩ (.slice wa l.length wc)) :=
            (((Only.refl _ wr).setCell (p := ⟨w.heap.size + 1, 0, none⟩) (by simp) _).setCell (p := ⟨w.heap.size + 1, 1, none⟩) (by simp) _).setCell (p := ⟨w.heap.size + 1, 2, none⟩) (by simp) _
          have hst : ∀ v : Value, (∀ e, v.ownBlock = some e → w.heap.size + 4 ≤ e) → ∀ e, v.ownBlock = some e → e ∉ [w.heap.size + 1] := fun v hv e he hm => by
            have := hv e he
            simp at hm
            omega
          have k1 := HI.out.f.kept hO (by simp)
          rw [sumRow_all] at k1
          have k2 := HI.out.t.kept hO (hst _ HI.out.t.new)
          have k3 := HI.out.u.kept hO (hst _ HI.out.u.new)
          refine ⟨_, _, _, _, _, _, rfl, k1.seeInts (by rw [firstL_len]; omega) (by unfold maxLen; omega), ?_, ?_, ?_, HI.out.b.trans (hO.below (B := w.heap.size) HI.out.b.size (fun e he => by simp at he; omega))⟩
          · exact k2.see.1
          · exact k3.see.1
          · intro a ha b o e
            simp only [List.mem_cons, List.not_mem_nil, or_false] at ha
            rcases ha with rfl | rfl | rfl
            · simp only [Option.some.injEq, Addr.mk.injEq] at e
              omega
            · subst e
              have := k2.new b rfl
              omega
            · subst e
              have := k3.new b rfl
              omega
structure CsrOk (n : Nat) (l : List AF) : Prop where
  hn : n ≤ 65536
  len : l.length ≤ 262144
  clean : Clean n l
  sorted : l.Pairwise fun x y => ltOf cmp3 y x = false
theorem CsrOk.byFrom {n : Nat} {l : List AF} (h : CsrOk n l) : ByFrom l := by
  refine h.sorted.imp fun {x y} hxy => ?_
  rw [ltOf3f] at hxy
  unfold arcLt3 at hxy
  omega
theorem CsrOk.rise {n : Nat} {l : List AF} (h : CsrOk n l) {i : Nat} {x y : AF} (hx : l[i]? = some x) (hy : l[i + 1]? = some y) (e : x.1.val = y.1.val) : x.2.1.val < y.2.1.val := by
  obtain ⟨h1, e1⟩ := List.getElem?_eq_some_iff.1 hx
  obtain ⟨h2, e2⟩ := List.getElem?_eq_some_iff.1 hy
  have hs := List.pairwise_iff_getElem.1 h.sorted i (i + 1) h1 h2 (by omega)
  rw [e1, e2, ltOf3f] at hs
  unfold arcLt3 at hs
  have hn := h.clean.nd
  rw [List.nodup_iff_pairwise_ne, List.pairwise_iff_getElem] at hn
  have hne := hn i (i + 1) (by simpa using h1) (by simpa using h2) (by omega)
  simp only [List.getElem_map, e1, e2, ne_eq, Prod.mk.injEq, not_and] at hne
  have := hne e
  omega
structure CA where
  fa : Option Addr
  fc : Nat
  ta : Option Addr
  tc : Nat
  wa : Option Addr
  wc : Nat
def csrVal (C : CA) (n m : Nat) : Value := .agg #[.slice C.fa (n + 1) C.fc, .slice C.ta m C.tc, .slice C.wa m C.wc]
structure CSee (w : World) (C : CA) (n : Nat) (l : List AF) : Prop where
  f : See w C.fa C.fc i64Cells 1 (firstL l n)
  t : See w C.ta C.tc i64Cells 1 (toL l)
  u : See w C.wa C.wc i64Cells 1 (wtL l)
theorem CSee.below {w w' : World} {C : CA} {n : Nat} {l : List AF} (s : CSee w C n l) (o : Below w.heap.size w w') : CSee w' C n l := ⟨s.f.below o, s.t.below o, s.u.below o⟩
theorem toL_get {l : List AF} {i : Nat} {x : AF} (h : l[i]? = some x) : (toL l)[i]? = some x.2.1.val := by unfold toL; rw [List.getElem?_map, h]; rfl
theorem wtL_get {l : List AF} {i : Nat} {x : AF} (h : l[i]? = some x) : (wtL l)[i]? = some x.2.2.val := by unfold wtL; rw [List.getElem?_map, h]; rfl
theorem See.int {w : World} {ao : Option Addr} {cap i x : Nat} {l : List Nat} (h : See w ao cap i64Cells 1 l) (hx : l[i]? = some x) : ∃ b o, ao = some ⟨b, o, none⟩ ∧ w.cell? ⟨b, o + i, none⟩ = some (.int .i64 (x : Int)) := by
  obtain ⟨b, o, e, hc⟩ := h.cell i x hx
  refine ⟨b, o, e, ?_⟩
  have := hc 0 _ rfl
  rwa [Nat.mul_one, Nat.add_zero] at this
theorem cnodes_any (C : CA) (n m : Nat) (w : World) (hn : n ≤ 65536) : Calls Tryz.prog 49 #[csrVal C n m] w fun e w' => e = .returned (.int .i64 (n : Int)) ∧ Below w.heap.size w w' := by
  unfold csrVal
  obtain ⟨k, hk⟩ : ∃ k, n + 1 = k := ⟨_, rfl⟩
  have hki : (k : Int) - 1 = (n : Int) := by omega
  have cn := IntWalk.i64_in (n : Int) (by omega)
  rw [hk]
  have hb := (Below.refl w.heap.size w).alloc (Nat.le_refl _) (.cells #[.slice C.fa k C.fc, .slice C.ta m C.tc, .slice C.wa m C.wc] 40)
  have HB := Lib.hid hb
  clear hk hb
  go_enter Tryz.func49, Tryz.ntmps49
  go_wp2_with fail
  go_ret
  exact ⟨rfl, HB.out⟩
set_option linter.unusedSimpArgs false in
set_option maxRecDepth 100000 in
set_option maxHeartbeats 8000000 in
theorem carc_any (C : CA) (n : Nat) (l : List AF) (i : Nat) (x : AF) (w : World) (ok : CsrOk n l) (see : CSee w C n l) (hx : l[i]? = some x) :
    Calls Tryz.prog 50 #[csrVal C n l.length, .int .i64 (x.1.val : Int), .int .i64 (i : Int)] w fun e w' => e = .returned .nilIface ∧ Below w.heap.size w w' := by
  unfold csrVal
  obtain ⟨N, hN⟩ : ∃ N, l.length = N := ⟨_, rfl⟩
  obtain ⟨p, hp⟩ : ∃ p, n + 1 = p := ⟨_, rfl⟩
  obtain ⟨v, hv⟩ : ∃ v, x.1.val = v := ⟨_, rfl⟩
  obtain ⟨q, hq⟩ : ∃ q, x.2.1.val = q := ⟨_, rfl⟩
  obtain ⟨c, hc⟩ : ∃ c, x.2.2.val = c := ⟨_, rfl⟩
  obtain ⟨f, hf⟩ : ∃ f, cntLt l v = f := ⟨_, rfl⟩
  have hxg := ok.clean.inG x (List.mem_of_getElem? hx)
  rw [hv, hq] at hxg
  have hne := ok.clean.ne x (List.mem_of_getElem? hx)
  rw [hv, hq] at hne
  have hrow := (row_iff ok.byFrom hx v).1 hv
  rw [hf] at hrow
  have hiN : i < N := by rw [← hN]; exact (List.getElem?_eq_some_iff.1 hx).1
  have hNb : N ≤ 262144 := by rw [← hN]; exact ok.len
  have hn := ok.hn
  have hcb : c ≤ 2147483647 := by rw [← hc]; have := x.2.2.isLt; omega
  obtain ⟨bt, ot, et, ct⟩ := see.t.int (toL_get hx)
  obtain ⟨bw, ow, ew, cw⟩ := see.u.int (wtL_get hx)
  obtain ⟨bf, of, ef, cf⟩ := see.f.int (firstL_get l n v (by omega))
  rw [hq] at ct
  rw [hc] at cw
  rw [hf] at cf
  have hprev : f < i → ∃ y : Nat, y < q ∧ w.cell? ⟨bt, ot + (i - 1), none⟩ = some (.int .i64 (y : Int)) := by
    intro hfi
    obtain ⟨y, hy⟩ : ∃ y, l[i - 1]? = some y := ⟨_, List.getElem?_eq_getElem (by rw [hN]; omega)⟩
    have hyv : y.1.val = v := (row_iff ok.byFrom hy v).2 (by omega)
    have hlt := ok.rise (i := i - 1) hy (by rw [show i - 1 + 1 = i by omega]; exact hx) (by rw [hyv, hv])
    rw [hq] at hlt
    obtain ⟨b, o, e, hcell⟩ := see.t.int (toL_get hy)
    rw [et] at e
    simp only [Option.some.injEq, Addr.mk.injEq, and_true] at e
    obtain ⟨rfl, rfl⟩ := e
    exact ⟨_, hlt, hcell⟩
  rw [hN, hp, et, ew, ef, hv]
  have HPR := Lib.hid hprev
  have HBC := Lib.hid ((Below.refl w.heap.size w).alloc (Nat.le_refl _) (.cells #[.slice (some ⟨bf, of, none⟩) p C.fc, .slice (some ⟨bt, ot, none⟩) N C.tc, .slice (some ⟨bw, ow, none⟩) N C.wc] 40))
  have HX := Lib.hid (Cells.new w 40 [.slice (some ⟨bf, of, none⟩) p C.fc, .slice (some ⟨bt, ot, none⟩) N C.tc, .slice (some ⟨bw, ow, none⟩) N C.wc])
  have HCN := Lib.hid (fun W => cnodes_any ⟨some ⟨bf, of, none⟩, C.fc, some ⟨bt, ot, none⟩, C.tc, some ⟨bw, ow, none⟩, C.wc⟩ n N W hn)
  unfold csrVal at HCN
  rw [hp] at HCN
  have lt := block_lt ct
  have lw := block_lt cw
  have lf := block_lt cf
  have hvp : v < p := by omega
  have q0 : decide ((q : Int) < 0) = false := by simp
  have q1 : decide ((n : Int) ≤ (q : Int)) = false := by simp; omega
  have q2 : decide (n ≤ q) = false := by simp; omega
  have q3 : decide ((q : Int) = (v : Int)) = false := by simp; omega
  have q3b : ((q : Int) == (v : Int)) = false := by simp; omega
  have q3c : (q == v) = false := by simp; omega
  have q4 : decide ((c : Int) < 0) = false := by simp
  have q5 : decide ((2147483647 : Int) < (c : Int)) = false := by simp; omega
  have q6 : decide (2147483647 < c) = false := by simp; omega
  clear see ok hx hprev hp et ew ef hN hrow hxg hne hf hv hq hc
  by_cases hfi : f < i
  · obtain ⟨y, hy1, hy2⟩ := HPR.out hfi
    obtain ⟨j, hj⟩ : ∃ j, i - 1 = j := ⟨_, rfl⟩
    rw [hj] at hy2
    have hji : (i : Int) - 1 = (j : Int) := by omega
    have cj := IntWalk.i64_in (j : Int) (by omega)
    have hjN : j < N := by omega
    have q7 : decide ((f : Int) < (i : Int)) = true := by simp; omega
    have q8 : decide (f < i) = true := by simp; omega
    have q9 : decide ((q : Int) ≤ (y : Int)) = false := by simp; omega
    have q10 : decide (q ≤ y) = false := by simp; omega
    clear hj hfi
    go_enter Tryz.func50, Tryz.ntmps50
    go_wp2_with fail
    refine (HCN.out _).mono ?_
    rintro e w1 ⟨rfl, hb1⟩
    have HB1 := Lib.hid (HBC.out.trans (hb1.mono (by simp)))
    have hx1 := HX.out.below (hb1.mono (by simp)) HX.out.lt
    have x0 : w1.cell? ⟨w.heap.size, 0, none⟩ = some (.slice (some ⟨bf, of, none⟩) p C.fc) := hx1.cell rfl
    have x1 : w1.cell? ⟨w.heap.size, 1, none⟩ = some (.slice (some ⟨bt, ot, none⟩) N C.tc) := hx1.cell rfl
    have x2 : w1.cell? ⟨w.heap.size, 2, none⟩ = some (.slice (some ⟨bw, ow, none⟩) N C.wc) := hx1.cell rfl
    have ct1 := ck HB1.out ct
    have cw1 := ck HB1.out cw
    have cf1 := ck HB1.out cf
    have cy1 := ck HB1.out hy2
    clear hx1 hb1
    go_wp2_with fail
    go_ret
    exact ⟨rfl, HB1.out⟩
  · have q7 : decide ((f : Int) < (i : Int)) = false := by simp; omega
    have q8 : decide (f < i) = false := by simp; omega
    clear hfi
    go_enter Tryz.func50, Tryz.ntmps50
    go_wp2_with fail
    refine (HCN.out _).mono ?_
    rintro e w1 ⟨rfl, hb1⟩
    have HB1 := Lib.hid (HBC.out.trans (hb1.mono (by simp)))
    have hx1 := HX.out.below (hb1.mono (by simp)) HX.out.lt
    have x0 : w1.cell? ⟨w.heap.size, 0, none⟩ = some (.slice (some ⟨bf, of, none⟩) p C.fc) := hx1.cell rfl
    have x1 : w1.cell? ⟨w.heap.size, 1, none⟩ = some (.slice (some ⟨bt, ot, none⟩) N C.tc) := hx1.cell rfl
    have x2 : w1.cell? ⟨w.heap.size, 2, none⟩ = some (.slice (some ⟨bw, ow, none⟩) N C.wc) := hx1.cell rfl
    have ct1 := ck HB1.out ct
    have cw1 := ck HB1.out cw
    have cf1 := ck HB1.out cf
    clear hx1 hb1
    go_wp2_with fail
    go_ret
    exact ⟨rfl, HB1.out⟩
end Go.Proofs.YtblkkjfpggcgfaaGreatDoor
