/- normal.Of at a graph without loops that leads from no node twice to the same: its arcs, sorted. -/
import Derived.Test.YtblkkjfpggcgfaaGreatDoorH26
import Derived.Test.YtblkkjfpggcgfaaGreatDoorH24
import Derived.Test.YtblkkjfpggcgfaaGreatDoorH15
namespace Go.Proofs.YtblkkjfpggcgfaaGreatDoor
open Go.ChangeShapes Go.WideShapes Go.ChangeAt Go.RowKit Go.Joins Go.Deep
structure Clean (n : Nat) (l : List AF) : Prop where
  inG : InG n l
  ne : ∀ x ∈ l, x.1.val ≠ x.2.1.val
  nd : (l.map fun x : AF => (x.1.val, x.2.1.val)).Nodup
theorem Clean.perm {n : Nat} {l m : List AF} (c : Clean n l) (p : m.Perm l) : Clean n m :=
  ⟨fun x hx => c.inG x (p.mem_iff.1 hx), fun x hx => c.ne x (p.mem_iff.1 hx), (p.map _).nodup_iff.2 c.nd⟩
theorem Clean.apart {n : Nat} {l : List AF} (c : Clean n l) : Apart l := by
  intro k x y hy hx
  obtain ⟨h1, e1⟩ := List.getElem?_eq_some_iff.1 hy
  obtain ⟨h2, e2⟩ := List.getElem?_eq_some_iff.1 hx
  cases hs : sameB x y with
  | false => rfl
  | true =>
    exfalso
    unfold sameB at hs
    simp only [Bool.and_eq_true, beq_iff_eq] at hs
    have hn := c.nd
    rw [List.nodup_iff_pairwise_ne, List.pairwise_iff_getElem] at hn
    have := hn k (k + 1) (by simpa using h1) (by simpa using h2) (by omega)
    simp only [List.getElem_map, e1, e2] at this
    exact this (by rw [hs.1, hs.2])
def NormPost (n : Nat) (l : List AF) (w : World) (e : Ending) (w' : World) : Prop :=
  ∃ ao cap l', e = .returned (.tuple #[.agg #[.int .i64 (n : Int), .slice ao l'.length cap], .nilIface]) ∧ l'.Perm l ∧ l'.Pairwise (fun x y => ltOf cmp3 y x = false) ∧ ArcsO w.heap.size w' (.slice ao l'.length cap) l' ∧ Below w.heap.size w w'
theorem nsort_any (B : Nat) (w : World) (v : Value) (l : List AF) (h : ArcsO B w v l) (hlen : l.length ≤ 4294967296) :
    Calls Tryz.prog 18 #[v, .func (.func 46) #[] #[]] w fun e w' => e = .returned (.tuple #[]) ∧ ∃ l' : List AF, l'.Perm l ∧ l'.Pairwise (fun x y => ltOf cmp3 y x = false) ∧ ArcsO B w' v l' ∧ Only v.ownBlock.toList w w' :=
  sort_any cmp3 swo3 46 (enters_of Tryz.func46 (by kernel_rfl) rfl) (fun x y W => norder_any x y W) B w v l h hlen
set_option linter.unusedSimpArgs false in
set_option maxRecDepth 100000 in
set_option maxHeartbeats 8000000 in
theorem norm_any (n : Nat) (ao : Option Addr) (cap : Nat) (l : List AF) (w : World) (see : See w ao cap arcCells 3 l) (hn : n ≤ 65536) (hl : l.length ≤ 262144) (hg : Clean n l) :
    Calls Tryz.prog 21 #[.agg #[.int .i64 (n : Int), .slice ao l.length cap]] w (NormPost n l w) := by
  obtain ⟨N, hN⟩ : ∃ N, l.length = N := ⟨_, rfl⟩
  have SEE := Lib.hid see
  have HG := Lib.hid hg
  have HL := Lib.hid hl
  rw [hN] at hl ⊢
  have HN := Lib.hid hN
  have HX0 := Lib.hid ((Cells.new w 30 [.int .i64 (n : Int), .slice ao N cap]).alloc (.cells #[.int .i64 0, .slice none 0 0] 30))
  have hr0 := Cells.new (w.alloc (.cells #[.int .i64 (n : Int), .slice ao N cap] 30)) 30 [.int .i64 0, .slice none 0 0]
  rw [show (w.alloc (.cells #[.int .i64 (n : Int), .slice ao N cap] 30)).heap.size = w.heap.size + 1 by simp] at hr0
  have HR0 := Lib.hid hr0
  have HB0 := Lib.hid (((Below.refl w.heap.size w).alloc (Nat.le_refl _) (.cells #[.int .i64 (n : Int), .slice ao N cap] 30)).alloc (by simp) (.cells #[.int .i64 0, .slice none 0 0] 30))
  clear hr0 see hg hN
  go_enter Tryz.func21, Tryz.ntmps21
  go_wp2_with fail
  have hck := gcheck_any n ao cap l _ (SEE.out.below HB0.out) hn HL.out HG.out.inG
  rw [HN.out] at hck
  refine hck.mono ?_
  rintro e w1 ⟨rfl, hb⟩
  have HR := Lib.hid (HR0.out.below hb HR0.out.lt)
  have HX := Lib.hid (HX0.out.below hb (by simp; omega))
  have HB := Lib.hid (HB0.out.trans (hb.mono HB0.out.size))
  have lr := HR.out.lt
  have lx := HX.out.lt
  have x0 : w1.cell? ⟨w.heap.size, 0, none⟩ = some (.int .i64 (n : Int)) := HX.out.cell rfl
  have x1 : w1.cell? ⟨w.heap.size, 1, none⟩ = some (.slice ao N cap) := HX.out.cell rfl
  clear hb hck
  go_wp2_with fail
  obtain ⟨G, hG⟩ : ∃ G, w1.heap.size = G := ⟨_, rfl⟩
  have HGG := Lib.hid hG
  have c0 := Cells.new w1 30 [.int .i64 (n : Int), .slice none 0 0]
  rw [hG] at c0
  have C0 := Lib.hid c0
  have hsz1 := HB.out.size
  clear c0
  rw [hG]
  clear hG
  go_loopg [20] N (fun g vi wr => ∃ (k : Nat) (ao2 : Option Addr) (cap2 : Nat), vi = .int .i64 k ∧ k ≤ N ∧ g = N - k ∧ Cells wr G 30 [.int .i64 (n : Int), .slice ao2 k cap2] ∧ ArcsO (G + 1) wr (.slice ao2 k cap2) (l.take k) ∧ Below w1.heap.size w1 wr)
  case atStart => exact ⟨0, none, 0, rfl, Nat.zero_le _, rfl, C0.out, ArcsO.nil _ _, (Below.refl _ _).alloc (Nat.le_refl _) _⟩
  case round =>
    obtain ⟨k, ao2, cap2, rfl, hk, hg, hc, ha, hbl⟩ := hrel
    have HGM := Lib.hid hg
    have HCE := Lib.hid hc
    have HA := Lib.hid ha
    have HBL := Lib.hid hbl
    have hgs := hc.lt
    have g0 : wr.cell? ⟨G, 0, none⟩ = some (.int .i64 (n : Int)) := hc.cell rfl
    have g1 : wr.cell? ⟨G, 1, none⟩ = some (.slice ao2 k cap2) := hc.cell rfl
    have f1 := hc.frozen 1
    have hbs := hbl.size
    clear hg hc ha hbl
    by_cases hkl : k < N
    · obtain ⟨x, hx⟩ : ∃ x, l[k]? = some x := ⟨_, List.getElem?_eq_getElem (by rw [HN.out]; exact hkl)⟩
      obtain ⟨b, o, ea, cc⟩ := SEE.out.cell k x hx
      have e0 := ck HBL.out (ck HB.out (cc 0 _ rfl))
      have e1 := ck HBL.out (ck HB.out (cc 1 _ rfl))
      have e2 := ck HBL.out (ck HB.out (cc 2 _ rfl))
      rw [Nat.add_zero] at e0
      have lb := block_lt e0
      have hne := HG.out.ne x (List.mem_of_getElem? hx)
      have q1 : (((x.1.val : Nat) : Int) != ((x.2.1.val : Nat) : Int)) = true := by simp; omega
      have q2 : (x.1.val != x.2.1.val) = true := by simpa using hne
      have EA := Lib.hid ea
      have HXX := Lib.hid hx
      have htk : (l.take k).length = k := by rw [List.length_take, HN.out]; omega
      have HTK := Lib.hid htk
      have how : wr.ownsRow 0 68 3 (.slice ao2 k cap2) k ((l.take k).flatMap arcCells) := by
        have := HA.out.own
        rwa [htk] at this
      have HOW := Lib.hid how
      have hng : ∀ b, b ≤ G → b ∉ (Value.slice ao2 k cap2).ownBlock.toList := by
        intro b hb hm
        have h1 := HA.out.new b (own_mem hm)
        omega
      have HNG := Lib.hid hng
      clear hx cc ea hne htk how hng
      rw [EA.out]
      go_wp2_with (at_builtin; refine wpList_app _ rfl _ _ 28 rfl 68 (.agg #[.int .i64 0, .int .i64 0, .int .i64 0]) 3 24 Tryz.underlying28 Tryz.infoArc rfl (by decide) (.slice ao2 k cap2) k ((l.take k).flatMap arcCells) rfl ?own ⟨wr.heap.size + 1, 0, none⟩ 1 1 (arcCells x) rfl rfl ?c1 ?c2 ?c3 ?c4 ?_)
      case own => exact own_kept (bs := []) HOW.out (((Only.refl _ wr).alloc _).alloc _) (fun q _ => by simp)
      case c1 =>
        have := cells_new (wr.alloc (.cells (arcCells x).toArray 68)) 68 (arcCells x)
        rw [show (wr.alloc (.cells (arcCells x).toArray 68)).heap.size = wr.heap.size + 1 by simp] at this
        exact this
      case c2 => intro u hu; simp [arcCells] at hu; rcases hu with rfl | rfl | rfl <;> rfl
      case c3 => unfold maxLen; omega
      case c4 => omega
      intro ao5 cap5 w5 hown5 ho5 hk5
      have hba : Below wr.heap.size wr ((wr.alloc (.cells (arcCells x).toArray 68)).alloc (.cells (arcCells x).toArray 68)) := ((Below.refl _ _).alloc (Nat.le_refl _) _).alloc (by simp) _
      have hbw := HBL.out.trans (hba.mono HBL.out.size)
      have hc5 := (HCE.out.below hba HCE.out.lt).kept ho5 (HNG.out _ (Nat.le_refl _))
      have hbl5 : Below w1.heap.size w1 w5 := hbw.trans (ho5.below hbw.size (fun q hq => by
        have h1 := HA.out.new q (own_mem hq)
        have h2 := HGG.out
        omega))
      have hs : l.take (k + 1) = l.take k ++ [x] := by rw [List.take_add_one, HXX.out]; rfl
      have hn5 : ArcsO (G + 1) w5 (.slice ao5 (k + 1) cap5) (l.take (k + 1)) := by
        rw [hs]
        have := (HA.out.below hba).app [x] (m := 1) rfl (ao := ao5) (cap := cap5) (w5 := w5) (by rw [HTK.out, List.flatMap_singleton]; exact hown5) (by rw [HTK.out]; simpa using hk5) (by simp; omega)
        rwa [HTK.out] at this
      have p0 : w5.cell? ⟨G, 0, none⟩ = some (.int .i64 (n : Int)) := hc5.cell rfl
      have p1 : w5.cell? ⟨G, 1, none⟩ = some (.slice ao2 k cap2) := hc5.cell rfl
      have f5 := hc5.frozen 1
      have l5 := hc5.lt
      have N5 := Lib.hid hn5
      have B5 := Lib.hid hbl5
      have C5 := Lib.hid hc5
      clear hown5 ho5 hk5 hba hbw hbl5 hs hn5 hc5
      go_wp2_with fail
      rw [← EA.out]
      go_roundg (N - (k + 1))
      case measure => rw [HGM.out]; omega
      case rel =>
        refine ⟨k + 1, ao5, cap5, by go_num, by omega, rfl, C5.out.set 1 (.slice ao5 (k + 1) cap5), ?_, B5.out.setCell (p := ⟨G, 1, none⟩) (by have := HGG.out; show w1.heap.size ≤ G; omega) _⟩
        exact N5.out.kept (bs := [G]) ((Only.refl _ w5).setCell (p := ⟨G, 1, none⟩) (by simp) _) (fun q hq hm => by
          have h1 := N5.out.new q hq
          simp at hm
          omega)
    · obtain rfl : k = N := by omega
      have hall : l.take k = l := by rw [← HN.out, List.take_length]
      rw [hall] at HA
      clear hall
      go_wp2_with fail
      refine (nsort_any (G + 1) wr (.slice ao2 k cap2) l HA.out (by rw [HN.out]; omega)).mono ?_
      rintro e w2 ⟨rfl, l', hperm, hsort, hown, honly⟩
      have hng : ∀ b : Nat, b ≤ G → b ∉ (Value.slice ao2 k cap2).ownBlock.toList := by
        intro b hb hm
        have h1 := HA.out.new b (own_mem hm)
        omega
      have hGG := HGG.out
      have hc2 := HCE.out.kept honly (hng _ (Nat.le_refl _))
      have hr2 := (HR.out.below HBL.out HR.out.lt).kept honly (hng _ (by omega))
      have hbl2 : Below w1.heap.size w1 w2 := HBL.out.trans (honly.below HBL.out.size (fun q hq => by
        have h1 := HA.out.new q (own_mem hq)
        omega))
      have g1 : w2.cell? ⟨G, 1, none⟩ = some (.slice ao2 k cap2) := hc2.cell rfl
      have lc2 := hc2.lt
      have hlen := hperm.length_eq
      rw [HN.out] at hlen
      have hcl := HG.out.perm hperm
      have hcp := compactF_any ao2 cap2 l' w2 hown.see.1 (by omega) hcl.apart
      rw [hlen] at hcp
      have HR2 := Lib.hid hr2
      have HC2 := Lib.hid hc2
      have HBL3 := Lib.hid hbl2
      have HO2 := Lib.hid hown
      have HP2 := Lib.hid hperm
      have HS2 := Lib.hid hsort
      have HLN := Lib.hid hlen
      have HCP := Lib.hid hcp
      clear hperm hsort hown honly hng hc2 hr2 hbl2 hGG hlen hcl hcp
      go_wp2_with fail
      refine HCP.out.mono ?_
      rintro e w3 ⟨rfl, hb⟩
      have hr3 := HR2.out.below hb HR2.out.lt
      have hc3 := HC2.out.below hb HC2.out.lt
      have g0 : w3.cell? ⟨G, 0, none⟩ = some (.int .i64 (n : Int)) := hc3.cell rfl
      have g1 : w3.cell? ⟨G, 1, none⟩ = some (.slice ao2 k cap2) := hc3.cell rfl
      have fg := hc3.frozen 1
      have r0 : w3.cell? ⟨w.heap.size + 1, 0, none⟩ = some (.int .i64 0) := hr3.cell rfl
      have r1 : w3.cell? ⟨w.heap.size + 1, 1, none⟩ = some (.slice none 0 0) := hr3.cell rfl
      have f0 := hr3.frozen 0
      have f1 := hr3.frozen 1
      have lr3 := hr3.lt
      have lc3 := hc3.lt
      have HR3 := Lib.hid hr3
      have HO3 := Lib.hid (HO2.out.below hb)
      have HBL4 := Lib.hid (HBL3.out.trans (hb.mono HBL3.out.size))
      have hGG := HGG.out
      have hne : G ≠ w.heap.size + 1 := by omega
      have hne2 : w.heap.size + 1 ≠ G := by omega
      clear hb hr3 hc3 hGG
      go_wp2_with fail
      refine bodyPost_ret (results_ct rfl _ _ (w.heap.size + 1) 30 [.int .i64 (n : Int), .slice ao2 k cap2] _ rfl (((HR3.out.other (a := ⟨G, 1, none⟩) hne2 _).set 0 _).set 1 _) Tryz.underlying30 rfl (by rw [Tryz.sizeGraph]; rfl)) rfl ?_
      have hGG := HGG.out
      refine ⟨ao2, cap2, l', by rw [HLN.out]; rfl, HP2.out, HS2.out, ?_, (((HB.out.trans (HBL4.out.mono hsz1)).setCell (p := ⟨G, 1, none⟩) (by show w.heap.size ≤ G; omega) _).setCell (p := ⟨w.heap.size + 1, 0, none⟩) (by simp) _).setCell (p := ⟨w.heap.size + 1, 1, none⟩) (by simp) _⟩
      rw [HLN.out]
      exact (HO3.out.kept (bs := [G, w.heap.size + 1]) ((((Only.refl _ w3).setCell (p := ⟨G, 1, none⟩) (by simp) _).setCell (p := ⟨w.heap.size + 1, 0, none⟩) (by simp) _).setCell (p := ⟨w.heap.size + 1, 1, none⟩) (by simp) _) (fun q hq hm => by
        have h1 := HO3.out.new q hq
        simp at hm
        omega)).mono (by omega)
def cntLt (l : List AF) (v : Nat) : Nat := l.countP fun x => decide (x.1.val < v)
def cntEq (l : List AF) (v : Nat) : Nat := l.countP fun x => decide (x.1.val + 1 = v)
theorem cntLt_zero (l : List AF) : cntLt l 0 = 0 := by
  unfold cntLt
  rw [List.countP_eq_zero]
  simp
theorem cntLt_succ (l : List AF) (v : Nat) : cntLt l (v + 1) = cntLt l v + cntEq l (v + 1) := by
  unfold cntLt cntEq
  induction l with
  | nil => rfl
  | cons x l ih =>
    simp only [List.countP_cons, decide_eq_true_eq]
    rw [ih]
    by_cases h1 : x.1.val < v
    · rw [if_pos (by omega), if_pos h1, if_neg (by omega)]; omega
    · by_cases h2 : x.1.val = v
      · rw [if_pos (by omega), if_neg h1, if_pos (by omega)]; omega
      · rw [if_neg (by omega), if_neg h1, if_neg (by omega)]; omega
theorem cntLt_all {n : Nat} {l : List AF} (h : InG n l) : cntLt l n = l.length := by
  unfold cntLt
  rw [List.countP_eq_length]
  intro x hx
  simpa using (h x hx).1
theorem cntLt_le (l : List AF) (v : Nat) : cntLt l v ≤ l.length := List.countP_le_length
theorem cntEq_le (l : List AF) (v : Nat) : cntEq l v ≤ l.length := List.countP_le_length
theorem cntLt_mono (l : List AF) {u v : Nat} (h : u ≤ v) : cntLt l u ≤ cntLt l v := by
  unfold cntLt
  refine List.countP_mono_left (fun x _ hx => ?_)
  simp only [decide_eq_true_eq] at hx ⊢
  omega
theorem cntEq_snoc (l : List AF) (x : AF) (v : Nat) : cntEq (l ++ [x]) v = cntEq l v + (if v = x.1.val + 1 then 1 else 0) := by
  unfold cntEq
  rw [List.countP_append, List.countP_singleton]
  congr 1
  by_cases h : v = x.1.val + 1
  · rw [if_pos h, if_pos (by simp [h])]
  · rw [if_neg h, if_neg (by simp; omega)]
def cntRow (l : List AF) (n : Nat) : List Nat := (List.range (n + 1)).map (cntEq l)
def sumRow (l : List AF) (n m : Nat) : List Nat := (List.range (n + 1)).map fun v => if v ≤ m then cntLt l v else cntEq l v
def firstL (l : List AF) (n : Nat) : List Nat := (List.range (n + 1)).map (cntLt l)
theorem cntRow_len (l : List AF) (n : Nat) : (cntRow l n).length = n + 1 := by simp [cntRow]
theorem sumRow_len (l : List AF) (n m : Nat) : (sumRow l n m).length = n + 1 := by simp [sumRow]
theorem firstL_len (l : List AF) (n : Nat) : (firstL l n).length = n + 1 := by simp [firstL]
theorem cntRow_get (l : List AF) (n v : Nat) (hv : v ≤ n) : (cntRow l n)[v]? = some (cntEq l v) := by
  unfold cntRow
  rw [List.getElem?_map, List.getElem?_range (by omega)]
  rfl
theorem sumRow_get (l : List AF) (n m v : Nat) (hv : v ≤ n) : (sumRow l n m)[v]? = some (if v ≤ m then cntLt l v else cntEq l v) := by
  unfold sumRow
  rw [List.getElem?_map, List.getElem?_range (by omega)]
  rfl
theorem firstL_get (l : List AF) (n v : Nat) (hv : v ≤ n) : (firstL l n)[v]? = some (cntLt l v) := by
  unfold firstL
  rw [List.getElem?_map, List.getElem?_range (by omega)]
  rfl
theorem cntRow_nil (n : Nat) : cntRow [] n = List.replicate (n + 1) 0 := by
  unfold cntRow
  apply List.ext_getElem?
  intro i
  rw [List.getElem?_map, List.getElem?_replicate]
  by_cases h : i < n + 1
  · rw [List.getElem?_range h, if_pos h]; rfl
  · rw [List.getElem?_eq_none (by simpa using h), if_neg h]; rfl
theorem cntRow_snoc (l : List AF) (x : AF) (n : Nat) (hx : x.1.val < n) : cntRow (l ++ [x]) n = (cntRow l n).set (x.1.val + 1) (cntEq l (x.1.val + 1) + 1) := by
  apply List.ext_getElem?
  intro i
  rw [List.getElem?_set, cntRow_len]
  by_cases h : i ≤ n
  · rw [cntRow_get _ _ _ h, cntEq_snoc, cntRow_get _ _ _ h]
    by_cases e : x.1.val + 1 = i
    · subst e
      rw [if_pos rfl, if_pos rfl, if_pos (by omega)]
    · rw [if_neg e, if_neg (by omega)]; rfl
  · rw [List.getElem?_eq_none (by rw [cntRow_len]; omega), List.getElem?_eq_none (l := cntRow l n) (by rw [cntRow_len]; omega), if_neg (by omega)]
theorem sumRow_zero (l : List AF) (n : Nat) : sumRow l n 0 = cntRow l n := by
  apply List.ext_getElem?
  intro i
  by_cases h : i ≤ n
  · rw [sumRow_get _ _ _ _ h, cntRow_get _ _ _ h]
    by_cases e : i = 0
    · subst e
      rw [if_pos (Nat.le_refl _), cntLt_zero]
      have : cntEq l 0 = 0 := by unfold cntEq; rw [List.countP_eq_zero]; simp
      rw [this]
    · rw [if_neg (by omega)]
  · rw [List.getElem?_eq_none (by rw [sumRow_len]; omega), List.getElem?_eq_none (by rw [cntRow_len]; omega)]
theorem sumRow_succ (l : List AF) (n m : Nat) (hm : m < n) : sumRow l n (m + 1) = (sumRow l n m).set (m + 1) (cntEq l (m + 1) + cntLt l m) := by
  apply List.ext_getElem?
  intro i
  rw [List.getElem?_set, sumRow_len]
  by_cases h : i ≤ n
  · rw [sumRow_get _ _ _ _ h, sumRow_get _ _ _ _ h]
    by_cases e : m + 1 = i
    · subst e
      rw [if_pos rfl, if_pos (by omega), if_pos (by omega), cntLt_succ, Nat.add_comm]
    · rw [if_neg e]
      by_cases h2 : i ≤ m
      · rw [if_pos (by omega), if_pos h2]
      · rw [if_neg (by omega), if_neg h2]
  · rw [List.getElem?_eq_none (by rw [sumRow_len]; omega), List.getElem?_eq_none (l := sumRow l n m) (by rw [sumRow_len]; omega), if_neg (by omega)]
theorem sumRow_all (l : List AF) (n : Nat) : sumRow l n n = firstL l n := by
  apply List.ext_getElem?
  intro i
  by_cases h : i ≤ n
  · rw [sumRow_get _ _ _ _ h, firstL_get _ _ _ h, if_pos h]
  · rw [List.getElem?_eq_none (by rw [sumRow_len]; omega), List.getElem?_eq_none (by rw [firstL_len]; omega)]
def toL (l : List AF) : List Nat := l.map fun x => x.2.1.val
def wtL (l : List AF) : List Nat := l.map fun x => x.2.2.val
def ByFrom (l : List AF) : Prop := l.Pairwise fun x y => x.1.val ≤ y.1.val
theorem cntLt_cons (x : AF) (l : List AF) (v : Nat) : cntLt (x :: l) v = cntLt l v + (if x.1.val < v then 1 else 0) := by
  unfold cntLt
  rw [List.countP_cons]
  simp
theorem row_lt : ∀ {l : List AF}, ByFrom l → ∀ {i : Nat} {x : AF}, l[i]? = some x → ∀ v, (x.1.val < v ↔ i < cntLt l v) := by
  intro l
  induction l with
  | nil => intro _ i x h; simp at h
  | cons a l ih =>
    intro hb i x hx v
    obtain ⟨h1, h2⟩ := List.pairwise_cons.1 hb
    rw [cntLt_cons]
    cases i with
    | zero =>
      simp only [List.getElem?_cons_zero, Option.some.injEq] at hx
      subst hx
      by_cases h : a.1.val < v
      · simp [h]
      · have : cntLt l v = 0 := by
          unfold cntLt
          rw [List.countP_eq_zero]
          intro y hy
          have := h1 y hy
          simp
          omega
        simp [h, this]
    | succ i =>
      simp only [List.getElem?_cons_succ] at hx
      have := ih h2 hx v
      have hm := h1 x (List.mem_of_getElem? hx)
      by_cases h : a.1.val < v
      · simp only [h, if_true]; omega
      · simp only [h, if_false]; omega
theorem row_iff {l : List AF} (h : ByFrom l) {i : Nat} {x : AF} (hx : l[i]? = some x) (v : Nat) : x.1.val = v ↔ cntLt l v ≤ i ∧ i < cntLt l (v + 1) := by
  have h1 := row_lt h hx v
  have h2 := row_lt h hx (v + 1)
  omega
def webC (l : List AF) : Nat → List (Nat × Nat) := fun v => (l.filter fun x => decide (x.1.val = v)).map fun x => (x.2.1.val, x.2.2.val)
theorem webC_mem {l : List AF} {v : Nat} {s : Nat × Nat} : s ∈ webC l v ↔ ∃ x ∈ l, x.1.val = v ∧ s = (x.2.1.val, x.2.2.val) := by
  unfold webC
  simp only [List.mem_map, List.mem_filter, decide_eq_true_eq]
  constructor
  · rintro ⟨x, ⟨h1, h2⟩, h3⟩; exact ⟨x, h1, h2, h3.symm⟩
  · rintro ⟨x, h1, h2, h3⟩; exact ⟨x, ⟨h1, h2⟩, h3.symm⟩
theorem webC_at {l : List AF} (h : ByFrom l) {v : Nat} {s : Nat × Nat} : s ∈ webC l v ↔ ∃ (i : Nat) (x : AF), cntLt l v ≤ i ∧ i < cntLt l (v + 1) ∧ l[i]? = some x ∧ s = (x.2.1.val, x.2.2.val) := by
  rw [webC_mem]
  constructor
  · rintro ⟨x, h1, h2, h3⟩
    obtain ⟨i, hi⟩ := List.mem_iff_getElem?.1 h1
    obtain ⟨h4, h5⟩ := (row_iff h hi v).1 h2
    exact ⟨i, x, h4, h5, hi, h3⟩
  · rintro ⟨i, x, h4, h5, hi, h3⟩
    exact ⟨x, List.mem_of_getElem? hi, (row_iff h hi v).2 ⟨h4, h5⟩, h3⟩
def Mono (D m : Nat → Option Int) : Prop := ∀ x d y e, D x = some d → m x = none → m y = some e → d ≤ e
theorem Mono.start (u : Nat) : Mono (startD u) (pushM (fun _ => none) u 0) := by
  intro x d y e hx hm _
  unfold startD at hx
  split at hx
  · rename_i h; subst h; simp [pushM] at hm
  · cases hx
theorem Mono.pop {D m : Nat → Option Int} (h : Mono D m) {id : Nat} {k : Int} (hD : D id = some k) (hmin : ∀ d e, m d = some e → k ≤ e) : Mono D (eraseM m id) := by
  intro x d y e hx hm hy
  unfold eraseM at hm hy
  split at hy
  · cases hy
  · split at hm
    · rename_i e1
      subst e1
      rw [hD] at hx
      simp only [Option.some.injEq] at hx
      have := hmin y e hy
      omega
    · exact h x d y e hx hm hy
theorem Mono.relax {D m : Nat → Option Int} (h : Mono D m) {k : Int} (hset : ∀ x d, D x = some d → m x = none → d ≤ k) {b : Nat} {c : Nat} (hlt : k + c < farOf (D b)) : Mono (updD D b (k + c)) (pushM m b (k + c)) := by
  intro x d y e hx hm hy
  have hxb : x ≠ b := by
    rintro rfl
    unfold pushM at hm
    rw [if_pos rfl] at hm
    split at hm <;> cases hm
  unfold pushM at hm
  rw [if_neg hxb] at hm
  unfold updD at hx
  rw [if_neg hxb] at hx
  have hxk := hset x d hx hm
  unfold pushM at hy
  split at hy
  · rename_i e1
    subst e1
    cases ho : m y with
    | none => rw [ho] at hy; simp only [Option.some.injEq] at hy; omega
    | some o =>
      rw [ho] at hy
      have := h x d y o hx hm ho
      simp only [Option.some.injEq] at hy
      split at hy <;> omega
  · exact h x d y e hx hm hy
theorem Mono.set_after {D m : Nat → Option Int} {k : Int} (hset : ∀ x d, D x = some d → m x = none → d ≤ k) {b : Nat} {c : Int} : ∀ x d, updD D b (k + c) x = some d → pushM m b (k + c) x = none → d ≤ k := by
  intro x d hx hm
  have hxb : x ≠ b := by
    rintro rfl
    unfold pushM at hm
    rw [if_pos rfl] at hm
    split at hm <;> cases hm
  unfold pushM at hm
  rw [if_neg hxb] at hm
  unfold updD at hx
  rw [if_neg hxb] at hx
  exact hset x d hx hm
def Tight (D : Nat → Option Int) (a : Nat) (s : Nat × Nat) : Prop := ∃ d, D a = some d ∧ D s.1 = some (d + s.2)
theorem IsS.src {W : Nat → List (Nat × Nat)} {u : Nat} {D : Nat → Option Int} {r : Int} (h : IsS W r u D) : D u = some 0 := by
  obtain ⟨d, h1, h2⟩ := h.least u 0 .nil
  have := (h.walk u d h1).nonneg
  rw [h1]
  congr 1
  omega
theorem IsS.step {W : Nat → List (Nat × Nat)} {u : Nat} {D : Nat → Option Int} (h : IsS W (-1) u D) {a : Nat} {d : Int} (ha : D a = some d) {s : Nat × Nat} (hs : s ∈ W a) : ∃ e, D s.1 = some e ∧ e ≤ d + s.2 :=
  h.least s.1 _ ((h.walk a d ha).snoc s hs (by omega))
theorem IsS.reach {W : Nat → List (Nat × Nat)} {u : Nat} {D : Nat → Option Int} (h : IsS W (-1) u D) {P : Nat → Prop} (h0 : P u) (hs : ∀ a s, P a → s ∈ W a → Tight D a s → P s.1) : ∀ v d, D v = some d → P v := by
  have key : ∀ v d, Wk W (-1) u v d → D v = some d → P v := by
    intro v d hw
    induction hw with
    | nil => intro _; exact h0
    | snoc s hw hm hr ih =>
      rename_i a d
      intro hd
      obtain ⟨e, h1, h2⟩ := h.least a d hw
      obtain ⟨y, h3, h4⟩ := h.step h1 hm
      rw [hd] at h3
      simp only [Option.some.injEq] at h3
      have : e = d := by omega
      subst this
      exact hs a s (ih h1) hm ⟨e, h1, hd⟩
  intro v d hd
  exact key v d (h.walk v d hd) hd
structure BInv (W : Nat → List (Nat × Nat)) (u : Nat) (D : Nat → Option Int) (n : Nat) (L : List Nat) (F : Nat → Nat) (P : Nat → Nat × Nat → Prop) : Prop where
  first : L[0]? = some u
  nd : L.Nodup
  lt : ∀ x ∈ L, x < n
  pre : ∀ (k x : Nat), 0 < k → L[k]? = some x → ∃ p a s, p < k ∧ L[p]? = some a ∧ F x = a ∧ s ∈ W a ∧ s.1 = x ∧ Tight D a s
  clo : ∀ a s, a ∈ L → s ∈ W a → Tight D a s → P a s → s.1 ∈ L
theorem BInv.has {W : Nat → List (Nat × Nat)} {u : Nat} {D : Nat → Option Int} {n : Nat} {L : List Nat} {F : Nat → Nat} {P : Nat → Nat × Nat → Prop} (h : BInv W u D n L F P) (hu : D u = some 0) : ∀ x ∈ L, ∃ d, D x = some d := by
  intro x hx
  obtain ⟨k, hk⟩ := List.mem_iff_getElem?.1 hx
  by_cases h0 : k = 0
  · subst h0
    rw [h.first] at hk
    simp only [Option.some.injEq] at hk
    subst hk
    exact ⟨0, hu⟩
  · obtain ⟨p, a, s, -, -, -, -, hsx, d, -, h2⟩ := h.pre k x (by omega) hk
    subst hsx
    exact ⟨_, h2⟩
theorem BInv.start {W : Nat → List (Nat × Nat)} {u : Nat} {D : Nat → Option Int} {n : Nat} (hu : u < n) (F : Nat → Nat) : BInv W u D n [u] F (fun a _ => a ∉ [u]) := by
  refine ⟨rfl, by simp, fun x hx => ?_, fun k x h0 hk => ?_, fun a s ha hs ht hp => absurd ha hp⟩
  · simp only [List.mem_singleton] at hx; omega
  · exfalso
    have := (List.getElem?_eq_some_iff.1 hk).1
    simp at this
    omega
theorem BInv.skip {W : Nat → List (Nat × Nat)} {u : Nat} {D : Nat → Option Int} {n : Nat} {L : List Nat} {F : Nat → Nat} {P Q : Nat → Nat × Nat → Prop} (h : BInv W u D n L F P) {a : Nat} {s : Nat × Nat} (hno : s.1 ∈ L ∨ ¬ Tight D a s)
    (hQ : ∀ b t, b ∈ L → t ∈ W b → Q b t → P b t ∨ (b = a ∧ t = s)) : BInv W u D n L F Q := by
  refine ⟨h.first, h.nd, h.lt, h.pre, fun b t hb ht htt hq => ?_⟩
  rcases hQ b t hb ht hq with h1 | ⟨rfl, rfl⟩
  · exact h.clo b t hb ht htt h1
  · rcases hno with h2 | h2
    · exact h2
    · exact absurd htt h2
theorem BInv.find {W : Nat → List (Nat × Nat)} {u : Nat} {D : Nat → Option Int} {n : Nat} {L : List Nat} {F : Nat → Nat} {P Q : Nat → Nat × Nat → Prop} (h : BInv W u D n L F P) {a : Nat} {s : Nat × Nat} (ha : a ∈ L) (hs : s ∈ W a) (hn : s.1 ∉ L) (ht : Tight D a s) (hsn : s.1 < n)
    {F' : Nat → Nat} (hF : F' s.1 = a) (hFo : ∀ x, x ≠ s.1 → F' x = F x)
    (hQ : ∀ b t, b ∈ L → t ∈ W b → Q b t → P b t ∨ (b = a ∧ t = s)) (hQn : ∀ t, ¬ Q s.1 t) : BInv W u D n (L ++ [s.1]) F' Q := by
  have hL0 : 0 < L.length := (List.getElem?_eq_some_iff.1 h.first).1
  refine ⟨?_, ?_, fun x hx => ?_, fun k x h0 hk => ?_, fun b t hb htm htt hq => ?_⟩
  · rw [List.getElem?_append_left hL0]; exact h.first
  · rw [List.nodup_append]
    refine ⟨h.nd, by simp, fun x hx y hy => ?_⟩
    simp only [List.mem_singleton] at hy
    subst hy
    rintro rfl
    exact hn hx
  · rcases List.mem_append.1 hx with h1 | h1
    · exact h.lt x h1
    · simp only [List.mem_singleton] at h1; subst h1; exact hsn
  · by_cases hkl : k < L.length
    · rw [List.getElem?_append_left hkl] at hk
      obtain ⟨p, b, t, h1, h2, h3, h4, h5, h6⟩ := h.pre k x h0 hk
      refine ⟨p, b, t, h1, by rw [List.getElem?_append_left (by omega)]; exact h2, ?_, h4, h5, h6⟩
      rw [hFo x (by rintro rfl; exact hn (List.mem_of_getElem? hk))]
      exact h3
    · have hkk : k = L.length := by
        have := (List.getElem?_eq_some_iff.1 hk).1
        simp at this
        omega
      subst hkk
      rw [List.getElem?_concat_length] at hk
      simp only [Option.some.injEq] at hk
      subst hk
      obtain ⟨p, hp⟩ := List.mem_iff_getElem?.1 ha
      have hpl := (List.getElem?_eq_some_iff.1 hp).1
      exact ⟨p, a, s, hpl, by rw [List.getElem?_append_left hpl]; exact hp, hF, hs, rfl, ht⟩
  · rcases List.mem_append.1 hb with h1 | h1
    · rcases hQ b t h1 htm hq with h2 | ⟨rfl, rfl⟩
      · exact List.mem_append_left _ (h.clo b t h1 htm htt h2)
      · simp
    · simp only [List.mem_singleton] at h1
      subst h1
      exact absurd hq (hQn t)
theorem BInv.all {W : Nat → List (Nat × Nat)} {u : Nat} {D : Nat → Option Int} {n : Nat} {L : List Nat} {F : Nat → Nat} (h : BInv W u D n L F (fun _ _ => True)) (hS : IsS W (-1) u D) : ∀ v d, D v = some d → v ∈ L :=
  hS.reach (List.mem_of_getElem? h.first) fun a s ha hs ht => h.clo a s ha hs ht trivial
theorem BInv.le {W : Nat → List (Nat × Nat)} {u : Nat} {D : Nat → Option Int} {n : Nat} {L : List Nat} {F : Nat → Nat} {P : Nat → Nat × Nat → Prop} (h : BInv W u D n L F P) : L.length ≤ n := nodup_bound n L h.nd h.lt
theorem nodup_place {l : List Nat} (h : l.Nodup) {i j x : Nat} (hi : l[i]? = some x) (hj : l[j]? = some x) : i = j := by
  obtain ⟨h1, e1⟩ := List.getElem?_eq_some_iff.1 hi
  obtain ⟨h2, e2⟩ := List.getElem?_eq_some_iff.1 hj
  rw [List.nodup_iff_pairwise_ne, List.pairwise_iff_getElem] at h
  rcases Nat.lt_trichotomy i j with c | c | c
  · exact absurd (e1.trans e2.symm) (h i j h1 h2 c)
  · exact c
  · exact absurd (e2.trans e1.symm) (h j i h2 h1 c)
structure WayBack (l : List AF) (D : Nat → Option Int) (L : List Nat) (t : Nat) (q : List Nat) (k : Nat) : Prop where
  head : ∃ v r d e, q = v :: r ∧ L[k]? = some v ∧ (∀ x ∈ r, ∃ j : Nat, k < j ∧ L[j]? = some x) ∧ D v = some d ∧ D t = some e ∧
    ∃ es : List AF, (∀ x ∈ es, x ∈ l) ∧ steps q = es.map (fun x : AF => (x.1.val, x.2.1.val)) ∧ d + (((es.map fun x : AF => x.2.2.val).sum : Nat) : Int) = e
  last : q.getLast? = some t
  nd : q.Nodup
theorem WayBack.start {l : List AF} {D : Nat → Option Int} {L : List Nat} {t k : Nat} {e : Int} (hk : L[k]? = some t) (hD : D t = some e) : WayBack l D L t [t] k :=
  ⟨⟨t, [], e, e, rfl, hk, by simp, hD, hD, [], by simp, rfl, by simp⟩, rfl, by simp⟩
theorem WayBack.step {l : List AF} {D : Nat → Option Int} {n u : Nat} {L : List Nat} {F : Nat → Nat} {P : Nat → Nat × Nat → Prop} {t k : Nat} {q : List Nat} (w : WayBack l D L t q k) (h : BInv (webC l) u D n L F P) {v : Nat} (hv : L[k]? = some v) (hne : v ≠ u) :
    ∃ p, p < k ∧ L[p]? = some (F v) ∧ WayBack l D L t (F v :: q) p := by
  have hk0 : 0 < k := by
    rcases Nat.eq_zero_or_pos k with e | e
    · subst e
      rw [h.first] at hv
      simp only [Option.some.injEq] at hv
      exact absurd hv.symm hne
    · exact e
  obtain ⟨p, a, s, h1, h2, h3, h4, h5, d, h6, h7⟩ := h.pre k v hk0 hv
  obtain ⟨⟨v', r, d', e, rfl, hv', hr, hd', he, es, hes, hst, hsum⟩, hlast, hnd⟩ := w
  rw [hv] at hv'
  simp only [Option.some.injEq] at hv'
  subst hv'
  rw [h3]
  obtain ⟨x, hx, hxa, hxs⟩ := webC_mem.1 h4
  rw [h5, hd'] at h7
  simp only [Option.some.injEq] at h7
  have hs1 : s.1 = x.2.1.val := by rw [hxs]
  have hs2 : s.2 = x.2.2.val := by rw [hxs]
  have hpl := (List.getElem?_eq_some_iff.1 h2).1
  have hins : ∀ y ∈ v :: r, ∃ j : Nat, p < j ∧ L[j]? = some y := by
    intro y hy
    rcases List.mem_cons.1 hy with rfl | hy
    · exact ⟨k, h1, hv⟩
    · obtain ⟨j, hj, hj2⟩ := hr y hy
      exact ⟨j, by omega, hj2⟩
  refine ⟨p, h1, h2, ⟨⟨a, v :: r, d, e, rfl, h2, hins, h6, he, x :: es, ?_, ?_, ?_⟩, ?_, ?_⟩⟩
  · intro y hy
    rcases List.mem_cons.1 hy with rfl | hy
    · exact hx
    · exact hes y hy
  · show (a, v) :: steps (v :: r) = _
    rw [hst, List.map_cons, hxa, ← hs1, h5]
  · rw [List.map_cons, List.sum_cons, ← hs2]
    omega
  · rw [List.getLast?_cons, hlast]
    rfl
  · refine List.nodup_cons.2 ⟨fun ha => ?_, hnd⟩
    obtain ⟨j, hj, hj2⟩ := hins a ha
    have := nodup_place h.nd h2 hj2
    omega
theorem WayBack.len {l : List AF} {D : Nat → Option Int} {n u : Nat} {L : List Nat} {F : Nat → Nat} {P : Nat → Nat × Nat → Prop} {t k : Nat} {q : List Nat} (w : WayBack l D L t q k) (h : BInv (webC l) u D n L F P) : q.length ≤ n := by
  refine nodup_bound n q w.nd fun x hx => ?_
  obtain ⟨⟨v, r, d, e, rfl, hv, hr, -⟩, -, -⟩ := w
  rcases List.mem_cons.1 hx with rfl | hx
  · exact h.lt _ (List.mem_of_getElem? hv)
  · obtain ⟨j, -, hj⟩ := hr x hx
    exact h.lt _ (List.mem_of_getElem? hj)
structure ArcPath (l : List AF) (s t : Nat) (d : Int) (p : List Nat) : Prop where
  head : p.head? = some s
  last : p.getLast? = some t
  nd : p.Nodup
  arcs : ∃ es : List AF, (∀ x ∈ es, x ∈ l) ∧ steps p = es.map (fun x : AF => (x.1.val, x.2.1.val)) ∧ (((es.map fun x : AF => x.2.2.val).sum : Nat) : Int) ≤ d
theorem WayBack.done {l : List AF} {D : Nat → Option Int} {L : List Nat} {s t k : Nat} {q : List Nat} {d : Int} (w : WayBack l D L t q k) (hS : IsS (webC l) (-1) s D) (hk : L[k]? = some s) (hw : Wk (webC l) (-1) s t d) : ArcPath l s t d q := by
  obtain ⟨⟨v, r, d0, e, rfl, hv, hr, hd0, he, es, hes, hst, hsum⟩, hlast, hnd⟩ := w
  rw [hk] at hv
  simp only [Option.some.injEq] at hv
  subst hv
  rw [hS.src] at hd0
  simp only [Option.some.injEq] at hd0
  obtain ⟨y, h1, h2⟩ := hS.least t d hw
  rw [he] at h1
  simp only [Option.some.injEq] at h1
  exact ⟨rfl, hlast, hnd, es, hes, hst, by omega⟩
end Go.Proofs.YtblkkjfpggcgfaaGreatDoor
