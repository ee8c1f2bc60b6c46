/- normal.Of at a graph without loops that leads from no node twice to the same: its arcs, sorted. -/
import Derived.Test.YtchhbgckonpedaaGreatDoorG28
import Derived.Test.YtchhbgckonpedaaGreatDoorG21
import Derived.Test.YtchhbgckonpedaaGreatDoorG6
import Derived.Test.YtchhbgckonpedaaGreatDoorG16
namespace Go.Proofs.YtchhbgckonpedaaGreatDoor
open Go.ChangeShapes Go.WideShapes Go.ChangeAt Go.RowKit Go.Joins Go.Deep
structure Clean (n : Nat) (l : List AF) : Prop where
  inG : InG n l
  ne : ∀ x ∈ l, x.1.val ≠ x.2.1.val
  nd : (l.map fun x : AF => (x.1.val, x.2.1.val)).Nodup
theorem Clean.perm {n : Nat} {l m : List AF} (c : Clean n l) (p : m.Perm l) : Clean n m :=
  ⟨fun x hx => c.inG x (p.mem_iff.1 hx), fun x hx => c.ne x (p.mem_iff.1 hx), (p.map _).nodup_iff.2 c.nd⟩
theorem Clean.apart {n : Nat} {l : List AF} (c : Clean n l) : Apart l := by
  intro k x y hy hx
  obtain ⟨h1, e1⟩ := List.getElem?_eq_some_iff.1 hy
  obtain ⟨h2, e2⟩ := List.getElem?_eq_some_iff.1 hx
  cases hs : sameB x y with
  | false => rfl
  | true =>
    exfalso
    unfold sameB at hs
    simp only [Bool.and_eq_true, beq_iff_eq] at hs
    have hn := c.nd
    rw [List.nodup_iff_pairwise_ne, List.pairwise_iff_getElem] at hn
    have := hn k (k + 1) (by simpa using h1) (by simpa using h2) (by omega)
    simp only [List.getElem_map, e1, e2] at this
    exact this (by rw [hs.1, hs.2])
def NormPost (n : Nat) (l : List AF) (w : World) (e : Ending) (w' : World) : Prop :=
  ∃ ao cap l', e = .returned (.tuple #[.agg #[.int .i64 (n : Int), .slice ao l'.length cap], .nilIface]) ∧ l'.Perm l ∧ l'.Pairwise (fun x y => ltOf cmp3 y x = false) ∧ ArcsO w.heap.size w' (.slice ao l'.length cap) l' ∧ Below w.heap.size w w'
theorem nsort_any (B : Nat) (w : World) (v : Value) (l : List AF) (h : ArcsO B w v l) (hlen : l.length ≤ 4294967296) :
    Calls Tryz.prog 88 #[v, .func (.func 109) #[] #[]] w fun e w' => e = .returned (.tuple #[]) ∧ ∃ l' : List AF, l'.Perm l ∧ l'.Pairwise (fun x y => ltOf cmp3 y x = false) ∧ ArcsO B w' v l' ∧ Only v.ownBlock.toList w w' :=
  sort_any cmp3 swo3 109 (enters_of Tryz.func109 (by kernel_rfl) rfl) (fun x y W => norder_any x y W) B w v l h hlen
set_option linter.unusedSimpArgs false in
set_option maxRecDepth 100000 in
set_option maxHeartbeats 8000000 in
theorem norm_any (n : Nat) (ao : Option Addr) (cap : Nat) (l : List AF) (w : World) (see : See w ao cap arcCells 3 l) (hn : n ≤ 65536) (hl : l.length ≤ 262144) (hg : Clean n l) :
    Calls Tryz.prog 90 #[.agg #[.int .i64 (n : Int), .slice ao l.length cap]] w (NormPost n l w) := by
  obtain ⟨N, hN⟩ : ∃ N, l.length = N := ⟨_, rfl⟩
  have SEE := Lib.hid see
  have HG := Lib.hid hg
  have HL := Lib.hid hl
  rw [hN] at hl ⊢
  have HN := Lib.hid hN
  have HX0 := Lib.hid ((Cells.new w 52 [.int .i64 (n : Int), .slice ao N cap]).alloc (.cells #[.int .i64 0, .slice none 0 0] 52))
  have hr0 := Cells.new (w.alloc (.cells #[.int .i64 (n : Int), .slice ao N cap] 52)) 52 [.int .i64 0, .slice none 0 0]
  rw [show (w.alloc (.cells #[.int .i64 (n : Int), .slice ao N cap] 52)).heap.size = w.heap.size + 1 by simp] at hr0
  have HR0 := Lib.hid hr0
  have HB0 := Lib.hid (((Below.refl w.heap.size w).alloc (Nat.le_refl _) (.cells #[.int .i64 (n : Int), .slice ao N cap] 52)).alloc (by simp) (.cells #[.int .i64 0, .slice none 0 0] 52))
  clear hr0 see hg hN
  go_enter Tryz.func90, Tryz.ntmps90
  go_wp2_with fail
  have hck := gcheck_any n ao cap l _ (SEE.out.below HB0.out) hn HL.out HG.out.inG
  rw [HN.out] at hck
  refine hck.mono ?_
  rintro e w1 ⟨rfl, hb⟩
  have HR := Lib.hid (HR0.out.below hb HR0.out.lt)
  have HX := Lib.hid (HX0.out.below hb (by simp; omega))
  have HB := Lib.hid (HB0.out.trans (hb.mono HB0.out.size))
  have lr := HR.out.lt
  have lx := HX.out.lt
  have x0 : w1.cell? ⟨w.heap.size, 0, none⟩ = some (.int .i64 (n : Int)) := HX.out.cell rfl
  have x1 : w1.cell? ⟨w.heap.size, 1, none⟩ = some (.slice ao N cap) := HX.out.cell rfl
  clear hb hck
  go_wp2_with fail
  obtain ⟨G, hG⟩ : ∃ G, w1.heap.size = G := ⟨_, rfl⟩
  have HGG := Lib.hid hG
  have c0 := Cells.new w1 52 [.int .i64 (n : Int), .slice none 0 0]
  rw [hG] at c0
  have C0 := Lib.hid c0
  have hsz1 := HB.out.size
  clear c0
  rw [hG]
  clear hG
  go_loopg [20] N (fun g vi wr => ∃ (k : Nat) (ao2 : Option Addr) (cap2 : Nat), vi = .int .i64 k ∧ k ≤ N ∧ g = N - k ∧ Cells wr G 52 [.int .i64 (n : Int), .slice ao2 k cap2] ∧ ArcsO (G + 1) wr (.slice ao2 k cap2) (l.take k) ∧ Below w1.heap.size w1 wr)
  case atStart => exact ⟨0, none, 0, rfl, Nat.zero_le _, rfl, C0.out, ArcsO.nil _ _, (Below.refl _ _).alloc (Nat.le_refl _) _⟩
  case round =>
    obtain ⟨k, ao2, cap2, rfl, hk, hg, hc, ha, hbl⟩ := hrel
    have HGM := Lib.hid hg
    have HCE := Lib.hid hc
    have HA := Lib.hid ha
    have HBL := Lib.hid hbl
    have hgs := hc.lt
    have g0 : wr.cell? ⟨G, 0, none⟩ = some (.int .i64 (n : Int)) := hc.cell rfl
    have g1 : wr.cell? ⟨G, 1, none⟩ = some (.slice ao2 k cap2) := hc.cell rfl
    have f1 := hc.frozen 1
    have hbs := hbl.size
    clear hg hc ha hbl
    by_cases hkl : k < N
    · obtain ⟨x, hx⟩ : ∃ x, l[k]? = some x := ⟨_, List.getElem?_eq_getElem (by rw [HN.out]; exact hkl)⟩
      obtain ⟨b, o, ea, cc⟩ := SEE.out.cell k x hx
      have e0 := ck HBL.out (ck HB.out (cc 0 _ rfl))
      have e1 := ck HBL.out (ck HB.out (cc 1 _ rfl))
      have e2 := ck HBL.out (ck HB.out (cc 2 _ rfl))
      rw [Nat.add_zero] at e0
      have lb := block_lt e0
      have hne := HG.out.ne x (List.mem_of_getElem? hx)
      have q1 : (((x.1.val : Nat) : Int) != ((x.2.1.val : Nat) : Int)) = true := by simp; omega
      have q2 : (x.1.val != x.2.1.val) = true := by simpa using hne
      have EA := Lib.hid ea
      have HXX := Lib.hid hx
      have htk : (l.take k).length = k := by rw [List.length_take, HN.out]; omega
      have HTK := Lib.hid htk
      have how : wr.ownsRow 0 100 3 (.slice ao2 k cap2) k ((l.take k).flatMap arcCells) := by
        have := HA.out.own
        rwa [htk] at this
      have HOW := Lib.hid how
      have hng : ∀ b, b ≤ G → b ∉ (Value.slice ao2 k cap2).ownBlock.toList := by
        intro b hb hm
        have h1 := HA.out.new b (own_mem hm)
        omega
      have HNG := Lib.hid hng
      clear hx cc ea hne htk how hng
      rw [EA.out]
      go_wp2_with (at_builtin; refine wpList_app _ rfl _ _ 50 rfl 100 (.agg #[.int .i64 0, .int .i64 0, .int .i64 0]) 3 24 Tryz.underlying50 Tryz.infoArc rfl (by decide) (.slice ao2 k cap2) k ((l.take k).flatMap arcCells) rfl ?own ⟨wr.heap.size + 1, 0, none⟩ 1 1 (arcCells x) rfl rfl ?c1 ?c2 ?c3 ?c4 ?_)
      case own => exact own_kept (bs := []) HOW.out (((Only.refl _ wr).alloc _).alloc _) (fun q _ => by simp)
      case c1 =>
        have := cells_new (wr.alloc (.cells (arcCells x).toArray 100)) 100 (arcCells x)
        rw [show (wr.alloc (.cells (arcCells x).toArray 100)).heap.size = wr.heap.size + 1 by simp] at this
        exact this
      case c2 => intro u hu; simp [arcCells] at hu; rcases hu with rfl | rfl | rfl <;> rfl
      case c3 => unfold maxLen; omega
      case c4 => omega
      intro ao5 cap5 w5 hown5 ho5 hk5
      have hba : Below wr.heap.size wr ((wr.alloc (.cells (arcCells x).toArray 100)).alloc (.cells (arcCells x).toArray 100)) := ((Below.refl _ _).alloc (Nat.le_refl _) _).alloc (by simp) _
      have hbw := HBL.out.trans (hba.mono HBL.out.size)
      have hc5 := (HCE.out.below hba HCE.out.lt).kept ho5 (HNG.out _ (Nat.le_refl _))
      have hbl5 : Below w1.heap.size w1 w5 := hbw.trans (ho5.below hbw.size (fun q hq => by
        have h1 := HA.out.new q (own_mem hq)
        have h2 := HGG.out
        omega))
      have hs : l.take (k + 1) = l.take k ++ [x] := by rw [List.take_add_one, HXX.out]; rfl
      have hn5 : ArcsO (G + 1) w5 (.slice ao5 (k + 1) cap5) (l.take (k + 1)) := by
        rw [hs]
        have := (HA.out.below hba).app [x] (m := 1) rfl (ao := ao5) (cap := cap5) (w5 := w5) (by rw [HTK.out, List.flatMap_singleton]; exact hown5) (by rw [HTK.out]; simpa using hk5) (by simp; omega)
        rwa [HTK.out] at this
      have p0 : w5.cell? ⟨G, 0, none⟩ = some (.int .i64 (n : Int)) := hc5.cell rfl
      have p1 : w5.cell? ⟨G, 1, none⟩ = some (.slice ao2 k cap2) := hc5.cell rfl
      have f5 := hc5.frozen 1
      have l5 := hc5.lt
      have N5 := Lib.hid hn5
      have B5 := Lib.hid hbl5
      have C5 := Lib.hid hc5
      clear hown5 ho5 hk5 hba hbw hbl5 hs hn5 hc5
      go_wp2_with fail
      rw [← EA.out]
      go_roundg (N - (k + 1))
      case measure => rw [HGM.out]; omega
      case rel =>
        refine ⟨k + 1, ao5, cap5, by go_num, by omega, rfl, C5.out.set 1 (.slice ao5 (k + 1) cap5), ?_, B5.out.setCell (p := ⟨G, 1, none⟩) (by have := HGG.out; show w1.heap.size ≤ G; omega) _⟩
        exact N5.out.kept (bs := [G]) ((Only.refl _ w5).setCell (p := ⟨G, 1, none⟩) (by simp) _) (fun q hq hm => by
          have h1 := N5.out.new q hq
          simp at hm
          omega)
    · obtain rfl : k = N := by omega
      have hall : l.take k = l := by rw [← HN.out, List.take_length]
      rw [hall] at HA
      clear hall
      go_wp2_with fail
      refine (nsort_any (G + 1) wr (.slice ao2 k cap2) l HA.out (by rw [HN.out]; omega)).mono ?_
      rintro e w2 ⟨rfl, l', hperm, hsort, hown, honly⟩
      have hng : ∀ b : Nat, b ≤ G → b ∉ (Value.slice ao2 k cap2).ownBlock.toList := by
        intro b hb hm
        have h1 := HA.out.new b (own_mem hm)
        omega
      have hGG := HGG.out
      have hc2 := HCE.out.kept honly (hng _ (Nat.le_refl _))
      have hr2 := (HR.out.below HBL.out HR.out.lt).kept honly (hng _ (by omega))
      have hbl2 : Below w1.heap.size w1 w2 := HBL.out.trans (honly.below HBL.out.size (fun q hq => by
        have h1 := HA.out.new q (own_mem hq)
        omega))
      have g1 : w2.cell? ⟨G, 1, none⟩ = some (.slice ao2 k cap2) := hc2.cell rfl
      have lc2 := hc2.lt
      have hlen := hperm.length_eq
      rw [HN.out] at hlen
      have hcl := HG.out.perm hperm
      have hcp := compactF_any ao2 cap2 l' w2 hown.see.1 (by omega) hcl.apart
      rw [hlen] at hcp
      have HR2 := Lib.hid hr2
      have HC2 := Lib.hid hc2
      have HBL3 := Lib.hid hbl2
      have HO2 := Lib.hid hown
      have HP2 := Lib.hid hperm
      have HS2 := Lib.hid hsort
      have HLN := Lib.hid hlen
      have HCP := Lib.hid hcp
      clear hperm hsort hown honly hng hc2 hr2 hbl2 hGG hlen hcl hcp
      go_wp2_with fail
      refine HCP.out.mono ?_
      rintro e w3 ⟨rfl, hb⟩
      have hr3 := HR2.out.below hb HR2.out.lt
      have hc3 := HC2.out.below hb HC2.out.lt
      have g0 : w3.cell? ⟨G, 0, none⟩ = some (.int .i64 (n : Int)) := hc3.cell rfl
      have g1 : w3.cell? ⟨G, 1, none⟩ = some (.slice ao2 k cap2) := hc3.cell rfl
      have fg := hc3.frozen 1
      have r0 : w3.cell? ⟨w.heap.size + 1, 0, none⟩ = some (.int .i64 0) := hr3.cell rfl
      have r1 : w3.cell? ⟨w.heap.size + 1, 1, none⟩ = some (.slice none 0 0) := hr3.cell rfl
      have f0 := hr3.frozen 0
      have f1 := hr3.frozen 1
      have lr3 := hr3.lt
      have lc3 := hc3.lt
      have HR3 := Lib.hid hr3
      have HO3 := Lib.hid (HO2.out.below hb)
      have HBL4 := Lib.hid (HBL3.out.trans (hb.mono HBL3.out.size))
      have hGG := HGG.out
      have hne : G ≠ w.heap.size + 1 := by omega
      have hne2 : w.heap.size + 1 ≠ G := by omega
      clear hb hr3 hc3 hGG
      go_wp2_with fail
      refine bodyPost_ret (results_ct rfl _ _ (w.heap.size + 1) 52 [.int .i64 (n : Int), .slice ao2 k cap2] _ rfl (((HR3.out.other (a := ⟨G, 1, none⟩) hne2 _).set 0 _).set 1 _) Tryz.underlying52 rfl (by rw [Tryz.sizeGraph]; rfl)) rfl ?_
      have hGG := HGG.out
      refine ⟨ao2, cap2, l', by rw [HLN.out]; rfl, HP2.out, HS2.out, ?_, (((HB.out.trans (HBL4.out.mono hsz1)).setCell (p := ⟨G, 1, none⟩) (by show w.heap.size ≤ G; omega) _).setCell (p := ⟨w.heap.size + 1, 0, none⟩) (by simp) _).setCell (p := ⟨w.heap.size + 1, 1, none⟩) (by simp) _⟩
      rw [HLN.out]
      exact (HO3.out.kept (bs := [G, w.heap.size + 1]) ((((Only.refl _ w3).setCell (p := ⟨G, 1, none⟩) (by simp) _).setCell (p := ⟨w.heap.size + 1, 0, none⟩) (by simp) _).setCell (p := ⟨w.heap.size + 1, 1, none⟩) (by simp) _) (fun q hq hm => by
        have h1 := HO3.out.new q hq
        simp at hm
        omega)).mono (by omega)
def cntLt (l : List AF) (v : Nat) : Nat := l.countP fun x => decide (x.1.val < v)
def cntEq (l : List AF) (v : Nat) : Nat := l.countP fun x => decide (x.1.val + 1 = v)
theorem cntLt_zero (l : List AF) : cntLt l 0 = 0 := by
  unfold cntLt
  rw [List.countP_eq_zero]
  simp
theorem cntLt_succ (l : List AF) (v : Nat) : cntLt l (v + 1) = cntLt l v + cntEq l (v + 1) := by
  unfold cntLt cntEq
  induction l with
  | nil => rfl
  | cons x l ih =>
    simp only [List.countP_cons, decide_eq_true_eq]
    rw [ih]
    by_cases h1 : x.1.val < v
    · rw [if_pos (by omega), if_pos h1, if_neg (by omega)]; omega
    · by_cases h2 : x.1.val = v
      · rw [if_pos (by omega), if_neg h1, if_pos (by omega)]; omega
      · rw [if_neg (by omega), if_neg h1, if_neg (by omega)]; omega
theorem cntLt_all {n : Nat} {l : List AF} (h : InG n l) : cntLt l n = l.length := by
  unfold cntLt
  rw [List.countP_eq_length]
  intro x hx
  simpa using (h x hx).1
theorem cntLt_le (l : List AF) (v : Nat) : cntLt l v ≤ l.length := List.countP_le_length
theorem cntEq_le (l : List AF) (v : Nat) : cntEq l v ≤ l.length := List.countP_le_length
theorem cntLt_mono (l : List AF) {u v : Nat} (h : u ≤ v) : cntLt l u ≤ cntLt l v := by
  unfold cntLt
  refine List.countP_mono_left (fun x _ hx => ?_)
  simp only [decide_eq_true_eq] at hx ⊢
  omega
theorem cntEq_snoc (l : List AF) (x : AF) (v : Nat) : cntEq (l ++ [x]) v = cntEq l v + (if v = x.1.val + 1 then 1 else 0) := by
  unfold cntEq
  rw [List.countP_append, List.countP_singleton]
  congr 1
  by_cases h : v = x.1.val + 1
  · rw [if_pos h, if_pos (by simp [h])]
  · rw [if_neg h, if_neg (by simp; omega)]
def cntRow (l : List AF) (n : Nat) : List Nat := (List.range (n + 1)).map (cntEq l)
def sumRow (l : List AF) (n m : Nat) : List Nat := (List.range (n + 1)).map fun v => if v ≤ m then cntLt l v else cntEq l v
def firstL (l : List AF) (n : Nat) : List Nat := (List.range (n + 1)).map (cntLt l)
theorem cntRow_len (l : List AF) (n : Nat) : (cntRow l n).length = n + 1 := by simp [cntRow]
theorem sumRow_len (l : List AF) (n m : Nat) : (sumRow l n m).length = n + 1 := by simp [sumRow]
theorem firstL_len (l : List AF) (n : Nat) : (firstL l n).length = n + 1 := by simp [firstL]
theorem cntRow_get (l : List AF) (n v : Nat) (hv : v ≤ n) : (cntRow l n)[v]? = some (cntEq l v) := by
  unfold cntRow
  rw [List.getElem?_map, List.getElem?_range (by omega)]
  rfl
theorem sumRow_get (l : List AF) (n m v : Nat) (hv : v ≤ n) : (sumRow l n m)[v]? = some (if v ≤ m then cntLt l v else cntEq l v) := by
  unfold sumRow
  rw [List.getElem?_map, List.getElem?_range (by omega)]
  rfl
theorem firstL_get (l : List AF) (n v : Nat) (hv : v ≤ n) : (firstL l n)[v]? = some (cntLt l v) := by
  unfold firstL
  rw [List.getElem?_map, List.getElem?_range (by omega)]
  rfl
theorem cntRow_nil (n : Nat) : cntRow [] n = List.replicate (n + 1) 0 := by
  unfold cntRow
  apply List.ext_getElem?
  intro i
  rw [List.getElem?_map, List.getElem?_replicate]
  by_cases h : i < n + 1
  · rw [List.getElem?_range h, if_pos h]; rfl
  · rw [List.getElem?_eq_none (by simpa using h), if_neg h]; rfl
theorem cntRow_snoc (l : List AF) (x : AF) (n : Nat) (hx : x.1.val < n) : cntRow (l ++ [x]) n = (cntRow l n).set (x.1.val + 1) (cntEq l (x.1.val + 1) + 1) := by
  apply List.ext_getElem?
  intro i
  rw [List.getElem?_set, cntRow_len]
  by_cases h : i ≤ n
  · rw [cntRow_get _ _ _ h, cntEq_snoc, cntRow_get _ _ _ h]
    by_cases e : x.1.val + 1 = i
    · subst e
      rw [if_pos rfl, if_pos rfl, if_pos (by omega)]
    · rw [if_neg e, if_neg (by omega)]; rfl
  · rw [List.getElem?_eq_none (by rw [cntRow_len]; omega), List.getElem?_eq_none (l := cntRow l n) (by rw [cntRow_len]; omega), if_neg (by omega)]
theorem sumRow_zero (l : List AF) (n : Nat) : sumRow l n 0 = cntRow l n := by
  apply List.ext_getElem?
  intro i
  by_cases h : i ≤ n
  · rw [sumRow_get _ _ _ _ h, cntRow_get _ _ _ h]
    by_cases e : i = 0
    · subst e
      rw [if_pos (Nat.le_refl _), cntLt_zero]
      have : cntEq l 0 = 0 := by unfold cntEq; rw [List.countP_eq_zero]; simp
      rw [this]
    · rw [if_neg (by omega)]
  · rw [List.getElem?_eq_none (by rw [sumRow_len]; omega), List.getElem?_eq_none (by rw [cntRow_len]; omega)]
theorem sumRow_succ (l : List AF) (n m : Nat) (hm : m < n) : sumRow l n (m + 1) = (sumRow l n m).set (m + 1) (cntEq l (m + 1) + cntLt l m) := by
  apply List.ext_getElem?
  intro i
  rw [List.getElem?_set, sumRow_len]
  by_cases h : i ≤ n
  · rw [sumRow_get _ _ _ _ h, sumRow_get _ _ _ _ h]
    by_cases e : m + 1 = i
    · subst e
      rw [if_pos rfl, if_pos (by omega), if_pos (by omega), cntLt_succ, Nat.add_comm]
    · rw [if_neg e]
      by_cases h2 : i ≤ m
      · rw [if_pos (by omega), if_pos h2]
      · rw [if_neg (by omega), if_neg h2]
  · rw [List.getElem?_eq_none (by rw [sumRow_len]; omega), List.getElem?_eq_none (l := sumRow l n m) (by rw [sumRow_len]; omega), if_neg (by omega)]
theorem sumRow_all (l : List AF) (n : Nat) : sumRow l n n = firstL l n := by
  apply List.ext_getElem?
  intro i
  by_cases h : i ≤ n
  · rw [sumRow_get _ _ _ _ h, firstL_get _ _ _ h, if_pos h]
  · rw [List.getElem?_eq_none (by rw [sumRow_len]; omega), List.getElem?_eq_none (by rw [firstL_len]; omega)]
def toL (l : List AF) : List Nat := l.map fun x => x.2.1.val
def wtL (l : List AF) : List Nat := l.map fun x => x.2.2.val
inductive Wk (W : Nat → List (Nat × Nat)) (r : Int) (u : Nat) : Nat → Int → Prop
  | nil : Wk W r u u 0
  | snoc {a : Nat} {d : Int} (s : Nat × Nat) : Wk W r u a d → s ∈ W a → r < s.1 → Wk W r u s.1 (d + s.2)
theorem Wk.nonneg {W : Nat → List (Nat × Nat)} {r : Int} {u v : Nat} {d : Int} (h : Wk W r u v d) : 0 ≤ d := by
  induction h with
  | nil => omega
  | snoc s h hs hr ih => omega
structure IsS (W : Nat → List (Nat × Nat)) (r : Int) (u : Nat) (D : Nat → Option Int) : Prop where
  walk : ∀ v d, D v = some d → Wk W r u v d
  least : ∀ v d', Wk W r u v d' → ∃ d, D v = some d ∧ d ≤ d'
theorem IsS.unique {W : Nat → List (Nat × Nat)} {r : Int} {u : Nat} {D E : Nat → Option Int} (h : IsS W r u D) (k : IsS W r u E) : ∀ v, D v = E v := by
  intro v
  cases hD : D v with
  | none =>
    cases hE : E v with
    | none => rfl
    | some e =>
      obtain ⟨d, h1, -⟩ := h.least v e (k.walk v e hE)
      rw [hD] at h1; cases h1
  | some d =>
    obtain ⟨e, h1, h2⟩ := k.least v d (h.walk v d hD)
    obtain ⟨d', h3, h4⟩ := h.least v e (k.walk v e h1)
    rw [hD] at h3
    simp only [Option.some.injEq] at h3
    rw [h1]
    congr 1
    omega
def sumTo (f : Nat → Nat) : Nat → Nat
  | 0 => 0
  | n + 1 => sumTo f n + f n
theorem sumTo_congr {f g : Nat → Nat} : ∀ n, (∀ v, v < n → f v = g v) → sumTo f n = sumTo g n := by
  intro n
  induction n with
  | zero => intro _; rfl
  | succ n ih => intro h; simp only [sumTo]; rw [ih (fun v hv => h v (by omega)), h n (by omega)]
theorem sumTo_upd {f g : Nat → Nat} {b : Nat} : ∀ n, b < n → (∀ v, v ≠ b → f v = g v) → sumTo f n + g b = sumTo g n + f b := by
  intro n
  induction n with
  | zero => intro h; omega
  | succ n ih =>
    intro hb h
    simp only [sumTo]
    by_cases e : b = n
    · subst e
      rw [sumTo_congr b (fun v hv => h v (by omega))]
      omega
    · have := ih (by omega) h
      rw [h n (fun x => e x.symm)]
      omega
def one (x : Option Int) : Nat := if x.isSome then 1 else 0
def cntS (D : Nat → Option Int) (n : Nat) : Nat := sumTo (fun v => one (D v)) n
def mu (n : Nat) (D m : Nat → Option Int) : Nat := 2 * sumTo (fun v => (farOf (D v)).toNat) n + cntS m n
def updD (D : Nat → Option Int) (b : Nat) (d : Int) : Nat → Option Int := fun v => if v = b then some d else D v
theorem cntS_le (D : Nat → Option Int) : ∀ n, cntS D n ≤ n := by
  intro n
  induction n with
  | zero => simp [cntS, sumTo]
  | succ n ih =>
    have h : one (D n) ≤ 1 := by unfold one; split <;> omega
    simp only [cntS, sumTo] at ih ⊢
    omega
theorem cntS_pos {D : Nat → Option Int} {v : Nat} {d : Int} (h : D v = some d) : ∀ n, v < n → 1 ≤ cntS D n := by
  intro n
  induction n with
  | zero => intro h; omega
  | succ n ih =>
    intro hv
    simp only [cntS, sumTo] at ih ⊢
    by_cases e : v = n
    · subst e
      rw [h]
      simp [one]
    · have := ih (by omega)
      omega
structure DInv (n : Nat) (W : Nat → List (Nat × Nat)) (r : Int) (u : Nat) (D m : Nat → Option Int) (P : Nat → Nat × Nat → Prop) : Prop where
  src : D u = some 0
  walk : ∀ v d, D v = some d → Wk W r u v d
  q : ∀ v k, m v = some k → D v = some k
  fwd : ∀ a x s, D a = some x → s ∈ W a → r < s.1 → m a = none → P a s → ∃ y, D s.1 = some y ∧ y ≤ x + s.2
  bnd : ∀ v d, D v = some d → v < n ∧ d ≤ ((cntS D n : Nat) - 1 : Int) * 140737488355328
theorem DInv.start {n : Nat} {W : Nat → List (Nat × Nat)} {r : Int} {u : Nat} (hu : u < n) : DInv n W r u (startD u) (pushM (fun _ => none) u 0) (fun _ _ => True) := by
  refine ⟨by simp [startD], fun v d h => ?_, fun v k h => ?_, fun a x s h hs hr hm _ => ?_, fun v d h => ?_⟩
  · unfold startD at h
    split at h
    · rename_i e; subst e; simp only [Option.some.injEq] at h; subst h; exact .nil
    · cases h
  · unfold pushM at h
    split at h
    · rename_i e; subst e; simpa [startD] using h
    · cases h
  · unfold startD at h
    split at h
    · rename_i e; subst e; simp [pushM] at hm
    · cases h
  · unfold startD at h
    split at h
    · rename_i e
      subst e
      simp only [Option.some.injEq] at h
      subst h
      have := cntS_pos (D := startD v) (v := v) (d := 0) (by simp [startD]) n hu
      exact ⟨hu, by omega⟩
    · cases h
theorem DInv.big {n : Nat} {W : Nat → List (Nat × Nat)} {r : Int} {u : Nat} {D m : Nat → Option Int} {P : Nat → Nat × Nat → Prop} (h : DInv n W r u D m P) (hn : n ≤ 65536) {v : Nat} {d : Int} (hd : D v = some d) : 0 ≤ d ∧ d ≤ 65535 * 140737488355328 := by
  have h1 := (h.bnd v d hd).2
  have h2 := cntS_le D n
  exact ⟨(h.walk v d hd).nonneg, by omega⟩
theorem DInv.pop {n : Nat} {W : Nat → List (Nat × Nat)} {r : Int} {u : Nat} {D m : Nat → Option Int} (h : DInv n W r u D m (fun _ _ => True)) (id : Nat) : DInv n W r u D (eraseM m id) (fun a _ => a ≠ id) := by
  refine ⟨h.src, h.walk, fun v k hk => ?_, fun a x s ha hs hr hm hP => ?_, h.bnd⟩
  · unfold eraseM at hk
    split at hk
    · cases hk
    · exact h.q v k hk
  · unfold eraseM at hm
    rw [if_neg hP] at hm
    exact h.fwd a x s ha hs hr hm trivial
theorem DInv.relax {n : Nat} {W : Nat → List (Nat × Nat)} {r : Int} {u : Nat} {D m : Nat → Option Int} {id : Nat} {k : Int} {s : Nat × Nat} {Q : Nat × Nat → Prop} (h : DInv n W r u D m (fun a t => a = id → Q t)) (hn : n ≤ 65536) (hid : D id = some k) (hmid : m id = none)
    (hs : s ∈ W id) (hr : r < s.1) (hsn : s.1 < n) (hw : s.2 ≤ 140737488355328) (hlt : k + s.2 < farOf (D s.1)) :
    DInv n W r u (updD D s.1 (k + s.2)) (pushM m s.1 (k + s.2)) (fun a t => a = id → Q t ∨ t = s) ∧ pushM m s.1 (k + s.2) id = none ∧ updD D s.1 (k + s.2) id = some k ∧
    mu n (updD D s.1 (k + s.2)) (pushM m s.1 (k + s.2)) + 1 ≤ mu n D m := by
  have hk := h.big hn hid
  have hne : s.1 ≠ id := by
    intro e
    rw [e, hid] at hlt
    simp only [farOf] at hlt
    omega
  have hpm : pushM m s.1 (k + s.2) s.1 = some (k + s.2) := by
    unfold pushM
    rw [if_pos rfl]
    cases hm : m s.1 with
    | none => rfl
    | some o =>
      have := h.q _ _ hm
      rw [this] at hlt
      simp only [farOf] at hlt
      simp only
      rw [if_neg (by omega)]
  have hpo : ∀ v, v ≠ s.1 → pushM m s.1 (k + s.2) v = m v := fun v hv => by unfold pushM; rw [if_neg hv]
  have hD : updD D s.1 (k + s.2) s.1 = some (k + s.2) := if_pos rfl
  have hDo : ∀ v, v ≠ s.1 → updD D s.1 (k + s.2) v = D v := fun v hv => if_neg hv
  have hcnt := sumTo_upd (f := fun v => one (updD D s.1 (k + s.2) v)) (g := fun v => one (D v)) (b := s.1) n hsn (fun v hv => by simp [hDo v hv])
  have hcm := sumTo_upd (f := fun v => one (pushM m s.1 (k + s.2) v)) (g := fun v => one (m v)) (b := s.1) n hsn (fun v hv => by simp [hpo v hv])
  have hsum := sumTo_upd (f := fun v => (farOf (updD D s.1 (k + s.2) v)).toNat) (g := fun v => (farOf (D v)).toNat) (b := s.1) n hsn (fun v hv => by simp [hDo v hv])
  have one1 : one (some (k + (s.2 : Int))) = 1 := rfl
  have oneL : ∀ x, one x ≤ 1 := fun x => by unfold one; split <;> omega
  simp only [hD, hpm, one1] at hcnt hcm hsum
  have ff : farOf (some (k + (s.2 : Int))) = k + s.2 := rfl
  rw [ff] at hsum
  have cle : cntS D n ≤ cntS (updD D s.1 (k + s.2)) n := by have := oneL (D s.1); unfold cntS; omega
  refine ⟨⟨?_, fun v d hv => ?_, fun v o hv => ?_, fun a x t ha ht htr hm hP => ?_, fun v d hv => ?_⟩, by rw [hpo id hne.symm]; exact hmid, by rw [hDo id hne.symm]; exact hid, ?_⟩
  · by_cases e : u = s.1
    · rw [← e, h.src] at hlt
      simp only [farOf] at hlt
      omega
    · rw [hDo u e]
      exact h.src
  · by_cases e : v = s.1
    · subst e
      rw [hD] at hv
      simp only [Option.some.injEq] at hv
      subst hv
      exact (h.walk id k hid).snoc s hs hr
    · rw [hDo v e] at hv
      exact h.walk v d hv
  · by_cases e : v = s.1
    · subst e
      rw [hpm] at hv
      rw [hD]
      exact hv
    · rw [hpo v e] at hv
      rw [hDo v e]
      exact h.q v o hv
  · by_cases ea : a = s.1
    · subst ea
      rw [hpm] at hm
      cases hm
    · rw [hDo a ea] at ha
      rw [hpo a ea] at hm
      have old : (∃ y, D t.1 = some y ∧ y ≤ x + t.2) → ∃ y, updD D s.1 (k + s.2) t.1 = some y ∧ y ≤ x + t.2 := by
        rintro ⟨y, h1, h2⟩
        by_cases e : t.1 = s.1
        · rw [e] at h1 ⊢
          rw [h1] at hlt
          simp only [farOf] at hlt
          exact ⟨_, hD, by omega⟩
        · exact ⟨y, by rw [hDo _ e]; exact h1, h2⟩
      by_cases e : a = id
      · rcases hP e with h1 | h1
        · exact old (h.fwd a x t ha ht htr hm (fun _ => h1))
        · subst h1
          rw [e, hid] at ha
          simp only [Option.some.injEq] at ha
          exact ⟨_, hD, by omega⟩
      · exact old (h.fwd a x t ha ht htr hm (fun e' => absurd e' e))
  · by_cases e : v = s.1
    · subst e
      rw [hD] at hv
      simp only [Option.some.injEq] at hv
      subst hv
      refine ⟨hsn, ?_⟩
      cases hDs : D s.1 with
      | none =>
        rw [hDs] at hcnt
        have h1 := (h.bnd id k hid).2
        have h0 : one (none : Option Int) = 0 := rfl
        rw [h0] at hcnt
        have h2 : cntS (updD D s.1 (k + s.2)) n = cntS D n + 1 := by unfold cntS; omega
        rw [h2]
        omega
      | some o =>
        have h1 := (h.bnd s.1 o hDs).2
        rw [hDs] at hlt
        simp only [farOf] at hlt
        omega
    · rw [hDo v e] at hv
      have h1 := h.bnd v d hv
      exact ⟨h1.1, by omega⟩
  · have hc := oneL (m s.1)
    unfold mu cntS
    omega
theorem DInv.skip {n : Nat} {W : Nat → List (Nat × Nat)} {r : Int} {u : Nat} {D m : Nat → Option Int} {id : Nat} {k : Int} {s : Nat × Nat} {Q : Nat × Nat → Prop} (h : DInv n W r u D m (fun a t => a = id → Q t)) (hn : n ≤ 65536) (hid : D id = some k)
    (hw : s.2 ≤ 140737488355328) (hno : r < s.1 → ¬ k + s.2 < farOf (D s.1)) : DInv n W r u D m (fun a t => a = id → Q t ∨ t = s) := by
  have hk := h.big hn hid
  refine ⟨h.src, h.walk, h.q, fun a x t ha ht htr hm hP => ?_, h.bnd⟩
  by_cases e : a = id
  · rcases hP e with h1 | h1
    · exact h.fwd a x t ha ht htr hm (fun _ => h1)
    · subst h1
      rw [e, hid] at ha
      simp only [Option.some.injEq] at ha
      have h2 := hno htr
      cases hD : D t.1 with
      | none => rw [hD] at h2; simp only [farOf] at h2; omega
      | some y => rw [hD] at h2; simp only [farOf] at h2; exact ⟨y, rfl, by omega⟩
  · exact h.fwd a x t ha ht htr hm (fun e' => absurd e' e)
theorem DInv.all {n : Nat} {W : Nat → List (Nat × Nat)} {r : Int} {u : Nat} {D m : Nat → Option Int} {id : Nat} {Q : Nat × Nat → Prop} (h : DInv n W r u D m (fun a t => a = id → Q t)) (hq : ∀ t ∈ W id, Q t) : DInv n W r u D m (fun _ _ => True) :=
  ⟨h.src, h.walk, h.q, fun a x t ha ht htr hm _ => h.fwd a x t ha ht htr hm (fun e => by subst e; exact hq t ht), h.bnd⟩
theorem DInv.done {n : Nat} {W : Nat → List (Nat × Nat)} {r : Int} {u : Nat} {D m : Nat → Option Int} (h : DInv n W r u D m (fun _ _ => True)) (hm : ∀ v, m v = none) : IsS W r u D := by
  refine ⟨h.walk, fun v d' hw => ?_⟩
  induction hw with
  | nil => exact ⟨0, h.src, by omega⟩
  | snoc s hw hs hr ih =>
    obtain ⟨d, h1, h2⟩ := ih
    obtain ⟨y, h3, h4⟩ := h.fwd _ d s h1 hs hr (hm _) trivial
    exact ⟨y, h3, by omega⟩
end Go.Proofs.YtchhbgckonpedaaGreatDoor
