/- Arcs as data; a row of arcs in memory of the call's own; sorted in place. -/
import Derived.Test.YtblkkjfpggcgfaaGreatDoorH23
import Derived.StillTailTactics
import Derived.Test.YtblkkjfpggcgfaaGreatDoorH1
import Derived.Maps.OwnOps
namespace Go.Proofs.YtblkkjfpggcgfaaGreatDoor
open Go.ChangeShapes Go.WideShapes Go.ChangeAt Go.RowKit Go.Joins Go.Deep
abbrev AF := Fin 65536 × Fin 65536 × Fin 2147483648
def arcCells (x : AF) : List Value := [.int .i64 (x.1.val : Int), .int .i64 (x.2.1.val : Int), .int .i64 (x.2.2.val : Int)]
theorem arcCells_len (x : AF) : (arcCells x).length = 3 := rfl
structure ArcsO (B : Nat) (w' : World) (v : Value) (l : List AF) : Prop where
  own : w'.ownsRow 0 68 3 v l.length (l.flatMap arcCells)
  new : ∀ k, v.ownBlock = some k → B ≤ k
theorem ArcsO.nil (B : Nat) (w : World) : ArcsO B w (.slice none 0 0) [] := ⟨World.ownsRow_nil _ _ _ _, by simp [Value.ownBlock]⟩
theorem ArcsO.kept {B : Nat} {w w' : World} {v : Value} {l : List AF} {bs : List Nat} (n : ArcsO B w v l) (o : Only bs w w') (hn : ∀ k, v.ownBlock = some k → k ∉ bs) : ArcsO B w' v l := ⟨own_kept n.own o hn, n.new⟩
theorem ArcsO.below {B : Nat} {w w' : World} {v : Value} {l : List AF} (n : ArcsO B w v l) (o : Below w.heap.size w w') : ArcsO B w' v l := n.kept (bs := []) (Only.of_below o) (fun _ _ => by simp)
theorem ArcsO.form {B : Nat} {w : World} {v : Value} {l : List AF} (n : ArcsO B w v l) : ∃ ao cap, v = .slice ao l.length cap := own_form' n.own
theorem ArcsO.mono {B C : Nat} {w : World} {v : Value} {l : List AF} (n : ArcsO B w v l) (h : C ≤ B) : ArcsO C w v l := ⟨n.own, fun k hk => Nat.le_trans h (n.new k hk)⟩
theorem ArcsO.see {B : Nat} {w : World} {ao : Option Addr} {n cap : Nat} {l : List AF} (h : ArcsO B w (.slice ao n cap) l) : See w ao cap arcCells 3 l ∧ n = l.length := by
  obtain ⟨ao2, cap2, e⟩ := h.form
  simp only [Value.slice.injEq] at e
  obtain ⟨rfl, rfl, rfl⟩ := e
  exact ⟨(See.of_own arcCells_len h.own (by omega)).1, rfl⟩
theorem ArcsO.app {B : Nat} {w w5 : World} {v : Value} {l : List AF} (n : ArcsO B w v l) {ao : Option Addr} {cap : Nat} {m : Nat} (news : List AF) (hm : news.length = m)
    (ho : w5.ownsRow 0 68 3 (.slice ao (l.length + m) cap) (l.length + m) (l.flatMap arcCells ++ news.flatMap arcCells)) (hk : ∀ k, (Value.slice ao (l.length + m) cap).ownBlock = some k → v.ownBlock = some k ∨ w.heap.size ≤ k) (hB : B ≤ w.heap.size) :
    ArcsO B w5 (.slice ao (l.length + m) cap) (l ++ news) := by
  subst hm
  refine ⟨by rw [List.flatMap_append, List.length_append]; exact ho, fun k h => ?_⟩
  rcases hk k h with h1 | h1
  · exact n.new k h1
  · omega
def cmp2 (x y : AF) : Int := if x.1.val = y.1.val then (x.2.1.val : Int) - (y.2.1.val : Int) else (x.1.val : Int) - (y.1.val : Int)
def cmpI (a b : Int) : Int := if a < b then -1 else if b < a then 1 else 0
def cmp3 (x y : AF) : Int := if cmpI x.1.val y.1.val ≠ 0 then cmpI x.1.val y.1.val else if cmpI x.2.1.val y.2.1.val ≠ 0 then cmpI x.2.1.val y.2.1.val else cmpI x.2.2.val y.2.2.val
def arcLt2 (x y : AF) : Prop := x.1.val < y.1.val ∨ x.1.val = y.1.val ∧ x.2.1.val < y.2.1.val
def arcLt3 (x y : AF) : Prop := x.1.val < y.1.val ∨ x.1.val = y.1.val ∧ (x.2.1.val < y.2.1.val ∨ x.2.1.val = y.2.1.val ∧ x.2.2.val < y.2.2.val)
theorem ltOf2 (x y : AF) : ltOf cmp2 x y = true ↔ arcLt2 x y := by
  unfold ltOf cmp2 arcLt2
  rw [decide_eq_true_iff]
  split <;> omega
theorem cmpI_lt (a b : Int) : cmpI a b < 0 ↔ a < b := by
  unfold cmpI
  split
  · omega
  · split <;> omega
theorem cmpI_ne (a b : Int) : cmpI a b ≠ 0 ↔ a ≠ b := by
  unfold cmpI
  split
  · omega
  · split <;> omega
theorem ltOf3 (x y : AF) : ltOf cmp3 x y = true ↔ arcLt3 x y := by
  unfold ltOf cmp3 arcLt3
  rw [decide_eq_true_iff]
  have n1 := cmpI_ne (x.1.val : Int) (y.1.val : Int)
  have n2 := cmpI_ne (x.2.1.val : Int) (y.2.1.val : Int)
  split
  · rw [cmpI_lt]; omega
  · split
    · rw [cmpI_lt]; omega
    · rw [cmpI_lt]; omega
theorem ltOf2f (x y : AF) : ltOf cmp2 x y = false ↔ ¬ arcLt2 x y := by rw [← ltOf2]; simp
theorem ltOf3f (x y : AF) : ltOf cmp3 x y = false ↔ ¬ arcLt3 x y := by rw [← ltOf3]; simp
theorem swo2 : Go.Sort.SWO (ltOf cmp2) where
  irrefl x := by rw [ltOf2f]; unfold arcLt2; omega
  trans x y z h1 h2 := by rw [ltOf2] at *; unfold arcLt2 at *; omega
  ntrans x y z h1 h2 := by rw [ltOf2f] at *; unfold arcLt2 at *; omega
theorem swo3 : Go.Sort.SWO (ltOf cmp3) where
  irrefl x := by rw [ltOf3f]; unfold arcLt3; omega
  trans x y z h1 h2 := by rw [ltOf3] at *; unfold arcLt3 at *; omega
  ntrans x y z h1 h2 := by rw [ltOf3f] at *; unfold arcLt3 at *; omega
theorem flatK_flat {α : Type} [Inhabited α] (f : α → List Value) {k : Nat} (hk : 0 < k) (hf : ∀ x, (f x).length = k) (l : List α) (t : Nat) (ht : t < l.length * k) : (Go.Sort.flatK f k l.toArray)[t]? = (l.flatMap f)[t]? := by
  have hd : t / k < l.length := (Nat.div_lt_iff_lt_mul hk).2 ht
  have hm := Nat.mod_lt t hk
  have e := flat_get hf l (t / k) (t % k) hm
  rw [Nat.mul_comm, Nat.div_add_mod] at e
  rw [e, List.getElem?_eq_getElem hd, Option.bind_some]
  have hsz : t < (Go.Sort.flatK f k l.toArray).size := by simpa using ht
  have h1 := Go.Sort.get_flatK f k l.toArray t (by simpa using ht)
  rw [getElem!_pos _ t hsz] at h1
  rw [Array.getElem?_eq_getElem hsz, h1]
  have h2 : l.toArray[t / k]! = l[t / k] := by
    rw [getElem!_pos l.toArray (t / k) (by simpa using hd)]
    simp
  rw [h2, getElem!_pos _ _ (by rw [hf]; exact hm), List.getElem?_eq_getElem (by rw [hf]; exact hm)]
theorem sorted_heap {α : Type} [Inhabited α] (f : α → List Value) (k : Nat) (w : World) (g m : Nat) (d : Array α) (os : Array Obj) (i : Nat) (hi : i < w.heap.size) :
    (sortWorldK f k w g 0 m d os).heap[i]? = if g = i then (w.heap[i]?).map (Go.Sort.onCells (Go.Sort.putCells id 0 (Go.Sort.flatK f k d))) else w.heap[i]? := by
  unfold sortWorldK Go.Sort.grow Go.Sort.putRowK Go.Sort.putRow Go.Sort.mapBlock Go.Sort.ahead
  dsimp only
  rw [Array.getElem?_append_left (by simpa using hi), Array.getElem?_modify]
theorem sorted_only {α : Type} [Inhabited α] (f : α → List Value) (k : Nat) (w : World) (g m : Nat) (d : Array α) (os : Array Obj) : Only [g] w (sortWorldK f k w g 0 m d os) := by
  refine ⟨rfl, rfl, rfl, ?_, fun i hi hn => ?_⟩
  · unfold sortWorldK Go.Sort.grow Go.Sort.putRowK Go.Sort.putRow Go.Sort.mapBlock Go.Sort.ahead
    simp
  · rw [sorted_heap f k w g m d os i hi, if_neg (fun h => hn (by simp [h]))]
theorem sorted_own {α : Type} [Inhabited α] (f : α → List Value) {k : Nat} (hk : 0 < k) (hf : ∀ x, (f x).length = k) (e : TypeId) (w : World) (g cap m : Nat) (l l' : List α) (os : Array Obj) (hl : l'.length = l.length)
    (h : w.ownsRow 0 e k (.slice (some ⟨g, 0, none⟩) l.length cap) l.length (l.flatMap f)) :
    (sortWorldK f k w g 0 m l'.toArray os).ownsRow 0 e k (.slice (some ⟨g, 0, none⟩) l.length cap) l.length (l'.flatMap f) := by
  refine ⟨by rw [flat_length hf, hl], ?_⟩
  rcases h.2 with ⟨h1, h2⟩ | ⟨g2, cap2, cur, e1, hb, hg, hn, hc, hcs, ht⟩
  · simp at h1
  · simp only [Value.slice.injEq, Option.some.injEq, Addr.mk.injEq, and_true] at e1
    obtain ⟨rfl, -, rfl⟩ := e1
    have hgl : g < w.heap.size := (Array.getElem?_eq_some_iff.1 hg).1
    have hmul : l.length * k ≤ cap * k := Nat.mul_le_mul_right _ hn
    refine .inr ⟨g, cap, Go.Sort.putCells id 0 (Go.Sort.flatK f k l'.toArray) cur, rfl, hb, by rw [sorted_heap f k w g m _ os g hgl, if_pos rfl, hg]; rfl, hn, hc, by simp [Go.Sort.putCells, hcs], ?_⟩
    apply List.ext_getElem?
    intro j
    rw [List.getElem?_take]
    by_cases hj : j < l.length * k
    · have hj2 : j < l'.length * k := by rw [hl]; exact hj
      have hjc : j < cur.size := by omega
      have e2 := flatK_flat f hk hf l' j hj2
      have hs : j < (Go.Sort.flatK f k l'.toArray).size := by simpa using hj2
      rw [if_pos hj, ← e2]
      simp only [Go.Sort.putCells, Array.getElem?_toList, Array.getElem?_mapIdx, Nat.zero_le, true_and, Nat.zero_add, Nat.sub_zero, Array.getElem?_eq_getElem hjc, Option.map_some]
      rw [if_pos hs, getElem!_pos (Go.Sort.flatK f k l'.toArray) j hs, Array.getElem?_eq_getElem hs]
      rfl
    · rw [if_neg hj, List.getElem?_eq_none (by rw [flat_length hf, hl]; omega)]
theorem own_holdsK {α : Type} [Inhabited α] (f : α → List Value) {k : Nat} (hk : 0 < k) (hf : ∀ x, (f x).length = k) (e : TypeId) (w : World) (g cap : Nat) (l : List α)
    (h : w.ownsRow 0 e k (.slice (some ⟨g, 0, none⟩) l.length cap) l.length (l.flatMap f)) : Go.Sort.HoldsK f k w g 0 l.toArray := by
  intro j hj
  have hj' : j < l.length * k := by simpa using hj
  rw [Nat.zero_add]
  refine ⟨?_, h.frozenAt j⟩
  rw [h.cellAt j hj', ← flatK_flat f hk hf l j hj', getElem!_pos (Go.Sort.flatK f k l.toArray) j hj, Array.getElem?_eq_getElem hj]
  rfl
theorem sort_any (cf : AF → AF → Int) (hO : Go.Sort.SWO (ltOf cf)) (gf : Nat) (eg : ∀ args w, (callFunc gf args).run Tryz.prog w = .ok (.enter gf args) w)
    (hcmp : ∀ (x y : AF) (W : World), Calls Tryz.prog gf #[.agg (arcCells x).toArray, .agg (arcCells y).toArray] W fun e w' => e = .returned (.int .i64 (cf x y)) ∧ ∃ q os', w' = Go.Sort.grow (W.drewN q) os')
    (B : Nat) (w : World) (v : Value) (l : List AF) (h : ArcsO B w v l) (hlen : l.length ≤ 4294967296) :
    Calls Tryz.prog 18 #[v, .func (.func gf) #[] #[]] w fun e w' => e = .returned (.tuple #[]) ∧ ∃ l' : List AF, l'.Perm l ∧ l'.Pairwise (fun x y => ltOf cf y x = false) ∧ ArcsO B w' v l' ∧ Only v.ownBlock.toList w w' := by
  by_cases h0 : l.length = 0
  · have hl : l = [] := List.eq_nil_of_length_eq_zero h0
    subst hl
    obtain ⟨ao, cap, rfl⟩ := h.form
    refine (AnyF.slices_SortFunc_none sortArcs ao cap (.func (.func gf) #[] #[]) w).mono ?_
    rintro e w' ⟨rfl, rfl⟩
    exact ⟨rfl, [], List.Perm.refl _, List.Pairwise.nil, h, Only.refl _ _⟩
  · obtain ⟨g, cap, rfl, -, hg⟩ := own_form h.own (by omega)
    have hH := own_holdsK arcCells (by omega) arcCells_len _ w g cap l h.own
    refine (AnyQ.slices_SortFunc sortArcs 3 Tryz.isAgg68 Tryz.sizeOf68 arcCells arcCells_len (fun x v hv => by simp only [arcCells, List.mem_cons, List.not_mem_nil, or_false] at hv; rcases hv with rfl | rfl | rfl <;> rfl) cf hO gf #[] g 0 cap l.toArray w eg
      (fun m os dk _ x y => hcmp x y _) hH hg (by simp; omega)).mono ?_
    rintro e w' ⟨rfl, d', n, os, hp, hs, rfl⟩
    obtain ⟨hsz, -, hperm⟩ := hp
    have e1 : d'.extract 0 l.toArray.size = d' := by rw [← hsz]; exact Array.extract_size
    rw [e1, Array.extract_size] at hperm
    have hl' : d'.toList.length = l.length := by simpa using hsz
    refine ⟨rfl, d'.toList, by simpa using hperm, ?_, ⟨?_, h.new⟩, sorted_only arcCells 3 w g n d' os⟩
    · rw [List.pairwise_iff_getElem]
      intro i j hi hj hij
      have hi' : i < d'.size := by simpa using hi
      have hj' : j < d'.size := by simpa using hj
      have := hs i j (Nat.zero_le _) hij (by omega)
      rw [getElem!_pos d' j hj', getElem!_pos d' i hi'] at this
      simpa using this
    · have := sorted_own arcCells (by omega) arcCells_len 68 w g cap n l d'.toList os hl' h.own
      rw [hl']
      simpa using this
def CmpPost (r : Int) (W : World) (e : Ending) (w' : World) : Prop := e = .returned (.int .i64 r) ∧ ∃ q os', w' = Go.Sort.grow (W.drewN q) os'
set_option maxRecDepth 100000 in
theorem gcmp_any (x y : AF) (W : World) : Calls Tryz.prog 19 #[.agg (arcCells x).toArray, .agg (arcCells y).toArray] W (CmpPost (cmp2 x y) W) := by
  obtain ⟨⟨a, ha⟩, ⟨b, hb⟩, ⟨c, hc⟩⟩ := x
  obtain ⟨⟨a2, ha2⟩, ⟨b2, hb2⟩, ⟨c2, hc2⟩⟩ := y
  unfold cmp2 arcCells
  dsimp only
  by_cases h : a = a2
  · subst h
    rw [if_pos rfl]
    have q1 : ((a : Int) != (a : Int)) = false := by simp
    have q2 : (a != a) = false := by simp
    have c1 := IntWalk.i64_in ((b : Int) - (b2 : Int)) (by omega)
    go_enter Tryz.func19, Tryz.ntmps19
    go_wp2
    go_ret
    exact ⟨rfl, 0, _, by rw [Go.Sort.alloc_eq_grow, Go.Sort.alloc_eq_grow, Go.Sort.grow_grow]; rfl⟩
  · rw [if_neg h]
    have q1 : ((a : Int) != (a2 : Int)) = true := by simp; omega
    have q2 : (a != a2) = true := by simpa using h
    have c1 := IntWalk.i64_in ((a : Int) - (a2 : Int)) (by omega)
    clear h
    go_enter Tryz.func19, Tryz.ntmps19
    go_wp2
    go_ret
    exact ⟨rfl, 0, _, by rw [Go.Sort.alloc_eq_grow, Go.Sort.alloc_eq_grow, Go.Sort.grow_grow]; rfl⟩
theorem compact_any (x y : AF) (W : World) : Calls Tryz.prog 48 #[.agg (arcCells x).toArray, .agg (arcCells y).toArray] W fun e w' => e = .returned (.bool (x.1.val == y.1.val && x.2.1.val == y.2.1.val)) ∧ Below W.heap.size W w' := by
  obtain ⟨⟨a, ha⟩, ⟨b, hb⟩, ⟨c, hc⟩⟩ := x
  obtain ⟨⟨a2, ha2⟩, ⟨b2, hb2⟩, ⟨c2, hc2⟩⟩ := y
  unfold arcCells
  dsimp only
  by_cases h : a = a2
  · subst h
    have q1 : ((a : Int) == (a : Int)) = true := by simp
    have q2 : (a == a) = true := by simp
    rw [q2, Bool.true_and]
    have q3 : ((b : Int) == (b2 : Int)) = (b == b2) := by rw [Bool.eq_iff_iff, beq_iff_eq, beq_iff_eq]; omega
    go_enter Tryz.func48, Tryz.ntmps48
    go_wp2
    go_ret
    exact ⟨by first | rfl | rw [q3], by go_grown⟩
  · have q1 : ((a : Int) == (a2 : Int)) = false := by simp; omega
    have q2 : (a == a2) = false := by simpa using h
    rw [q2, Bool.false_and]
    clear h
    go_enter Tryz.func48, Tryz.ntmps48
    go_wp2
    go_ret
    exact ⟨rfl, by go_grown⟩
theorem nan_any (a : Int) (w : World) : Calls Tryz.prog 95 #[.int .i64 a] w fun e w' => e = .returned (.bool false) ∧ w' = w := by
  have q : (a != a) = false := by simp
  go_enter Tryz.func95, Tryz.ntmps95
  go_wp2
  go_ret
  exact ⟨by simp, rfl⟩
theorem compare_any (a b : Int) (w : World) : Calls Tryz.prog 79 #[.int .i64 a, .int .i64 b] w fun e w' => e = .returned (.int .i64 (cmpI a b)) ∧ w' = w := by
  unfold cmpI
  by_cases h1 : a < b
  · rw [if_pos h1]
    have q1 : decide (a < b) = true := by simpa using h1
    clear h1
    go_enter Tryz.func79, Tryz.ntmps79
    go_wp2_with (go_at_call 95; refine (nan_any _ _).mono ?_; rintro e w' ⟨rfl, rfl⟩)
    go_ret
    exact ⟨rfl, rfl⟩
  · rw [if_neg h1]
    have q1 : decide (a < b) = false := by simpa using h1
    by_cases h2 : b < a
    · rw [if_pos h2]
      have q2 : decide (b < a) = true := by simpa using h2
      have q3 : decide (a > b) = true := by simpa using h2
      clear h1 h2
      go_enter Tryz.func79, Tryz.ntmps79
      go_wp2_with (go_at_call 95; refine (nan_any _ _).mono ?_; rintro e w' ⟨rfl, rfl⟩)
      go_ret
      exact ⟨rfl, rfl⟩
    · rw [if_neg h2]
      have q2 : decide (b < a) = false := by simpa using h2
      have q3 : decide (a > b) = false := by simpa using h2
      clear h1 h2
      go_enter Tryz.func79, Tryz.ntmps79
      go_wp2_with (go_at_call 95; refine (nan_any _ _).mono ?_; rintro e w' ⟨rfl, rfl⟩)
      go_ret
      exact ⟨rfl, rfl⟩
def or3 (a b c : Int) : Int := if a ≠ 0 then a else if b ≠ 0 then b else c
theorem or_any (a b c : Int) (k cap : Nat) (w : World) (h0 : w.cell? ⟨k, 0, none⟩ = some (.int .i64 a)) (h1 : w.cell? ⟨k, 1, none⟩ = some (.int .i64 b)) (h2 : w.cell? ⟨k, 2, none⟩ = some (.int .i64 c)) :
    Calls Tryz.prog 78 #[.slice (some ⟨k, 0, none⟩) 3 cap] w fun e w' => e = .returned (.int .i64 (or3 a b c)) ∧ ∃ q, w' = w.drewN q := by
  unfold or3
  by_cases ha : a = 0
  · rw [if_neg (by simpa using ha)]
    have qa : (a != 0) = false := by simpa using ha
    by_cases hb : b = 0
    · rw [if_neg (by simpa using hb)]
      have qb : (b != 0) = false := by simpa using hb
      clear ha hb
      by_cases hc : c = 0
      · have qc : (c != 0) = false := by simpa using hc
        rw [hc] at h2
        have qc : ((0 : Int) != 0) = false := by simp
        rw [hc]
        clear hc
        go_enter Tryz.func78, Tryz.ntmps78
        go_wp2
        refine wp_loop_rounds 4 ?_
        rw [rounds_succ]
        go_wp2
        rw [rounds_succ]
        go_wp2
        rw [rounds_succ]
        go_wp2
        rw [rounds_succ]
        go_wp2
        go_ret
        exact ⟨rfl, 0, rfl⟩
      · have qc : (c != 0) = true := by simpa using hc
        clear hc
        go_enter Tryz.func78, Tryz.ntmps78
        go_wp2
        refine wp_loop_rounds 4 ?_
        rw [rounds_succ]
        go_wp2
        rw [rounds_succ]
        go_wp2
        rw [rounds_succ]
        go_wp2
        go_ret
        exact ⟨rfl, 0, rfl⟩
    · rw [if_pos (by simpa using hb)]
      have qb : (b != 0) = true := by simpa using hb
      clear ha hb
      go_enter Tryz.func78, Tryz.ntmps78
      go_wp2
      refine wp_loop_rounds 4 ?_
      rw [rounds_succ]
      go_wp2
      rw [rounds_succ]
      go_wp2
      go_ret
      exact ⟨rfl, 0, rfl⟩
  · rw [if_pos (by simpa using ha)]
    have qa : (a != 0) = true := by simpa using ha
    clear ha
    go_enter Tryz.func78, Tryz.ntmps78
    go_wp2
    refine wp_loop_rounds 4 ?_
    rw [rounds_succ]
    go_wp2
    go_ret
    exact ⟨rfl, 0, rfl⟩
theorem or3_cmp (x y : AF) : or3 (cmpI x.1.val y.1.val) (cmpI x.2.1.val y.2.1.val) (cmpI x.2.2.val y.2.2.val) = cmp3 x y := rfl
set_option maxRecDepth 100000 in
set_option maxHeartbeats 400000 in
theorem norder_any (x y : AF) (W : World) : Calls Tryz.prog 46 #[.agg (arcCells x).toArray, .agg (arcCells y).toArray] W (CmpPost (cmp3 x y) W) := by
  rw [← or3_cmp]
  obtain ⟨⟨a, ha⟩, ⟨b, hb⟩, ⟨c, hc⟩⟩ := x
  obtain ⟨⟨a2, ha2⟩, ⟨b2, hb2⟩, ⟨c2, hc2⟩⟩ := y
  unfold arcCells
  dsimp only
  obtain ⟨wz, hwz⟩ : ∃ wz, (W.alloc (.cells #[.int .i64 (a : Int), .int .i64 (b : Int), .int .i64 (c : Int)] 68)).alloc (.cells #[.int .i64 (a2 : Int), .int .i64 (b2 : Int), .int .i64 (c2 : Int)] 68) = wz := ⟨_, rfl⟩
  have x0 : wz.cell? ⟨W.heap.size, 0, none⟩ = some (.int .i64 (a : Int)) := by rw [← hwz]; exact ((Cells.new W 68 [_, _, _]).alloc _).cell rfl
  have x1 : wz.cell? ⟨W.heap.size, 1, none⟩ = some (.int .i64 (b : Int)) := by rw [← hwz]; exact ((Cells.new W 68 [_, _, _]).alloc _).cell rfl
  have x2 : wz.cell? ⟨W.heap.size, 2, none⟩ = some (.int .i64 (c : Int)) := by rw [← hwz]; exact ((Cells.new W 68 [_, _, _]).alloc _).cell rfl
  have hs : (W.alloc (.cells #[.int .i64 (a : Int), .int .i64 (b : Int), .int .i64 (c : Int)] 68)).heap.size = W.heap.size + 1 := by simp
  have y0 : wz.cell? ⟨W.heap.size + 1, 0, none⟩ = some (.int .i64 (a2 : Int)) := by rw [← hwz, ← hs]; exact (Cells.new _ 68 [_, _, _]).cell rfl
  have y1 : wz.cell? ⟨W.heap.size + 1, 1, none⟩ = some (.int .i64 (b2 : Int)) := by rw [← hwz, ← hs]; exact (Cells.new _ 68 [_, _, _]).cell rfl
  have y2 : wz.cell? ⟨W.heap.size + 1, 2, none⟩ = some (.int .i64 (c2 : Int)) := by rw [← hwz, ← hs]; exact (Cells.new _ 68 [_, _, _]).cell rfl
  have C0 := fun w => compare_any (a : Int) a2 w
  have C1 := fun w => compare_any (b : Int) b2 w
  have C2 := fun w => compare_any (c : Int) c2 w
  generalize cmpI (a : Int) a2 = r0 at C0 ⊢
  generalize cmpI (b : Int) b2 = r1 at C1 ⊢
  generalize cmpI (c : Int) c2 = r2 at C2 ⊢
  have HC0 := Lib.hid C0
  have HC1 := Lib.hid C1
  have HC2 := Lib.hid C2
  clear C0 C1 C2
  have HS := Lib.hid hs
  have HW := Lib.hid hwz
  clear hs hwz
  go_enter Tryz.func46, Tryz.ntmps46
  go_upto_region 1 with fail
  rw [HW.out]
  go_still_tail 15, (by kernel_rfl)
  repeat still_step
  still_call (HC0.out _)
  repeat still_step
  still_call (HC1.out _)
  repeat still_step
  still_call (HC2.out _)
  repeat still_step
  refine wpStill_nil ?_
  go_wp2_with fail
  obtain ⟨wv, hwv⟩ : ∃ wv, (wz.alloc (.cells #[.int .i64 r0, .int .i64 r1, .int .i64 r2] 3)).drew = wv := ⟨_, rfl⟩
  have z0 : wv.cell? ⟨wz.heap.size, 0, none⟩ = some (.int .i64 r0) := by rw [← hwv]; exact (Cells.new wz 3 [_, _, _]).drew.cell rfl
  have z1 : wv.cell? ⟨wz.heap.size, 1, none⟩ = some (.int .i64 r1) := by rw [← hwv]; exact (Cells.new wz 3 [_, _, _]).drew.cell rfl
  have z2 : wv.cell? ⟨wz.heap.size, 2, none⟩ = some (.int .i64 r2) := by rw [← hwv]; exact (Cells.new wz 3 [_, _, _]).drew.cell rfl
  first | rw [hwv] | fail
  refine (or_any r0 r1 r2 _ _ wv z0 z1 z2).mono ?_
  rintro e w' ⟨rfl, q, rfl⟩
  go_wp2_with fail
  go_ret
  exact ⟨rfl, 1 + q, _, by
    rw [← hwv, ← HW.out, Go.Sort.alloc_eq_grow, Go.Sort.alloc_eq_grow, Go.Sort.alloc_eq_grow, Go.Sort.grow_grow, Go.Sort.grow_grow]
    unfold World.drew World.drewN Go.Sort.grow
    dsimp only
    rw [Nat.add_assoc]⟩
def nodeAt (h : HierD) (r : Nat) : Nat := h.node.getD r 0
theorem end_cases {h : HierD} (hc : checkErr h = .nil) {x : Nat} (hx : x < cntOf h) :
    ((decide (h.up.length ≤ x) = false ∧ (endAt h x).rank = (endAt h x).tail ∧ (linkAt h x).to = (endAt h x).head) ∨
     (decide (h.up.length ≤ x) = true ∧ (endAt h x).rank = (endAt h x).head ∧ (linkAt h x).to = (endAt h x).tail)) ∧ (endAt h x).tail < h.node.length ∧ (endAt h x).head < h.node.length := by
  have he := endAt_link hc hx
  obtain ⟨f, -, -, -, hg⟩ := checkErr_parts hc
  have hn := cnt_ends hc
  have mi : endAt h x ∈ endsOf h := by
    unfold endAt
    rw [List.getD_eq_getElem?_getD, List.getElem?_eq_getElem (by omega), Option.getD_some]
    exact List.getElem_mem _
  have hf := end_facts hg _ mi
  by_cases hu : x < h.up.length
  · obtain ⟨h1, h2⟩ := endAt_up hc hu
    exact ⟨.inl ⟨by simp; omega, h1.symm, by rw [← he, h2]⟩, by rw [h1]; omega, by rw [h2]; omega⟩
  · obtain ⟨h1, h2⟩ := endAt_dn hc (by omega) hx
    exact ⟨.inr ⟨by simp; omega, h2.symm, by rw [← he, h1]⟩, by rw [h1]; omega, by rw [h2]; omega⟩
theorem cnt_small {h : HierD} (hc : checkErr h = .nil) (hk : h.up.length + h.dn.length ≤ 281474976710656) : cntOf h ≤ 1048576 := by
  have := (checkErr_parts hc).1.s
  unfold cntOf
  rw [IntWalk.wrap64_in _ ⟨by omega, by omega⟩] at this
  omega
open Go.ChangeMaps Go.MapKept
theorem only_setBlock {w : World} {b clock : Nat} {es : Array MapEntry} (hb : w.heap[b]? = some (.map es clock)) (o : Obj) : Only [b] w (setBlock w b o) :=
  ⟨rfl, rfl, rfl, by simp [setBlock], fun k _ hn => heap_setBlock_other hb _ (fun e => hn (by simp [e]))⟩
def natKey (r : Nat) : Value := .int .i64 (r : Int)
theorem natKey_inj {a b : Nat} (h : natKey a = natKey b) : a = b := by
  unfold natKey at h
  simp only [Value.int.injEq, true_and] at h
  omega
structure MapI (w : World) (b : Nat) (f : Nat → Option Value) : Prop where
  ex : ∃ es clock, w.heap[b]? = some (.map es clock) ∧ (∀ e ∈ es.toList, ∃ r : Nat, r ≤ 9223372036854775807 ∧ e.key = natKey r) ∧ (∀ (i j : Nat) (a c : MapEntry), es.toList[i]? = some a → es.toList[j]? = some c → a.key = c.key → i = j) ∧
    (∀ (r : Nat) (v : Value), f r = some v ↔ ∃ e ∈ es.toList, e.key = natKey r ∧ e.val = v)
theorem MapI.lt {w : World} {b : Nat} {f : Nat → Option Value} (m : MapI w b f) : b < w.heap.size := by
  obtain ⟨es, clock, hb, -⟩ := m.ex
  exact (Array.getElem?_eq_some_iff.1 hb).1
theorem MapI.below {w w' : World} {b : Nat} {f : Nat → Option Value} (m : MapI w b f) (o : Below w.heap.size w w') : MapI w' b f := by
  have hl := m.lt
  obtain ⟨es, clock, hb, h⟩ := m.ex
  exact ⟨es, clock, (o.block b hl).trans hb, h⟩
theorem MapI.only {w w' : World} {b : Nat} {f : Nat → Option Value} {bs : List Nat} (m : MapI w b f) (o : Only bs w w') (hn : b ∉ bs) : MapI w' b f := by
  have hl := m.lt
  obtain ⟨es, clock, hb, h⟩ := m.ex
  exact ⟨es, clock, (o.block b hl hn).trans hb, h⟩
theorem MapI.made (w : World) : MapI (w.alloc (.map #[] 0)) w.heap.size (fun _ => none) :=
  ⟨#[], 0, (MapKept.heap_alloc w _).1, by simp, by simp, by simp⟩
theorem key_nat {P : Program} {k : TypeId} (hk : P.underlying k = some (.int .i64)) {r : Nat} (hr : r ≤ 9223372036854775807) : Go.keyOf P k (natKey r) = some (.int .i64 (r : Int)) :=
  Maps.keyOf_int_mk hk (WalkArith.wf_i64 (by omega))
theorem MapI.look {w : World} {b : Nat} {f : Nat → Option Value} {P : Program} {t k E : TypeId} {z : Value} (m : MapI w b f) (ht : P.underlying t = some (.map k E)) (hk : P.underlying k = some (.int .i64)) (hz : (zeroValue E).run P w = .ok z w) {r : Nat} (hr : r ≤ 9223372036854775807) :
    (Instr.lookup t (.map (some b)) (.int .i64 (r : Int)) false).run P w = .ok ((f r).getD z) w := by
  obtain ⟨es, clock, hb, hkeys, huni, hf⟩ := m.ex
  have K := Maps.int_keyed hk
  have hkey := key_nat hk hr
  unfold natKey at hkey
  have hall : ∀ e ∈ es.toList, ∃ l, Go.keyOf P k e.key = some l := fun e he => by
    obtain ⟨q, hq, e1⟩ := hkeys e he
    exact ⟨_, by rw [e1]; exact key_nat hk hq⟩
  rcases K.find w hkey es.toList hall with ⟨h1, h2⟩ | ⟨j, e0, h1, h2, h3⟩
  · have hn : f r = none := by
      cases hfr : f r with
      | none => rfl
      | some v =>
        obtain ⟨e, he, e1, -⟩ := (hf r v).1 hfr
        exact absurd e1 (h2 e he)
    rw [hn]
    simp [Instr.lookup, run_underlying ht, MapKept.run_getObj_map hb, K.check w _ hkey, h1, hz, Result.andThen]
  · have hs : f r = some e0.val := (hf r e0.val).2 ⟨e0, List.mem_of_getElem? h2, h3, rfl⟩
    rw [hs]
    simp [Instr.lookup, run_underlying ht, MapKept.run_getObj_map hb, K.check w _ hkey, h1, Result.andThen]
theorem MapI.put {w : World} {b : Nat} {f : Nat → Option Value} {P : Program} {t k E : TypeId} (m : MapI w b f) (ht : P.underlying t = some (.map k E)) (hk : P.underlying k = some (.int .i64)) {r : Nat} (hr : r ≤ 9223372036854775807) (v : Value) :
    ∃ w', (Instr.mapUpdate t (.map (some b)) (.int .i64 (r : Int)) v).run P w = .ok () w' ∧ MapI w' b (fun q => if q = r then some v else f q) ∧ Only [b] w w' := by
  obtain ⟨es, clock, hb, hkeys, huni, hf⟩ := m.ex
  have K := Maps.int_keyed hk
  have hkey := key_nat hk hr
  unfold natKey at hkey
  have hall : ∀ e ∈ es.toList, ∃ l, Go.keyOf P k e.key = some l := fun e he => by
    obtain ⟨q, hq, e1⟩ := hkeys e he
    exact ⟨_, by rw [e1]; exact key_nat hk hq⟩
  rcases K.find w hkey es.toList hall with ⟨h1, h2⟩ | ⟨j, e0, h1, h2, h3⟩
  · refine ⟨setBlock w b (.map (es.push ⟨.int .i64 (r : Int), v, clock⟩) (clock + 1)), ?_, ⟨_, _, heap_setBlock_same hb _, ?_, ?_, ?_⟩, ?_⟩
    · simp [Instr.mapUpdate, run_underlying ht, MapKept.run_getObj_map hb, K.check w false hkey, h1, MapKept.run_setObj_map _ hb, Result.andThen, setBlock]
    · intro e he
      simp only [Array.toList_push, List.mem_append, List.mem_singleton] at he
      rcases he with he | rfl
      · exact hkeys e he
      · exact ⟨r, hr, rfl⟩
    · intro i j a c hi hj hac
      simp only [Array.toList_push, List.getElem?_append] at hi hj
      split at hi <;> split at hj
      · exact huni i j a c hi hj hac
      · have h4 := List.mem_of_getElem? hj
        simp only [List.mem_singleton] at h4
        subst h4
        exact absurd hac (h2 a (List.mem_of_getElem? hi))
      · have h4 := List.mem_of_getElem? hi
        simp only [List.mem_singleton] at h4
        subst h4
        exact absurd hac.symm (h2 c (List.mem_of_getElem? hj))
      · have h4 := (List.getElem?_eq_some_iff.1 hi).1
        have h5 := (List.getElem?_eq_some_iff.1 hj).1
        simp only [List.length_singleton] at h4 h5
        omega
    · intro q u
      simp only [Array.toList_push, List.mem_append, List.mem_singleton]
      by_cases e : q = r
      · subst e
        rw [if_pos rfl]
        constructor
        · intro h
          simp only [Option.some.injEq] at h
          exact ⟨_, .inr rfl, rfl, h⟩
        · rintro ⟨e1, he | rfl, e2, e3⟩
          · exact absurd e2 (h2 e1 he)
          · exact congrArg some e3
      · rw [if_neg e, hf q u]
        constructor
        · rintro ⟨e1, he, e2, e3⟩
          exact ⟨e1, .inl he, e2, e3⟩
        · rintro ⟨e1, he | rfl, e2, e3⟩
          · exact ⟨e1, he, e2, e3⟩
          · exact absurd (natKey_inj e2).symm e
    · exact only_setBlock hb _
  · have hj : es[j]? = some e0 := by simpa using h2
    have hlist : (es.modify j (fun e' => { e' with key := .int .i64 (r : Int), val := v })).toList = es.toList.set j { e0 with key := .int .i64 (r : Int), val := v } := by rw [Array.toList_modify, modify_eq_set _ _ _ _ h2]
    have hjl : j < es.toList.length := (List.getElem?_eq_some_iff.1 h2).1
    refine ⟨setBlock w b (.map (es.modify j (fun e' => { e' with key := .int .i64 (r : Int), val := v })) clock), ?_, ⟨_, _, heap_setBlock_same hb _, ?_, ?_, ?_⟩, ?_⟩
    · simp [Instr.mapUpdate, run_underlying ht, MapKept.run_getObj_map hb, K.check w false hkey, h1, hj, h3, K.stays w hkey, MapKept.run_setObj_map _ hb, Result.andThen, setBlock]
    · intro e he
      rw [hlist] at he
      rcases List.mem_or_eq_of_mem_set he with he | rfl
      · exact hkeys e he
      · exact ⟨r, hr, rfl⟩
    · have key : ∀ (i : Nat) (a : MapEntry), (es.toList.set j { e0 with key := .int .i64 (r : Int), val := v })[i]? = some a → ∃ a' : MapEntry, es.toList[i]? = some a' ∧ a'.key = a.key := by
        intro i a hi
        rw [List.getElem?_set] at hi
        split at hi
        · rename_i e
          subst e
          try rw [if_pos hjl] at hi
          simp only [Option.some.injEq] at hi
          subst hi
          exact ⟨e0, h2, h3⟩
        · exact ⟨a, hi, rfl⟩
      intro i l a c hi hl hac
      rw [hlist] at hi hl
      obtain ⟨a', ha, ea⟩ := key i a hi
      obtain ⟨c', hc, ec⟩ := key l c hl
      exact huni i l a' c' ha hc (by rw [ea, ec, hac])
    · intro q u
      rw [hlist]
      by_cases e : q = r
      · subst e
        rw [if_pos rfl]
        constructor
        · intro h
          simp only [Option.some.injEq] at h
          exact ⟨{ e0 with key := .int .i64 (q : Int), val := v }, List.mem_iff_getElem.2 ⟨j, by simpa using hjl, by simp⟩, rfl, h⟩
        · rintro ⟨e1, he, e2, e3⟩
          obtain ⟨i, hi, rfl⟩ := List.getElem_of_mem he
          have hi' : i < es.toList.length := by simpa using hi
          rw [List.getElem_set] at e2 e3
          split at e3
          · exact congrArg some e3
          · rename_i hne
            rw [if_neg hne] at e2
            exact absurd (huni i j _ e0 (List.getElem?_eq_getElem hi') h2 (e2.trans h3.symm)).symm hne
      · rw [if_neg e, hf q u]
        constructor
        · rintro ⟨e1, he, e2, e3⟩
          obtain ⟨i, hi, rfl⟩ := List.getElem_of_mem he
          have hij : j ≠ i := fun c => by
            subst c
            rw [List.getElem?_eq_getElem hi] at h2
            simp only [Option.some.injEq] at h2
            rw [h2, h3] at e2
            exact e (natKey_inj e2).symm
          exact ⟨_, List.mem_iff_getElem.2 ⟨i, by simpa using hi, by rw [List.getElem_set, if_neg hij]⟩, e2, e3⟩
        · rintro ⟨e1, he, e2, e3⟩
          obtain ⟨i, hi, rfl⟩ := List.getElem_of_mem he
          have hi' : i < es.toList.length := by simpa using hi
          rw [List.getElem_set] at e2 e3
          split at e2
          · exact absurd (natKey_inj e2).symm e
          · rename_i hne
            rw [if_neg hne] at e3
            exact ⟨_, List.getElem_mem hi', e2, e3⟩
    · exact only_setBlock hb _
end Go.Proofs.YtblkkjfpggcgfaaGreatDoor
namespace Go.Proofs.YtblkkjfpggcgfaaGreatDoor
def steps : List Nat → List (Nat × Nat)
  | [] => []
  | [_] => []
  | a :: b :: l => (a, b) :: steps (b :: l)
end Go.Proofs.YtblkkjfpggcgfaaGreatDoor
namespace Go.Proofs.YtblkkjfpggcgfaaGreatDoor
open Go.ChangeShapes Go.WideShapes Go.ChangeAt Go.RowKit Go.Joins Go.Deep
open Go.ChangeMaps Go.MapKept
theorem MapI.congr {w : World} {b : Nat} {f g : Nat → Option Value} (m : MapI w b f) (h : ∀ q, f q = g q) : MapI w b g := by
  have e : f = g := funext h
  rw [← e]; exact m
def distV (L : List SeenD) (q : Nat) : Option Value := (L.find? (fun x => x.rank == q)).map fun x => .int .u64 x.dist
structure SeenIs (n : Nat) (D : Nat → Option Int) (L : List SeenD) : Prop where
  map : L.map (fun x => (x.rank, x.dist)) = seenOf n D
theorem SeenIs.mem {n : Nat} {D : Nat → Option Int} {L : List SeenD} (h : SeenIs n D L) {x : SeenD} (hx : x ∈ L) : x.rank < n ∧ D x.rank = some x.dist := by
  have : (x.rank, x.dist) ∈ seenOf n D := by rw [← h.map]; exact List.mem_map.2 ⟨x, hx, rfl⟩
  unfold seenOf at this
  rw [List.mem_filterMap] at this
  obtain ⟨r, hr, h1⟩ := this
  rw [Option.map_eq_some_iff] at h1
  obtain ⟨d, hd, h2⟩ := h1
  simp only [Prod.mk.injEq] at h2
  obtain ⟨rfl, rfl⟩ := h2
  exact ⟨List.mem_range.1 hr, hd⟩
theorem SeenIs.has {n : Nat} {D : Nat → Option Int} {L : List SeenD} (h : SeenIs n D L) {r : Nat} {d : Int} (hr : r < n) (hd : D r = some d) : ∃ x ∈ L, x.rank = r ∧ x.dist = d := by
  have : (r, d) ∈ seenOf n D := List.mem_filterMap.2 ⟨r, List.mem_range.2 hr, by rw [hd]; rfl⟩
  rw [← h.map, List.mem_map] at this
  obtain ⟨x, hx, e⟩ := this
  simp only [Prod.mk.injEq] at e
  exact ⟨x, hx, e.1, e.2⟩
theorem SeenIs.nodup {n : Nat} {D : Nat → Option Int} {L : List SeenD} (h : SeenIs n D L) : (L.map (·.rank)).Nodup := by
  have e : L.map (·.rank) = (seenOf n D).map (·.1) := by rw [← h.map, List.map_map]; rfl
  rw [e]
  unfold seenOf
  have key : ∀ l : List Nat, l.Nodup → ((l.filterMap fun r => (D r).map fun d => (r, d)).map (·.1)).Nodup ∧ ∀ x ∈ ((l.filterMap fun r => (D r).map fun d => (r, d)).map (·.1)), x ∈ l := by
    intro l
    induction l with
    | nil => intro _; simp
    | cons a l ih =>
      intro hl
      rw [List.nodup_cons] at hl
      obtain ⟨h1, h2⟩ := ih hl.2
      rw [List.filterMap_cons]
      cases hD : D a with
      | none => simp only [Option.map_none]; exact ⟨h1, fun x hx => List.mem_cons_of_mem _ (h2 x hx)⟩
      | some d =>
        simp only [Option.map_some, List.map_cons, List.nodup_cons]
        exact ⟨⟨fun hx => hl.1 (h2 a hx), h1⟩, fun x hx => by
          rcases List.mem_cons.1 hx with rfl | hx
          · simp
          · exact List.mem_cons_of_mem _ (h2 x hx)⟩
  exact (key _ List.nodup_range).1
theorem SeenIs.fresh {n : Nat} {D : Nat → Option Int} {L : List SeenD} (h : SeenIs n D L) {k : Nat} {x : SeenD} (hx : L[k]? = some x) : ∀ y ∈ L.take k, y.rank ≠ x.rank := by
  intro y hy e
  obtain ⟨j, hj⟩ := List.getElem?_of_mem hy
  rw [List.getElem?_take] at hj
  split at hj
  · rename_i hjk
    have hn := h.nodup
    rw [List.nodup_iff_pairwise_ne, List.pairwise_iff_getElem] at hn
    obtain ⟨h1, h2⟩ := List.getElem?_eq_some_iff.1 hj
    obtain ⟨h3, h4⟩ := List.getElem?_eq_some_iff.1 hx
    have := hn j k (by simpa using h1) (by simpa using h3) hjk
    simp only [List.getElem_map, h2, h4] at this
    exact this e
  · cases hj
theorem SeenIs.dist {n : Nat} {D : Nat → Option Int} {L : List SeenD} (h : SeenIs n D L) {r : Nat} {d : Int} (hr : r < n) (hd : D r = some d) : distV L r = some (.int .u64 d) := by
  unfold distV
  cases hf : L.find? (fun x => x.rank == r) with
  | none =>
    rw [List.find?_eq_none] at hf
    obtain ⟨x, hx, e1, -⟩ := h.has hr hd
    exact absurd (by simpa using e1) (hf x hx)
  | some x =>
    have h1 := List.find?_some hf
    have h2 := List.mem_of_find?_eq_some hf
    simp only [beq_iff_eq] at h1
    have h3 := (h.mem h2).2
    rw [h1, hd] at h3
    simp only [Option.some.injEq] at h3
    rw [Option.map_some, h3]
theorem seg_get {first : List Nat} {links : List LinkD} {r : Nat} {l : LinkD} (h : l ∈ seg first links r) : ∃ i, first.getD r 0 ≤ i ∧ i < first.getD (r + 1) 0 ∧ links[i]? = some l := by
  unfold seg at h
  obtain ⟨j, hj⟩ := List.getElem?_of_mem h
  rw [List.getElem?_drop, List.getElem?_take] at hj
  split at hj
  · exact ⟨_, by omega, by omega, hj⟩
  · cases hj
end Go.Proofs.YtblkkjfpggcgfaaGreatDoor
