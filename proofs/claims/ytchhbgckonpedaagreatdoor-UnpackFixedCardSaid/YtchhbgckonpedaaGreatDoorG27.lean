/- Arcs as data; a row of arcs in memory of the call's own; sorted in place. -/
import Derived.Test.YtchhbgckonpedaaGreatDoorG26
import Derived.Test.YtchhbgckonpedaaGreatDoorG20
import Derived.StillTailTactics
namespace Go.Proofs.YtchhbgckonpedaaGreatDoor
open Go.ChangeShapes Go.WideShapes Go.ChangeAt Go.RowKit Go.Joins Go.Deep
abbrev AF := Fin 65536 × Fin 65536 × Fin 2147483648
def arcCells (x : AF) : List Value := [.int .i64 (x.1.val : Int), .int .i64 (x.2.1.val : Int), .int .i64 (x.2.2.val : Int)]
theorem arcCells_len (x : AF) : (arcCells x).length = 3 := rfl
structure ArcsO (B : Nat) (w' : World) (v : Value) (l : List AF) : Prop where
  own : w'.ownsRow 0 100 3 v l.length (l.flatMap arcCells)
  new : ∀ k, v.ownBlock = some k → B ≤ k
theorem ArcsO.nil (B : Nat) (w : World) : ArcsO B w (.slice none 0 0) [] := ⟨World.ownsRow_nil _ _ _ _, by simp [Value.ownBlock]⟩
theorem ArcsO.kept {B : Nat} {w w' : World} {v : Value} {l : List AF} {bs : List Nat} (n : ArcsO B w v l) (o : Only bs w w') (hn : ∀ k, v.ownBlock = some k → k ∉ bs) : ArcsO B w' v l := ⟨own_kept n.own o hn, n.new⟩
theorem ArcsO.below {B : Nat} {w w' : World} {v : Value} {l : List AF} (n : ArcsO B w v l) (o : Below w.heap.size w w') : ArcsO B w' v l := n.kept (bs := []) (Only.of_below o) (fun _ _ => by simp)
theorem ArcsO.form {B : Nat} {w : World} {v : Value} {l : List AF} (n : ArcsO B w v l) : ∃ ao cap, v = .slice ao l.length cap := own_form' n.own
theorem ArcsO.mono {B C : Nat} {w : World} {v : Value} {l : List AF} (n : ArcsO B w v l) (h : C ≤ B) : ArcsO C w v l := ⟨n.own, fun k hk => Nat.le_trans h (n.new k hk)⟩
theorem ArcsO.see {B : Nat} {w : World} {ao : Option Addr} {n cap : Nat} {l : List AF} (h : ArcsO B w (.slice ao n cap) l) : See w ao cap arcCells 3 l ∧ n = l.length := by
  obtain ⟨ao2, cap2, e⟩ := h.form
  simp only [Value.slice.injEq] at e
  obtain ⟨rfl, rfl, rfl⟩ := e
  exact ⟨(See.of_own arcCells_len h.own (by omega)).1, rfl⟩
theorem ArcsO.app {B : Nat} {w w5 : World} {v : Value} {l : List AF} (n : ArcsO B w v l) {ao : Option Addr} {cap : Nat} {m : Nat} (news : List AF) (hm : news.length = m)
    (ho : w5.ownsRow 0 100 3 (.slice ao (l.length + m) cap) (l.length + m) (l.flatMap arcCells ++ news.flatMap arcCells)) (hk : ∀ k, (Value.slice ao (l.length + m) cap).ownBlock = some k → v.ownBlock = some k ∨ w.heap.size ≤ k) (hB : B ≤ w.heap.size) :
    ArcsO B w5 (.slice ao (l.length + m) cap) (l ++ news) := by
  subst hm
  refine ⟨by rw [List.flatMap_append, List.length_append]; exact ho, fun k h => ?_⟩
  rcases hk k h with h1 | h1
  · exact n.new k h1
  · omega
def cmp2 (x y : AF) : Int := if x.1.val = y.1.val then (x.2.1.val : Int) - (y.2.1.val : Int) else (x.1.val : Int) - (y.1.val : Int)
def cmpI (a b : Int) : Int := if a < b then -1 else if b < a then 1 else 0
def cmp3 (x y : AF) : Int := if cmpI x.1.val y.1.val ≠ 0 then cmpI x.1.val y.1.val else if cmpI x.2.1.val y.2.1.val ≠ 0 then cmpI x.2.1.val y.2.1.val else cmpI x.2.2.val y.2.2.val
def arcLt2 (x y : AF) : Prop := x.1.val < y.1.val ∨ x.1.val = y.1.val ∧ x.2.1.val < y.2.1.val
def arcLt3 (x y : AF) : Prop := x.1.val < y.1.val ∨ x.1.val = y.1.val ∧ (x.2.1.val < y.2.1.val ∨ x.2.1.val = y.2.1.val ∧ x.2.2.val < y.2.2.val)
theorem ltOf2 (x y : AF) : ltOf cmp2 x y = true ↔ arcLt2 x y := by
  unfold ltOf cmp2 arcLt2
  rw [decide_eq_true_iff]
  split <;> omega
theorem cmpI_lt (a b : Int) : cmpI a b < 0 ↔ a < b := by
  unfold cmpI
  split
  · omega
  · split <;> omega
theorem cmpI_ne (a b : Int) : cmpI a b ≠ 0 ↔ a ≠ b := by
  unfold cmpI
  split
  · omega
  · split <;> omega
theorem ltOf3 (x y : AF) : ltOf cmp3 x y = true ↔ arcLt3 x y := by
  unfold ltOf cmp3 arcLt3
  rw [decide_eq_true_iff]
  have n1 := cmpI_ne (x.1.val : Int) (y.1.val : Int)
  have n2 := cmpI_ne (x.2.1.val : Int) (y.2.1.val : Int)
  split
  · rw [cmpI_lt]; omega
  · split
    · rw [cmpI_lt]; omega
    · rw [cmpI_lt]; omega
theorem ltOf2f (x y : AF) : ltOf cmp2 x y = false ↔ ¬ arcLt2 x y := by rw [← ltOf2]; simp
theorem ltOf3f (x y : AF) : ltOf cmp3 x y = false ↔ ¬ arcLt3 x y := by rw [← ltOf3]; simp
theorem swo2 : Go.Sort.SWO (ltOf cmp2) where
  irrefl x := by rw [ltOf2f]; unfold arcLt2; omega
  trans x y z h1 h2 := by rw [ltOf2] at *; unfold arcLt2 at *; omega
  ntrans x y z h1 h2 := by rw [ltOf2f] at *; unfold arcLt2 at *; omega
theorem swo3 : Go.Sort.SWO (ltOf cmp3) where
  irrefl x := by rw [ltOf3f]; unfold arcLt3; omega
  trans x y z h1 h2 := by rw [ltOf3] at *; unfold arcLt3 at *; omega
  ntrans x y z h1 h2 := by rw [ltOf3f] at *; unfold arcLt3 at *; omega
theorem flatK_flat {α : Type} [Inhabited α] (f : α → List Value) {k : Nat} (hk : 0 < k) (hf : ∀ x, (f x).length = k) (l : List α) (t : Nat) (ht : t < l.length * k) : (Go.Sort.flatK f k l.toArray)[t]? = (l.flatMap f)[t]? := by
  have hd : t / k < l.length := (Nat.div_lt_iff_lt_mul hk).2 ht
  have hm := Nat.mod_lt t hk
  have e := flat_get hf l (t / k) (t % k) hm
  rw [Nat.mul_comm, Nat.div_add_mod] at e
  rw [e, List.getElem?_eq_getElem hd, Option.bind_some]
  have hsz : t < (Go.Sort.flatK f k l.toArray).size := by simpa using ht
  have h1 := Go.Sort.get_flatK f k l.toArray t (by simpa using ht)
  rw [getElem!_pos _ t hsz] at h1
  rw [Array.getElem?_eq_getElem hsz, h1]
  have h2 : l.toArray[t / k]! = l[t / k] := by
    rw [getElem!_pos l.toArray (t / k) (by simpa using hd)]
    simp
  rw [h2, getElem!_pos _ _ (by rw [hf]; exact hm), List.getElem?_eq_getElem (by rw [hf]; exact hm)]
theorem sorted_heap {α : Type} [Inhabited α] (f : α → List Value) (k : Nat) (w : World) (g m : Nat) (d : Array α) (os : Array Obj) (i : Nat) (hi : i < w.heap.size) :
    (sortWorldK f k w g 0 m d os).heap[i]? = if g = i then (w.heap[i]?).map (Go.Sort.onCells (Go.Sort.putCells id 0 (Go.Sort.flatK f k d))) else w.heap[i]? := by
  unfold sortWorldK Go.Sort.grow Go.Sort.putRowK Go.Sort.putRow Go.Sort.mapBlock Go.Sort.ahead
  dsimp only
  rw [Array.getElem?_append_left (by simpa using hi), Array.getElem?_modify]
theorem sorted_only {α : Type} [Inhabited α] (f : α → List Value) (k : Nat) (w : World) (g m : Nat) (d : Array α) (os : Array Obj) : Only [g] w (sortWorldK f k w g 0 m d os) := by
  refine ⟨rfl, rfl, rfl, ?_, fun i hi hn => ?_⟩
  · unfold sortWorldK Go.Sort.grow Go.Sort.putRowK Go.Sort.putRow Go.Sort.mapBlock Go.Sort.ahead
    simp
  · rw [sorted_heap f k w g m d os i hi, if_neg (fun h => hn (by simp [h]))]
theorem sorted_own {α : Type} [Inhabited α] (f : α → List Value) {k : Nat} (hk : 0 < k) (hf : ∀ x, (f x).length = k) (e : TypeId) (w : World) (g cap m : Nat) (l l' : List α) (os : Array Obj) (hl : l'.length = l.length)
    (h : w.ownsRow 0 e k (.slice (some ⟨g, 0, none⟩) l.length cap) l.length (l.flatMap f)) :
    (sortWorldK f k w g 0 m l'.toArray os).ownsRow 0 e k (.slice (some ⟨g, 0, none⟩) l.length cap) l.length (l'.flatMap f) := by
  refine ⟨by rw [flat_length hf, hl], ?_⟩
  rcases h.2 with ⟨h1, h2⟩ | ⟨g2, cap2, cur, e1, hb, hg, hn, hc, hcs, ht⟩
  · simp at h1
  · simp only [Value.slice.injEq, Option.some.injEq, Addr.mk.injEq, and_true] at e1
    obtain ⟨rfl, -, rfl⟩ := e1
    have hgl : g < w.heap.size := (Array.getElem?_eq_some_iff.1 hg).1
    have hmul : l.length * k ≤ cap * k := Nat.mul_le_mul_right _ hn
    refine .inr ⟨g, cap, Go.Sort.putCells id 0 (Go.Sort.flatK f k l'.toArray) cur, rfl, hb, by rw [sorted_heap f k w g m _ os g hgl, if_pos rfl, hg]; rfl, hn, hc, by simp [Go.Sort.putCells, hcs], ?_⟩
    apply List.ext_getElem?
    intro j
    rw [List.getElem?_take]
    by_cases hj : j < l.length * k
    · have hj2 : j < l'.length * k := by rw [hl]; exact hj
      have hjc : j < cur.size := by omega
      have e2 := flatK_flat f hk hf l' j hj2
      have hs : j < (Go.Sort.flatK f k l'.toArray).size := by simpa using hj2
      rw [if_pos hj, ← e2]
      simp only [Go.Sort.putCells, Array.getElem?_toList, Array.getElem?_mapIdx, Nat.zero_le, true_and, Nat.zero_add, Nat.sub_zero, Array.getElem?_eq_getElem hjc, Option.map_some]
      rw [if_pos hs, getElem!_pos (Go.Sort.flatK f k l'.toArray) j hs, Array.getElem?_eq_getElem hs]
      rfl
    · rw [if_neg hj, List.getElem?_eq_none (by rw [flat_length hf, hl]; omega)]
theorem own_holdsK {α : Type} [Inhabited α] (f : α → List Value) {k : Nat} (hk : 0 < k) (hf : ∀ x, (f x).length = k) (e : TypeId) (w : World) (g cap : Nat) (l : List α)
    (h : w.ownsRow 0 e k (.slice (some ⟨g, 0, none⟩) l.length cap) l.length (l.flatMap f)) : Go.Sort.HoldsK f k w g 0 l.toArray := by
  intro j hj
  have hj' : j < l.length * k := by simpa using hj
  rw [Nat.zero_add]
  refine ⟨?_, h.frozenAt j⟩
  rw [h.cellAt j hj', ← flatK_flat f hk hf l j hj', getElem!_pos (Go.Sort.flatK f k l.toArray) j hj, Array.getElem?_eq_getElem hj]
  rfl
theorem sort_any (cf : AF → AF → Int) (hO : Go.Sort.SWO (ltOf cf)) (gf : Nat) (eg : ∀ args w, (callFunc gf args).run Tryz.prog w = .ok (.enter gf args) w)
    (hcmp : ∀ (x y : AF) (W : World), Calls Tryz.prog gf #[.agg (arcCells x).toArray, .agg (arcCells y).toArray] W fun e w' => e = .returned (.int .i64 (cf x y)) ∧ ∃ q os', w' = Go.Sort.grow (W.drewN q) os')
    (B : Nat) (w : World) (v : Value) (l : List AF) (h : ArcsO B w v l) (hlen : l.length ≤ 4294967296) :
    Calls Tryz.prog 88 #[v, .func (.func gf) #[] #[]] w fun e w' => e = .returned (.tuple #[]) ∧ ∃ l' : List AF, l'.Perm l ∧ l'.Pairwise (fun x y => ltOf cf y x = false) ∧ ArcsO B w' v l' ∧ Only v.ownBlock.toList w w' := by
  by_cases h0 : l.length = 0
  · have hl : l = [] := List.eq_nil_of_length_eq_zero h0
    subst hl
    obtain ⟨ao, cap, rfl⟩ := h.form
    refine (AnyF.slices_SortFunc_none sortArcs ao cap (.func (.func gf) #[] #[]) w).mono ?_
    rintro e w' ⟨rfl, rfl⟩
    exact ⟨rfl, [], List.Perm.refl _, List.Pairwise.nil, h, Only.refl _ _⟩
  · obtain ⟨g, cap, rfl, -, hg⟩ := own_form h.own (by omega)
    have hH := own_holdsK arcCells (by omega) arcCells_len _ w g cap l h.own
    refine (AnyQ.slices_SortFunc sortArcs 3 Tryz.isAgg100 Tryz.sizeOf100 arcCells arcCells_len (fun x v hv => by simp only [arcCells, List.mem_cons, List.not_mem_nil, or_false] at hv; rcases hv with rfl | rfl | rfl <;> rfl) cf hO gf #[] g 0 cap l.toArray w eg
      (fun m os dk _ x y => hcmp x y _) hH hg (by simp; omega)).mono ?_
    rintro e w' ⟨rfl, d', n, os, hp, hs, rfl⟩
    obtain ⟨hsz, -, hperm⟩ := hp
    have e1 : d'.extract 0 l.toArray.size = d' := by rw [← hsz]; exact Array.extract_size
    rw [e1, Array.extract_size] at hperm
    have hl' : d'.toList.length = l.length := by simpa using hsz
    refine ⟨rfl, d'.toList, by simpa using hperm, ?_, ⟨?_, h.new⟩, sorted_only arcCells 3 w g n d' os⟩
    · rw [List.pairwise_iff_getElem]
      intro i j hi hj hij
      have hi' : i < d'.size := by simpa using hi
      have hj' : j < d'.size := by simpa using hj
      have := hs i j (Nat.zero_le _) hij (by omega)
      rw [getElem!_pos d' j hj', getElem!_pos d' i hi'] at this
      simpa using this
    · have := sorted_own arcCells (by omega) arcCells_len 100 w g cap n l d'.toList os hl' h.own
      rw [hl']
      simpa using this
def CmpPost (r : Int) (W : World) (e : Ending) (w' : World) : Prop := e = .returned (.int .i64 r) ∧ ∃ q os', w' = Go.Sort.grow (W.drewN q) os'
set_option maxRecDepth 100000 in
theorem gcmp_any (x y : AF) (W : World) : Calls Tryz.prog 89 #[.agg (arcCells x).toArray, .agg (arcCells y).toArray] W (CmpPost (cmp2 x y) W) := by
  obtain ⟨⟨a, ha⟩, ⟨b, hb⟩, ⟨c, hc⟩⟩ := x
  obtain ⟨⟨a2, ha2⟩, ⟨b2, hb2⟩, ⟨c2, hc2⟩⟩ := y
  unfold cmp2 arcCells
  dsimp only
  by_cases h : a = a2
  · subst h
    rw [if_pos rfl]
    have q1 : ((a : Int) != (a : Int)) = false := by simp
    have q2 : (a != a) = false := by simp
    have c1 := IntWalk.i64_in ((b : Int) - (b2 : Int)) (by omega)
    go_enter Tryz.func89, Tryz.ntmps89
    go_wp2
    go_ret
    exact ⟨rfl, 0, _, by rw [Go.Sort.alloc_eq_grow, Go.Sort.alloc_eq_grow, Go.Sort.grow_grow]; rfl⟩
  · rw [if_neg h]
    have q1 : ((a : Int) != (a2 : Int)) = true := by simp; omega
    have q2 : (a != a2) = true := by simpa using h
    have c1 := IntWalk.i64_in ((a : Int) - (a2 : Int)) (by omega)
    clear h
    go_enter Tryz.func89, Tryz.ntmps89
    go_wp2
    go_ret
    exact ⟨rfl, 0, _, by rw [Go.Sort.alloc_eq_grow, Go.Sort.alloc_eq_grow, Go.Sort.grow_grow]; rfl⟩
theorem compact_any (x y : AF) (W : World) : Calls Tryz.prog 111 #[.agg (arcCells x).toArray, .agg (arcCells y).toArray] W fun e w' => e = .returned (.bool (x.1.val == y.1.val && x.2.1.val == y.2.1.val)) ∧ Below W.heap.size W w' := by
  obtain ⟨⟨a, ha⟩, ⟨b, hb⟩, ⟨c, hc⟩⟩ := x
  obtain ⟨⟨a2, ha2⟩, ⟨b2, hb2⟩, ⟨c2, hc2⟩⟩ := y
  unfold arcCells
  dsimp only
  by_cases h : a = a2
  · subst h
    have q1 : ((a : Int) == (a : Int)) = true := by simp
    have q2 : (a == a) = true := by simp
    rw [q2, Bool.true_and]
    have q3 : ((b : Int) == (b2 : Int)) = (b == b2) := by rw [Bool.eq_iff_iff, beq_iff_eq, beq_iff_eq]; omega
    go_enter Tryz.func111, Tryz.ntmps111
    go_wp2
    go_ret
    exact ⟨by first | rfl | rw [q3], by go_grown⟩
  · have q1 : ((a : Int) == (a2 : Int)) = false := by simp; omega
    have q2 : (a == a2) = false := by simpa using h
    rw [q2, Bool.false_and]
    clear h
    go_enter Tryz.func111, Tryz.ntmps111
    go_wp2
    go_ret
    exact ⟨rfl, by go_grown⟩
theorem nan_any (a : Int) (w : World) : Calls Tryz.prog 148 #[.int .i64 a] w fun e w' => e = .returned (.bool false) ∧ w' = w := by
  have q : (a != a) = false := by simp
  go_enter Tryz.func148, Tryz.ntmps148
  go_wp2
  go_ret
  exact ⟨by simp, rfl⟩
theorem compare_any (a b : Int) (w : World) : Calls Tryz.prog 135 #[.int .i64 a, .int .i64 b] w fun e w' => e = .returned (.int .i64 (cmpI a b)) ∧ w' = w := by
  unfold cmpI
  by_cases h1 : a < b
  · rw [if_pos h1]
    have q1 : decide (a < b) = true := by simpa using h1
    clear h1
    go_enter Tryz.func135, Tryz.ntmps135
    go_wp2_with (go_at_call 148; refine (nan_any _ _).mono ?_; rintro e w' ⟨rfl, rfl⟩)
    go_ret
    exact ⟨rfl, rfl⟩
  · rw [if_neg h1]
    have q1 : decide (a < b) = false := by simpa using h1
    by_cases h2 : b < a
    · rw [if_pos h2]
      have q2 : decide (b < a) = true := by simpa using h2
      have q3 : decide (a > b) = true := by simpa using h2
      clear h1 h2
      go_enter Tryz.func135, Tryz.ntmps135
      go_wp2_with (go_at_call 148; refine (nan_any _ _).mono ?_; rintro e w' ⟨rfl, rfl⟩)
      go_ret
      exact ⟨rfl, rfl⟩
    · rw [if_neg h2]
      have q2 : decide (b < a) = false := by simpa using h2
      have q3 : decide (a > b) = false := by simpa using h2
      clear h1 h2
      go_enter Tryz.func135, Tryz.ntmps135
      go_wp2_with (go_at_call 148; refine (nan_any _ _).mono ?_; rintro e w' ⟨rfl, rfl⟩)
      go_ret
      exact ⟨rfl, rfl⟩
def or3 (a b c : Int) : Int := if a ≠ 0 then a else if b ≠ 0 then b else c
theorem or_any (a b c : Int) (k cap : Nat) (w : World) (h0 : w.cell? ⟨k, 0, none⟩ = some (.int .i64 a)) (h1 : w.cell? ⟨k, 1, none⟩ = some (.int .i64 b)) (h2 : w.cell? ⟨k, 2, none⟩ = some (.int .i64 c)) :
    Calls Tryz.prog 134 #[.slice (some ⟨k, 0, none⟩) 3 cap] w fun e w' => e = .returned (.int .i64 (or3 a b c)) ∧ ∃ q, w' = w.drewN q := by
  unfold or3
  by_cases ha : a = 0
  · rw [if_neg (by simpa using ha)]
    have qa : (a != 0) = false := by simpa using ha
    by_cases hb : b = 0
    · rw [if_neg (by simpa using hb)]
      have qb : (b != 0) = false := by simpa using hb
      clear ha hb
      by_cases hc : c = 0
      · have qc : (c != 0) = false := by simpa using hc
        rw [hc] at h2
        have qc : ((0 : Int) != 0) = false := by simp
        rw [hc]
        clear hc
        go_enter Tryz.func134, Tryz.ntmps134
        go_wp2
        refine wp_loop_rounds 4 ?_
        rw [rounds_succ]
        go_wp2
        rw [rounds_succ]
        go_wp2
        rw [rounds_succ]
        go_wp2
        rw [rounds_succ]
        go_wp2
        go_ret
        exact ⟨rfl, 0, rfl⟩
      · have qc : (c != 0) = true := by simpa using hc
        clear hc
        go_enter Tryz.func134, Tryz.ntmps134
        go_wp2
        refine wp_loop_rounds 4 ?_
        rw [rounds_succ]
        go_wp2
        rw [rounds_succ]
        go_wp2
        rw [rounds_succ]
        go_wp2
        go_ret
        exact ⟨rfl, 0, rfl⟩
    · rw [if_pos (by simpa using hb)]
      have qb : (b != 0) = true := by simpa using hb
      clear ha hb
      go_enter Tryz.func134, Tryz.ntmps134
      go_wp2
      refine wp_loop_rounds 4 ?_
      rw [rounds_succ]
      go_wp2
      rw [rounds_succ]
      go_wp2
      go_ret
      exact ⟨rfl, 0, rfl⟩
  · rw [if_pos (by simpa using ha)]
    have qa : (a != 0) = true := by simpa using ha
    clear ha
    go_enter Tryz.func134, Tryz.ntmps134
    go_wp2
    refine wp_loop_rounds 4 ?_
    rw [rounds_succ]
    go_wp2
    go_ret
    exact ⟨rfl, 0, rfl⟩
theorem or3_cmp (x y : AF) : or3 (cmpI x.1.val y.1.val) (cmpI x.2.1.val y.2.1.val) (cmpI x.2.2.val y.2.2.val) = cmp3 x y := rfl
set_option maxRecDepth 100000 in
set_option maxHeartbeats 400000 in
theorem norder_any (x y : AF) (W : World) : Calls Tryz.prog 109 #[.agg (arcCells x).toArray, .agg (arcCells y).toArray] W (CmpPost (cmp3 x y) W) := by
  rw [← or3_cmp]
  obtain ⟨⟨a, ha⟩, ⟨b, hb⟩, ⟨c, hc⟩⟩ := x
  obtain ⟨⟨a2, ha2⟩, ⟨b2, hb2⟩, ⟨c2, hc2⟩⟩ := y
  unfold arcCells
  dsimp only
  obtain ⟨wz, hwz⟩ : ∃ wz, (W.alloc (.cells #[.int .i64 (a : Int), .int .i64 (b : Int), .int .i64 (c : Int)] 100)).alloc (.cells #[.int .i64 (a2 : Int), .int .i64 (b2 : Int), .int .i64 (c2 : Int)] 100) = wz := ⟨_, rfl⟩
  have x0 : wz.cell? ⟨W.heap.size, 0, none⟩ = some (.int .i64 (a : Int)) := by rw [← hwz]; exact ((Cells.new W 100 [_, _, _]).alloc _).cell rfl
  have x1 : wz.cell? ⟨W.heap.size, 1, none⟩ = some (.int .i64 (b : Int)) := by rw [← hwz]; exact ((Cells.new W 100 [_, _, _]).alloc _).cell rfl
  have x2 : wz.cell? ⟨W.heap.size, 2, none⟩ = some (.int .i64 (c : Int)) := by rw [← hwz]; exact ((Cells.new W 100 [_, _, _]).alloc _).cell rfl
  have hs : (W.alloc (.cells #[.int .i64 (a : Int), .int .i64 (b : Int), .int .i64 (c : Int)] 100)).heap.size = W.heap.size + 1 := by simp
  have y0 : wz.cell? ⟨W.heap.size + 1, 0, none⟩ = some (.int .i64 (a2 : Int)) := by rw [← hwz, ← hs]; exact (Cells.new _ 100 [_, _, _]).cell rfl
  have y1 : wz.cell? ⟨W.heap.size + 1, 1, none⟩ = some (.int .i64 (b2 : Int)) := by rw [← hwz, ← hs]; exact (Cells.new _ 100 [_, _, _]).cell rfl
  have y2 : wz.cell? ⟨W.heap.size + 1, 2, none⟩ = some (.int .i64 (c2 : Int)) := by rw [← hwz, ← hs]; exact (Cells.new _ 100 [_, _, _]).cell rfl
  have C0 := fun w => compare_any (a : Int) a2 w
  have C1 := fun w => compare_any (b : Int) b2 w
  have C2 := fun w => compare_any (c : Int) c2 w
  generalize cmpI (a : Int) a2 = r0 at C0 ⊢
  generalize cmpI (b : Int) b2 = r1 at C1 ⊢
  generalize cmpI (c : Int) c2 = r2 at C2 ⊢
  have HC0 := Lib.hid C0
  have HC1 := Lib.hid C1
  have HC2 := Lib.hid C2
  clear C0 C1 C2
  have HS := Lib.hid hs
  have HW := Lib.hid hwz
  clear hs hwz
  go_enter Tryz.func109, Tryz.ntmps109
  go_upto_region 1 with fail
  rw [HW.out]
  go_still_tail 15, (by kernel_rfl)
  repeat still_step
  still_call (HC0.out _)
  repeat still_step
  still_call (HC1.out _)
  repeat still_step
  still_call (HC2.out _)
  repeat still_step
  refine wpStill_nil ?_
  go_wp2_with fail
  obtain ⟨wv, hwv⟩ : ∃ wv, (wz.alloc (.cells #[.int .i64 r0, .int .i64 r1, .int .i64 r2] 3)).drew = wv := ⟨_, rfl⟩
  have z0 : wv.cell? ⟨wz.heap.size, 0, none⟩ = some (.int .i64 r0) := by rw [← hwv]; exact (Cells.new wz 3 [_, _, _]).drew.cell rfl
  have z1 : wv.cell? ⟨wz.heap.size, 1, none⟩ = some (.int .i64 r1) := by rw [← hwv]; exact (Cells.new wz 3 [_, _, _]).drew.cell rfl
  have z2 : wv.cell? ⟨wz.heap.size, 2, none⟩ = some (.int .i64 r2) := by rw [← hwv]; exact (Cells.new wz 3 [_, _, _]).drew.cell rfl
  first | rw [hwv] | fail
  refine (or_any r0 r1 r2 _ _ wv z0 z1 z2).mono ?_
  rintro e w' ⟨rfl, q, rfl⟩
  go_wp2_with fail
  go_ret
  exact ⟨rfl, 1 + q, _, by
    rw [← hwv, ← HW.out, Go.Sort.alloc_eq_grow, Go.Sort.alloc_eq_grow, Go.Sort.alloc_eq_grow, Go.Sort.grow_grow, Go.Sort.grow_grow]
    unfold World.drew World.drewN Go.Sort.grow
    dsimp only
    rw [Nat.add_assoc]⟩
end Go.Proofs.YtchhbgckonpedaaGreatDoor
