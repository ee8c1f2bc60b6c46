/- viaductref10.Laid: a hierarchy under way in memory. -/
import Derived.Test.YtchhbgckonpedaaGreatDoorG41
import Derived.Test.YtchhbgckonpedaaGreatDoorG40
namespace Go.Proofs.YtchhbgckonpedaaGreatDoor
open Go.ChangeShapes Go.WideShapes Go.ChangeAt Go.RowKit Go.Joins Go.Deep
def five {α : Type} [Inhabited α] (a b c d e : α) : Nat → α
  | 0 => a
  | 1 => b
  | 2 => c
  | 3 => d
  | 4 => e
  | _ => default
def upd {α : Type} (f : Nat → α) (i : Nat) (x : α) : Nat → α := fun j => if j = i then x else f j
theorem upd_same {α : Type} (f : Nat → α) (i : Nat) (x : α) : upd f i x i = x := by simp [upd]
theorem upd_other {α : Type} (f : Nat → α) {i j : Nat} (x : α) (h : j ≠ i) : upd f i x j = f j := by simp [upd, h]
def hty : Nat → TypeId := five 62 62 65 62 65
def hsz : Nat → Nat := five 1 1 4 1 4
theorem own_set {w : World} {e : TypeId} {size : Nat} {v : Value} {n : Nat} {xs : List Value} (h : w.ownsRow 0 e size v n xs) {g : Nat} (hg : v.ownBlock = some g) {j : Nat} (u : Value) : (w.setCell ⟨g, j, none⟩ u).ownsRow 0 e size v n (xs.set j u) := by
  refine ⟨by rw [List.length_set]; exact h.1, ?_⟩
  rcases h.2 with ⟨rfl, _⟩ | ⟨g', cap, cur, rfl, hb, hgg, h1, h2, h3, h4⟩
  · simp [Value.ownBlock] at hg
  · simp only [Value.ownBlock, Option.some.injEq] at hg
    subst hg
    have hs := heap_setCell_same w g' j cur e u hgg
    refine .inr ⟨g', cap, _, rfl, hb, hs, h1, h2, ?_, ?_⟩
    · simpa using h3
    · rw [← h4]
      simp [List.take_set]
theorem own_cell {w : World} {e : TypeId} {size : Nat} {v : Value} {n : Nat} {xs : List Value} (h : w.ownsRow 0 e size v n xs) {g : Nat} (hg : v.ownBlock = some g) {j : Nat} {u : Value} (hj : xs[j]? = some u) : w.cell? ⟨g, j, none⟩ = some u := by
  have := h.cells hg j u hj
  rwa [show (⟨g, 0, none⟩ : Addr).add j = ⟨g, j, none⟩ by unfold Addr.add; split <;> simp_all] at this
theorem own_frozen {w : World} {e : TypeId} {size : Nat} {v : Value} {n : Nat} {xs : List Value} (h : w.ownsRow 0 e size v n xs) {g : Nat} (hg : v.ownBlock = some g) (j : Nat) : w.frozen? ⟨g, j, none⟩ = false := by
  rcases h.2 with ⟨rfl, _⟩ | ⟨g', cap, cur, rfl, hb, hgg, h1, h2, h3, h4⟩
  · simp [Value.ownBlock] at hg
  · simp only [Value.ownBlock, Option.some.injEq] at hg
    subst hg
    exact frozen_of_row w g' j cur e hgg
structure HBX (B G : Nat) (v : Nat → Value) (n : Nat → Nat) (xs : Nat → List Value) (wr : World) : Prop where
  c : Cells wr G 25 ((List.range 5).map v)
  own : ∀ i, i < 5 → wr.ownsRow 0 (hty i) (hsz i) (v i) (n i) (xs i)
  ge : ∀ i, i < 5 → ∀ x, (v i).ownBlock = some x → B ≤ x ∧ x ≠ G
  ne : ∀ i j, i < 5 → j < 5 → i ≠ j → ∀ x, (v i).ownBlock = some x → (v j).ownBlock ≠ some x
  bg : B ≤ G
theorem range_upd {v : Nat → Value} {i : Nat} (x : Value) : ((List.range 5).map v).set i x = (List.range 5).map (upd v i x) := by
  apply List.ext_getElem?
  intro j
  rw [List.getElem?_set, List.getElem?_map, List.getElem?_map]
  by_cases hj : j < 5
  · rw [List.getElem?_range hj]
    by_cases e : i = j
    · subst e; rw [if_pos rfl, if_pos (by simpa using hj)]; simp [upd]
    · rw [if_neg e]; simp only [Option.map_some]; rw [upd_other _ _ (fun h : j = i => e h.symm)]
  · rw [List.getElem?_eq_none (l := List.range 5) (by simpa using hj)]
    by_cases e : i = j
    · subst e; rw [if_pos rfl, if_neg (by simpa using hj)]; rfl
    · rw [if_neg e]; rfl
namespace HBX
variable {B G : Nat} {v : Nat → Value} {n : Nat → Nat} {xs : Nat → List Value} {wr w5 : World}
theorem kept {bs : List Nat} (h : HBX B G v n xs wr) (o : Only bs wr w5) (hb : ∀ x ∈ bs, x < B) : HBX B G v n xs w5 :=
  ⟨h.c.kept o (fun hm => by have := hb _ hm; have := h.bg; omega), fun i hi => own_kept (h.own i hi) o (fun x hx hm => by have := hb x hm; have := (h.ge i hi x hx).1; omega), h.ge, h.ne, h.bg⟩
theorem below (h : HBX B G v n xs wr) (o : Below wr.heap.size wr w5) : HBX B G v n xs w5 := h.kept (bs := []) (Only.of_below o) (fun _ hx => by simp at hx)
theorem c5 (h : HBX B G v n xs wr) : Cells wr G 25 [v 0, v 1, v 2, v 3, v 4] := h.c
theorem get (_ : HBX B G v n xs wr) {i : Nat} (hi : i < 5) : ((List.range 5).map v)[i]? = some (v i) := by rw [List.getElem?_map, List.getElem?_range hi]; rfl
theorem app (h : HBX B G v n xs wr) {i m : Nat} (hi : i < 5) (hB : B ≤ wr.heap.size) {v5 : Value} {news : List Value} (o : Only (v i).ownBlock.toList wr w5) (h5 : w5.ownsRow 0 (hty i) (hsz i) v5 (n i + m) (xs i ++ news)) (hk : ∀ x, v5.ownBlock = some x → (v i).ownBlock = some x ∨ wr.heap.size ≤ x) :
    HBX B G (upd v i v5) (upd n i (n i + m)) (upd xs i (xs i ++ news)) (w5.setCell ⟨G, i, none⟩ v5) := by
  have hG : G ∉ (v i).ownBlock.toList := fun hm => (h.ge i hi G (own_mem hm)).2 rfl
  have hc := h.c.kept o hG
  have hz := h.c.lt
  have o2 : Only [G] w5 (w5.setCell ⟨G, i, none⟩ v5) := (Only.refl [G] w5).setCell (p := ⟨G, i, none⟩) (by simp) _
  have hv5 : v5.ownBlock ≠ some G := fun e => by
    rcases hk G e with e1 | e1
    · exact (h.ge i hi G e1).2 rfl
    · omega
  refine ⟨?_, fun j hj => ?_, fun j hj x hx => ?_, fun j k hj hk' hne x hx => ?_, h.bg⟩
  · rw [← range_upd]; exact hc.set i v5
  · by_cases e : j = i
    · subst e
      rw [upd_same, upd_same, upd_same]
      exact own_kept h5 o2 (fun q hq hm => by simp at hm; subst hm; exact hv5 hq)
    · rw [upd_other _ _ e, upd_other _ _ e, upd_other _ _ e]
      exact own_kept (own_kept (h.own j hj) o (fun q hq hm => h.ne j i hj hi e q hq (own_mem hm))) o2 (fun q hq hm => by simp at hm; subst hm; exact (h.ge j hj _ hq).2 rfl)
  · by_cases e : j = i
    · subst e
      rw [upd_same] at hx
      refine ⟨?_, fun e => hv5 (e ▸ hx)⟩
      rcases hk x hx with e1 | e1
      · exact (h.ge j hi x e1).1
      · omega
    · rw [upd_other _ _ e] at hx
      exact h.ge j hj x hx
  · by_cases e : j = i
    · subst e
      rw [upd_same] at hx
      rw [upd_other _ _ hne.symm]
      rcases hk x hx with e1 | e1
      · exact h.ne j k hj hk' hne x e1
      · intro e2
        have := ((h.own k hk').lt x e2).2
        omega
    · rw [upd_other _ _ e] at hx
      by_cases e2 : k = i
      · subst e2
        rw [upd_same]
        intro e3
        rcases hk x e3 with e1 | e1
        · exact h.ne j k hj hk' hne x hx e1
        · have := ((h.own j hj).lt x hx).2
          omega
      · rw [upd_other _ _ e2]
        exact h.ne j k hj hk' hne x hx
theorem app_below {A : World} {W : Nat} (h : HBX B G v n xs wr) {i : Nat} (hi : i < 5) (hW : W ≤ B) (hb : Below W A wr) (hB : B ≤ wr.heap.size) (o : Only (v i).ownBlock.toList wr w5) (v5 : Value) : Below W A (w5.setCell ⟨G, i, none⟩ v5) := by
  have o2 : Only [G] w5 (w5.setCell ⟨G, i, none⟩ v5) := (Only.refl [G] w5).setCell (p := ⟨G, i, none⟩) (by simp) _
  have b1 : Below W wr w5 := o.below (by omega) (fun x hx => by have := (h.ge i hi x (own_mem hx)).1; omega)
  exact (hb.trans b1).trans (o2.below (by have := b1.size; omega) (fun x hx => by simp at hx; have := h.bg; omega))
theorem set (h : HBX B G v n xs wr) {i g j : Nat} (hi : i < 5) (hg : (v i).ownBlock = some g) (u : Value) : HBX B G v n (upd xs i ((xs i).set j u)) (wr.setCell ⟨g, j, none⟩ u) := by
  have o2 : Only [g] wr (wr.setCell ⟨g, j, none⟩ u) := (Only.refl [g] wr).setCell (p := ⟨g, j, none⟩) (by simp) _
  refine ⟨h.c.kept o2 (fun hm => by simp at hm; subst hm; exact (h.ge i hi _ hg).2 rfl), fun k hk => ?_, h.ge, h.ne, h.bg⟩
  by_cases e : k = i
  · subst e
    rw [upd_same]
    exact own_set (h.own k hi) hg u
  · rw [upd_other _ _ e]
    exact own_kept (h.own k hk) o2 (fun q hq hm => by simp at hm; subst hm; exact h.ne k i hk hi e _ hq hg)
end HBX
def plL (_ r j : Nat) : LinkD := LinkD.mk (r + 1 + j) 0 (4294967295) (4294967295)
def plU (n : Nat) : List LinkD := (List.range n).flatMap (rowOf plL n)
def frs (n : Nat) : List Nat := (List.range (n + 1)).map (dU n)
def plH (n : Nat) : HierD := { node := List.range n, upF := frs n, up := plU n, dnF := frs n, dn := plU n }
theorem plU_len (n : Nat) : (plU n).length = dU n n := flat_len (rowOf plL n) n (row_len plL n) n
theorem plU_get {n r j : Nat} (hr : r < n) (hj : j < n - 1 - r) : (plU n)[dU n r + j]? = some (plL n r j) := by
  unfold plU
  rw [flat_at _ n (row_len plL n) hr hj, row_get plL hj]
theorem up_get {n r j : Nat} (hr : r < n) (hj : j < n - 1 - r) : (dblD n).up[dU n r + j]? = some (upL n r j) := by
  show ((List.range n).flatMap (rowOf upL n))[dU n r + j]? = _
  rw [flat_at _ n (row_len upL n) hr hj, row_get upL hj]
theorem dn_get {n r j : Nat} (hr : r < n) (hj : j < n - 1 - r) : (dblD n).dn[dU n r + j]? = some (dnL n r j) := by
  show ((List.range n).flatMap (rowOf dnL n))[dU n r + j]? = _
  rw [flat_at _ n (row_len dnL n) hr hj, row_get dnL hj]
theorem frs_get {n r : Nat} (hr : r ≤ n) : (frs n)[r]? = some (dU n r) := by unfold frs; rw [List.getElem?_map, List.getElem?_range (by omega)]; rfl
theorem frs_len (n : Nat) : (frs n).length = n + 1 := by simp [frs]
theorem frs_ok (n : Nat) : FirstsOk n (frs n) (dU n n) := by
  refine ⟨frs_len n, firstD n 0 (Nat.zero_le _), fun r hr => ?_, firstD n n (Nat.le_refl _)⟩
  have h1 := firstD n r (by omega)
  have h2 := firstD n (r + 1) (by omega)
  unfold frs
  rw [h1, h2]
  exact dU_mono n (by omega)
theorem ends_pl (n : Nat) : endsOf (plH n) = (List.range n).flatMap (fun r => (List.range (n - 1 - r)).map fun j => ⟨plL n r j, r, r + 1 + j, r⟩) ++ (List.range n).flatMap (fun r => (List.range (n - 1 - r)).map fun j => ⟨plL n r j, r + 1 + j, r, r⟩) := by
  unfold endsOf
  have hn : (plH n).node.length = n := by simp [plH]
  rw [hn]
  congr 1
  · refine flatMap_congr_range n fun r hr => ?_
    unfold endsUp
    rw [show seg (plH n).upF (plH n).up r = rowOf plL n r from seg_row plL hr]
    unfold rowOf
    rw [List.map_map]
    exact List.map_congr_left fun j _ => rfl
  · refine flatMap_congr_range n fun r hr => ?_
    unfold endsDn
    rw [show seg (plH n).dnF (plH n).dn r = rowOf plL n r from seg_row plL hr]
    unfold rowOf
    rw [List.map_map]
    exact List.map_congr_left fun j _ => rfl
theorem pl_len (n : Nat) : (endsOf (plH n)).length = dU n n + dU n n := by
  rw [ends_pl, List.length_append, flat_len _ n (fun r => by simp), flat_len _ n (fun r => by simp)]
theorem pl_up {n r j : Nat} (hr : r < n) (hj : j < n - 1 - r) : (endsOf (plH n))[dU n r + j]? = some ⟨plL n r j, r, r + 1 + j, r⟩ := by
  rw [ends_pl]
  have hl := flat_len (fun r => (List.range (n - 1 - r)).map fun j => (⟨plL n r j, r, r + 1 + j, r⟩ : EndD)) n (fun r => by simp) n
  rw [List.getElem?_append_left (by rw [hl]; exact dU_in hr hj), flat_at _ n (fun r => by simp) hr hj, List.getElem?_map, List.getElem?_range hj]
  rfl
theorem pl_dn {n r j : Nat} (hr : r < n) (hj : j < n - 1 - r) : (endsOf (plH n))[dU n n + (dU n r + j)]? = some ⟨plL n r j, r + 1 + j, r, r⟩ := by
  rw [ends_pl]
  have hl := flat_len (fun r => (List.range (n - 1 - r)).map fun j => (⟨plL n r j, r, r + 1 + j, r⟩ : EndD)) n (fun r => by simp) n
  rw [List.getElem?_append_right (by rw [hl]; omega), hl, Nat.add_sub_cancel_left, flat_at _ n (fun r => by simp) hr hj, List.getElem?_map, List.getElem?_range hj]
  rfl
theorem pl_ok {n : Nat} (hn : n ≤ 256) : ∀ l ∈ plU n, l.ok := by
  intro l hl
  unfold plU at hl
  simp only [List.mem_flatMap, List.mem_range, rowOf, List.mem_map] at hl
  obtain ⟨r, hr, j, hj, rfl⟩ := hl
  refine ⟨?_, ?_, ?_, ?_⟩ <;> simp [plL] <;> omega
theorem upL_ok {n r j : Nat} (hn : n ≤ 256) (hr : r < n) (hj : j < n - 1 - r) : (upL n r j).ok := by
  have h1 := dbl_small hn
  have h2 := dU_mono n (show r - 1 ≤ n by omega)
  unfold upL
  split <;> refine ⟨?_, ?_, ?_, ?_⟩ <;> simp <;> omega
theorem dnL_ok {n r j : Nat} (hn : n ≤ 256) (hr : r < n) (hj : j < n - 1 - r) : (dnL n r j).ok := by
  have h1 := dbl_small hn
  have h2 := dU_mono n (show r - 1 ≤ n by omega)
  unfold dnL
  split <;> refine ⟨?_, ?_, ?_, ?_⟩ <;> simp <;> omega
theorem dbl_ok {n : Nat} (hn : n ≤ 256) : (∀ l ∈ (dblD n).up, l.ok) ∧ ∀ l ∈ (dblD n).dn, l.ok := by
  constructor
  · intro l hl
    simp only [dblD, List.mem_flatMap, List.mem_range, rowOf, List.mem_map] at hl
    obtain ⟨r, hr, j, hj, rfl⟩ := hl
    exact upL_ok hn hr hj
  · intro l hl
    simp only [dblD, List.mem_flatMap, List.mem_range, rowOf, List.mem_map] at hl
    obtain ⟨r, hr, j, hj, rfl⟩ := hl
    exact dnL_ok hn hr hj
def mix {α : Type} (l m : List α) (i : Nat) : List α := l.take i ++ m.drop i
theorem mix_get {α : Type} {l m : List α} {i : Nat} (hi : i ≤ l.length) (k : Nat) : (mix l m i)[k]? = if k < i then l[k]? else m[k]? := by
  unfold mix
  by_cases h : k < i
  · rw [if_pos h, List.getElem?_append_left (by rw [List.length_take]; omega), List.getElem?_take, if_pos h]
  · rw [if_neg h, List.getElem?_append_right (by rw [List.length_take]; omega), List.getElem?_drop, List.length_take, Nat.min_eq_left hi]
    congr 1
    omega
theorem mix_len {α : Type} {l m : List α} {i : Nat} (hi : i ≤ l.length) (h : l.length = m.length) : (mix l m i).length = l.length := by
  unfold mix
  rw [List.length_append, List.length_take, List.length_drop]
  omega
theorem mix_zero {α : Type} (l m : List α) : mix l m 0 = m := by simp [mix]
theorem mix_set {α : Type} {l m : List α} {i : Nat} {x : α} (hx : l[i]? = some x) (h : l.length = m.length) : (mix l m i).set i x = mix l m (i + 1) := by
  have hi := (List.getElem?_eq_some_iff.1 hx).1
  apply List.ext_getElem?
  intro k
  rw [List.getElem?_set, mix_len (by omega) h, mix_get (by omega), mix_get (by omega)]
  by_cases e : i = k
  · subst e; rw [if_pos rfl, if_pos hi, if_pos (by omega), hx]
  · rw [if_neg e]
    by_cases h2 : k < i
    · rw [if_pos h2, if_pos (by omega)]
    · rw [if_neg h2, if_neg (by omega)]
theorem mix_same {α : Type} {l m : List α} {i : Nat} (hi : i < l.length) (hx : l[i]? = m[i]?) : mix l m i = mix l m (i + 1) := by
  apply List.ext_getElem?
  intro k
  rw [mix_get (by omega), mix_get (by omega)]
  by_cases h2 : k < i
  · rw [if_pos h2, if_pos (by omega)]
  · rw [if_neg h2]
    by_cases e : k = i
    · subst e; rw [if_pos (by omega), hx]
    · rw [if_neg (by omega)]
structure Tos (n : Nat) (ls : List LinkD) : Prop where
  len : ls.length = dU n n
  tt : ∀ r j, r < n → j < n - 1 - r → ∀ l, ls[dU n r + j]? = some l → l.to = r + 1 + j
theorem tos_row {f : Nat → Nat → Nat → LinkD} (n : Nat) (hf : ∀ r j, (f n r j).to = r + 1 + j) : Tos n ((List.range n).flatMap (rowOf f n)) := by
  refine ⟨flat_len (rowOf f n) n (row_len f n) n, fun r j hr hj l hl => ?_⟩
  rw [flat_at _ n (row_len f n) hr hj, row_get f hj] at hl
  simp only [Option.some.injEq] at hl
  rw [← hl]
  exact hf r j
theorem tos_up (n : Nat) : Tos n (dblD n).up := tos_row (f := upL) n (upL_to n)
theorem tos_dn (n : Nat) : Tos n (dblD n).dn := tos_row (f := dnL) n (dnL_to n)
theorem tos_pl (n : Nat) : Tos n (plU n) := tos_row (f := plL) n (fun _ _ => rfl)
theorem Tos.mix {n i : Nat} {l m : List LinkD} (a : Tos n l) (b : Tos n m) (hi : i ≤ dU n n) : Tos n (mix l m i) := by
  refine ⟨by rw [mix_len (by rw [a.len]; exact hi) (by rw [a.len, b.len]), a.len], fun r j hr hj x hx => ?_⟩
  rw [mix_get (by rw [a.len]; exact hi)] at hx
  split at hx
  · exact a.tt r j hr hj x hx
  · exact b.tt r j hr hj x hx
theorem Tos.small {n : Nat} {ls : List LinkD} (t : Tos n ls) (hn : n ≤ 256) : ∀ l ∈ ls, l.to < 4294967296 := by
  intro l hl
  obtain ⟨k, hk⟩ := List.getElem?_of_mem hl
  have hk2 : k < dU n n := by rw [← t.len]; exact (List.getElem?_eq_some_iff.1 hk).1
  obtain ⟨r, j, hr, hj, rfl⟩ := dU_split n n k hk2
  rw [t.tt r j hr hj l hk]
  omega
set_option linter.unusedSimpArgs false in
theorem lat_any (n m j x : Nat) (ls : List LinkD) (la fa : Option Addr) (lc fc : Nat) (w : World) (sl : See w la lc linkCells 4 ls) (sf : See w fa fc u32Cells 1 (frs n)) (t : Tos n ls) (hn : n ≤ 256) (hm : m < n) (hj : j < n - 1 - m) (hx : m + 1 + j = x) :
    Calls Tryz.prog 77 #[.slice la (dU n n) lc, .slice fa (n + 1) fc, .int .i64 (m : Int), .int .i64 (x : Int)] w fun e w' => e = .returned (.int .u32 ((dU n m + j : Nat) : Int)) ∧ Below w.heap.size w w' := by
  have h1 := dbl_small hn
  refine rat_any' la fa lc fc (dU n n) (n + 1) ls (frs n) m x (dU n m) (dU n (m + 1)) (dU n m + j) w sl sf t.len (frs_len n) (by omega) (by omega) (frs_get (by omega)) (frs_get (by omega)) (by omega) ?_ (dU_mono n (by omega)) ?_ ?_ (t.small hn)
  · simp only [dU]; omega
  · intro l hl
    rw [t.tt m j hm hj l hl]
    exact hx
  · intro k l h2 h3 hl
    have := t.tt m (k - dU n m) hm (by omega) l (by rw [show dU n m + (k - dU n m) = k by omega]; exact hl)
    omega
def linkS (n r j : Nat) : List LinkD := (List.range r).flatMap (rowOf plL n) ++ (List.range j).map (plL n r)
def frS (n r : Nat) : List Nat := (List.range (r + 1)).map (dU n)
theorem linkS_snoc (n r j : Nat) : linkS n r (j + 1) = linkS n r j ++ [plL n r j] := by unfold linkS; rw [List.range_succ, List.map_append, List.append_assoc]; rfl
theorem linkS_row (n r : Nat) : linkS n r (n - 1 - r) = linkS n (r + 1) 0 := by
  unfold linkS
  rw [List.range_succ, List.flatMap_append]
  simp [rowOf]
theorem linkS_all (n : Nat) : linkS n n 0 = plU n := by unfold linkS plU; simp
theorem frS_snoc (n r : Nat) : frS n (r + 1) = frS n r ++ [dU n (r + 1)] := by unfold frS; rw [List.range_succ, List.map_append]; rfl
def laX (k : Nat) (F : List Nat) (U : List LinkD) (G : List Nat) (D : List LinkD) : Nat → List Value := five ((List.range k).flatMap u32Cells) (F.flatMap u32Cells) (U.flatMap linkCells) (G.flatMap u32Cells) (D.flatMap linkCells)
structure LAX (n G : Nat) (vW vV : Value) (v : Nat → Value) (nn : Nat → Nat) (xs : Nat → List Value) (w wr : World) : Prop where
  bx : Cells wr w.heap.size 112 [vW, vV]
  rs : Cells wr (w.heap.size + 1) 25 hierNil
  m : HBX (w.heap.size + 2) G v nn xs wr
  b : Below w.heap.size w wr
theorem five_cases {i : Nat} (hi : i < 5) : i = 0 ∨ i = 1 ∨ i = 2 ∨ i = 3 ∨ i = 4 := by omega
def laW (w : World) (vW vV : Value) : World := ((((w.alloc (.cells #[vW, vV] 112)).alloc (.cells #[.slice none 0 0, .slice none 0 0, .slice none 0 0, .slice none 0 0, .slice none 0 0] 25)).alloc (.cells #[.int .u32 0] 62)).alloc (.cells #[.int .u32 0] 62)).alloc (.cells #[.slice none 0 0, .slice (some ⟨w.heap.size + 1 + 1, 0, none⟩) 1 1, .slice none 0 0, .slice (some ⟨w.heap.size + 1 + 1 + 1, 0, none⟩) 1 1, .slice none 0 0] 25)
theorem one_own {w : World} {b : Nat} {t : TypeId} {u : Value} (h : Cells w b t [u]) : w.ownsRow 0 t 1 (.slice (some ⟨b, 0, none⟩) 1 1) 1 [u] :=
  ⟨rfl, .inr ⟨b, 1, _, rfl, Nat.zero_le _, h, Nat.le_refl _, by unfold maxLen; omega, rfl, rfl⟩⟩
theorem lax_start (n G : Nat) (vW vV : Value) (w : World) (hG : G = w.heap.size + 4) :
    LAX n G vW vV (five (.slice none 0 0) (.slice (some ⟨w.heap.size + 1 + 1, 0, none⟩) 1 1) (.slice none 0 0) (.slice (some ⟨w.heap.size + 1 + 1 + 1, 0, none⟩) 1 1) (.slice none 0 0)) (five 0 1 0 1 0) (laX 0 [0] [] [0] []) w (laW w vW vV) := by
  subst hG
  have c0 : Cells (laW w vW vV) w.heap.size 112 [vW, vV] := ((((Cells.new w 112 [vW, vV]).alloc _).alloc _).alloc _).alloc _
  have c1 : Cells (laW w vW vV) (w.heap.size + 1) 25 hierNil := (((cells_at (w := w.alloc (.cells #[vW, vV] 112)) (b := w.heap.size + 1) (by simp) 25 hierNil).alloc _).alloc _).alloc _
  have c2 : Cells (laW w vW vV) (w.heap.size + 1 + 1) 62 [.int .u32 0] := ((cells_at (w := (w.alloc (.cells #[vW, vV] 112)).alloc (.cells #[.slice none 0 0, .slice none 0 0, .slice none 0 0, .slice none 0 0, .slice none 0 0] 25)) (b := w.heap.size + 1 + 1) (by simp) 62 [.int .u32 0]).alloc _).alloc _
  have c3 : Cells (laW w vW vV) (w.heap.size + 1 + 1 + 1) 62 [.int .u32 0] := (cells_at (w := ((w.alloc (.cells #[vW, vV] 112)).alloc (.cells #[.slice none 0 0, .slice none 0 0, .slice none 0 0, .slice none 0 0, .slice none 0 0] 25)).alloc (.cells #[.int .u32 0] 62)) (b := w.heap.size + 1 + 1 + 1) (by simp) 62 [.int .u32 0]).alloc _
  have c4 : Cells (laW w vW vV) (w.heap.size + 4) 25 [.slice none 0 0, .slice (some ⟨w.heap.size + 1 + 1, 0, none⟩) 1 1, .slice none 0 0, .slice (some ⟨w.heap.size + 1 + 1 + 1, 0, none⟩) 1 1, .slice none 0 0] := cells_at (by simp) 25 _
  have b1 : Below w.heap.size w (laW w vW vV) := (((((Below.refl _ _).alloc (Nat.le_refl _) _).alloc (by simp) _).alloc (by simp; omega) _).alloc (by simp; omega) _).alloc (by simp; omega) _
  refine ⟨c0, c1, ⟨c4, fun i hi => ?_, fun i hi x hx => ?_, fun i j hi hj hne x hx => ?_, by omega⟩, b1⟩
  · rcases five_cases hi with rfl | rfl | rfl | rfl | rfl
    · exact World.ownsRow_nil _ _ _ _
    · exact one_own c2
    · exact World.ownsRow_nil _ _ _ _
    · exact one_own c3
    · exact World.ownsRow_nil _ _ _ _
  · rcases five_cases hi with rfl | rfl | rfl | rfl | rfl <;> simp [five, Value.ownBlock] at hx <;> omega
  · rcases five_cases hi with rfl | rfl | rfl | rfl | rfl <;> rcases five_cases hj with rfl | rfl | rfl | rfl | rfl <;> simp [five, Value.ownBlock] at hx hne ⊢ <;> omega
theorem upd_five0 {α : Type} [Inhabited α] (a b c d e x : α) : upd (five a b c d e) 0 x = five x b c d e := by funext i; rcases i with _ | _ | _ | _ | _ | i <;> rfl
theorem upd_five1 {α : Type} [Inhabited α] (a b c d e x : α) : upd (five a b c d e) 1 x = five a x c d e := by funext i; rcases i with _ | _ | _ | _ | _ | i <;> rfl
theorem upd_five2 {α : Type} [Inhabited α] (a b c d e x : α) : upd (five a b c d e) 2 x = five a b x d e := by funext i; rcases i with _ | _ | _ | _ | _ | i <;> rfl
theorem upd_five3 {α : Type} [Inhabited α] (a b c d e x : α) : upd (five a b c d e) 3 x = five a b c x e := by funext i; rcases i with _ | _ | _ | _ | _ | i <;> rfl
theorem upd_five4 {α : Type} [Inhabited α] (a b c d e x : α) : upd (five a b c d e) 4 x = five a b c d x := by funext i; rcases i with _ | _ | _ | _ | _ | i <;> rfl
theorem laX_d {k : Nat} {F : List Nat} {U : List LinkD} {G : List Nat} {D : List LinkD} (l : LinkD) : upd (laX k F U G D) 4 (laX k F U G D 4 ++ linkCells l) = laX k F U G (D ++ [l]) := by unfold laX; rw [upd_five4, List.flatMap_append, List.flatMap_cons, List.flatMap_nil, List.append_nil]; rfl
theorem laX_f {k : Nat} {F : List Nat} {U : List LinkD} {G : List Nat} {D : List LinkD} (m : Nat) : upd (laX k F U G D) 1 (laX k F U G D 1 ++ [.int .u32 (m : Int)]) = laX k (F ++ [m]) U G D := by unfold laX; rw [upd_five1, List.flatMap_append, List.flatMap_cons, List.flatMap_nil, List.append_nil]; rfl
theorem laX_g {k : Nat} {F : List Nat} {U : List LinkD} {G : List Nat} {D : List LinkD} (m : Nat) : upd (laX k F U G D) 3 (laX k F U G D 3 ++ [.int .u32 (m : Int)]) = laX k F U (G ++ [m]) D := by unfold laX; rw [upd_five3, List.flatMap_append, List.flatMap_cons, List.flatMap_nil, List.append_nil]; rfl
theorem rowS_get {p : Nat → Nat} {n k r : Nat} (h : r < k) : (rowS p n k)[r]? = some (.slice (some ⟨p r, 0, none⟩) n n) := by unfold rowS; rw [List.getElem?_map, List.getElem?_range h]; rfl
theorem wRow_get {n r x : Nat} (h : x < n) (hne : x ≠ r) : (wRow n r)[x]? = some (.int .u64 0) := by unfold wRow; rw [List.getElem?_map, List.getElem?_range h]; simp [hne]
theorem LAX.kept {n G : Nat} {vW vV : Value} {v : Nat → Value} {nn : Nat → Nat} {xs : Nat → List Value} {w wr w' : World} (h : LAX n G vW vV v nn xs w wr) (o : Below wr.heap.size wr w') : LAX n G vW vV v nn xs w w' :=
  ⟨h.bx.below o h.bx.lt, h.rs.below o h.rs.lt, h.m.below o, h.b.trans (o.mono h.b.size)⟩
theorem LAX.app {n G : Nat} {vW vV : Value} {v : Nat → Value} {nn : Nat → Nat} {xs : Nat → List Value} {w wr w5 : World} (h : LAX n G vW vV v nn xs w wr) {i m : Nat} (hi : i < 5) {v5 : Value} {news : List Value} (o : Only (v i).ownBlock.toList wr w5) (h5 : w5.ownsRow 0 (hty i) (hsz i) v5 (nn i + m) (xs i ++ news)) (hk : ∀ x, v5.ownBlock = some x → (v i).ownBlock = some x ∨ wr.heap.size ≤ x) :
    LAX n G vW vV (upd v i v5) (upd nn i (nn i + m)) (upd xs i (xs i ++ news)) w (w5.setCell ⟨G, i, none⟩ v5) := by
  have hz := h.m.c.lt
  have hg := h.m.bg
  have o2 : Only [G] w5 (w5.setCell ⟨G, i, none⟩ v5) := (Only.refl [G] w5).setCell (p := ⟨G, i, none⟩) (by simp) _
  have hlow : ∀ b : Nat, b < w.heap.size + 2 → b ∉ (v i).ownBlock.toList := fun b hb hm => by have := (h.m.ge i hi b (own_mem hm)).1; omega
  exact ⟨(h.bx.kept o (hlow _ (by omega))).kept o2 (by simp; omega), (h.rs.kept o (hlow _ (by omega))).kept o2 (by simp; omega), h.m.app hi (by omega) o h5 hk, h.m.app_below hi (by omega) h.b (by omega) o v5⟩
theorem LAX.set {n G : Nat} {vW vV : Value} {v : Nat → Value} {nn : Nat → Nat} {xs : Nat → List Value} {w wr : World} (h : LAX n G vW vV v nn xs w wr) {i g j : Nat} (hi : i < 5) (hg : (v i).ownBlock = some g) (u : Value) :
    LAX n G vW vV v nn (upd xs i ((xs i).set j u)) w (wr.setCell ⟨g, j, none⟩ u) := by
  have h1 := (h.m.ge i hi g hg).1
  have o2 : Only [g] wr (wr.setCell ⟨g, j, none⟩ u) := (Only.refl [g] wr).setCell (p := ⟨g, j, none⟩) (by simp) _
  exact ⟨h.bx.kept o2 (by simp; omega), h.rs.kept o2 (by simp; omega), h.m.set hi hg u, h.b.trans (o2.below h.b.size (fun x hx => by simp at hx; omega))⟩
theorem lat_lit (n m j x a T : Nat) (ls : List LinkD) (la fa : Option Addr) (lc fc : Nat) (w : World) (sl : See w la lc linkCells 4 ls) (sf : See w fa fc u32Cells 1 (frs n)) (t : Tos n ls) (hT : dU n n = T) (hn : n ≤ 256) (hm : m < n) (hj : j < n - 1 - m) (hx : m + 1 + j = x) (ha : dU n m + j = a) :
    Calls Tryz.prog 77 #[.slice la T lc, .slice fa (n + 1) fc, .int .i64 (m : Int), .int .i64 (x : Int)] w fun e w' => e = .returned (.int .u32 (a : Int)) ∧ Below w.heap.size w w' := by
  rw [← hT, ← ha]
  exact lat_any n m j x ls la fa lc fc w sl sf t hn hm hj hx
set_option linter.unusedSimpArgs false in
set_option maxRecDepth 100000 in
set_option maxHeartbeats 8000000 in
theorem laid_kid {s0 s1 s2 s3 s4 s5 s7 s8 s9 s10 s11 s14 s15 s16 s17 s18 s19 s20 s21 s22 s23 s24 s25 s26 s27 s28 s29 s30 s31 s32 s33 s34 s35 s36 s37 s38 s39 s40 s41 s42 s43 s44 s45 s46 s47 s48 s49 s50 s51 s52 s53 s54 s55 s56 s57 s58 s59 s60 s61 s62 s63 s64 s65 s66 s67 s68 s69 s70 s71 s72 s73 s74 s75 s76 s77 s78 s79 s80 s81 s82 s83 s84 s85 s86 s87 s88 s89 s90 s91 s92 s93 s94 s95 s96 s97 s98 s99 s100 s101 s102 s103 s104 s105 s106 s107 s108 s109 s110 s111 s112 s113 s114 s115 s116 s117 s118 s119 s120 s121 s122 s123 s124 s125 s126 s127 s128 s129 s130 s131 s132 s133 s134 s135 s136 s137 s138 s139 s140 s141 s142 s143 s144 s145 s146 s147 s148 s149 s150 s151 s152 s153 s154 s155 s156 s157 s158 s159 s160 s161 s162 s163 s164 s165 s166 s167 s168 s169 s170 s171 s172 s173 s174 s175 s176 s177 s178 s179 s180 s181 s182 s183 s184 s185 s186 s187 s188 s189 s190 s191 s192 s193 s194 : Value} {n m j1 j2 tl hd a b c T G E c1 c2 c3 c4 : Nat} {a1 a2 a3 a4 : Option Addr} {lu ld : List LinkD} {W : World} {Q : Exit → Act → World → Prop}
    (k1 : W.cell? ⟨G, 1, none⟩ = some (.slice a1 (n + 1) c1)) (k2 : W.cell? ⟨G, 2, none⟩ = some (.slice a2 T c2)) (k3 : W.cell? ⟨G, 3, none⟩ = some (.slice a3 (n + 1) c3)) (k4 : W.cell? ⟨G, 4, none⟩ = some (.slice a4 T c4)) (e0 : W.cell? ⟨E, 0, none⟩ = some (.int .i64 (tl : Int))) (e1 : W.cell? ⟨E, 1, none⟩ = some (.int .i64 (hd : Int)))
    (z1 : See W a1 c1 u32Cells 1 (frs n)) (z2 : See W a2 c2 linkCells 4 lu) (z3 : See W a3 c3 u32Cells 1 (frs n)) (z4 : See W a4 c4 linkCells 4 ld) (tu : Tos n lu) (td : Tos n ld) (hT : dU n n = T) (hn : n ≤ 256) (hm : m < n)
    (hj1 : j1 < n - 1 - m) (hj2 : j2 < n - 1 - m) (h1 : m + 1 + j1 = tl) (h2 : m + 1 + j2 = hd) (ha : dU n m + j1 = a) (hb : dU n m + j2 = b) (hc : T + a = c)
    (hQ : ∀ (t135 t136 t137 t138 t139 t140 t141 t142 t143 t144 t145 t146 t147 t148 t149 t150 t151 t152 t153 t154 t155 : Value) (W' : World), Below W.heap.size W W' → Q .normal ⟨#[s0, s1, s2, s3, s4, s5, .pointer (some ⟨G, 0, none⟩), s7, s8, s9, s10, s11, .pointer (some ⟨E, 0, none⟩), .int .i64 (m : Int), .int .u32 (c : Int), .int .u32 (b : Int), s16, s17, s18, s19, s20, s21, s22, s23, s24, s25, s26, s27, s28, s29, s30, s31, s32, s33, s34, s35, s36, s37, s38, s39, s40, s41, s42, s43, s44, s45, s46, s47, s48, s49, s50, s51, s52, s53, s54, s55, s56, s57, s58, s59, s60, s61, s62, s63, s64, s65, s66, s67, s68, s69, s70, s71, s72, s73, s74, s75, s76, s77, s78, s79, s80, s81, s82, s83, s84, s85, s86, s87, s88, s89, s90, s91, s92, s93, s94, s95, s96, s97, s98, s99, s100, s101, s102, s103, s104, s105, s106, s107, s108, s109, s110, s111, s112, s113, s114, s115, s116, s117, s118, s119, s120, s121, s122, s123, s124, s125, s126, s127, s128, s129, s130, s131, s132, s133, s134, t135, t136, t137, t138, t139, t140, t141, t142, t143, t144, t145, t146, t147, t148, t149, t150, t151, t152, t153, t154, t155, s156, s157, s158, s159, s160, s161, s162, s163, s164, s165, s166, s167, s168, s169, s170, s171, s172, s173, s174, s175, s176, s177, s178, s179, s180, s181, s182, s183, s184, s185, s186, s187, s188, s189, s190, s191, s192, s193, s194], []⟩ W') :
    Code.wp Tryz.prog ((regionAt 25 laBody).getD .skip) Q ⟨#[s0, s1, s2, s3, s4, s5, .pointer (some ⟨G, 0, none⟩), s7, s8, s9, s10, s11, .pointer (some ⟨E, 0, none⟩), .int .i64 (m : Int), s14, s15, s16, s17, s18, s19, s20, s21, s22, s23, s24, s25, s26, s27, s28, s29, s30, s31, s32, s33, s34, s35, s36, s37, s38, s39, s40, s41, s42, s43, s44, s45, s46, s47, s48, s49, s50, s51, s52, s53, s54, s55, s56, s57, s58, s59, s60, s61, s62, s63, s64, s65, s66, s67, s68, s69, s70, s71, s72, s73, s74, s75, s76, s77, s78, s79, s80, s81, s82, s83, s84, s85, s86, s87, s88, s89, s90, s91, s92, s93, s94, s95, s96, s97, s98, s99, s100, s101, s102, s103, s104, s105, s106, s107, s108, s109, s110, s111, s112, s113, s114, s115, s116, s117, s118, s119, s120, s121, s122, s123, s124, s125, s126, s127, s128, s129, s130, s131, s132, s133, s134, s135, s136, s137, s138, s139, s140, s141, s142, s143, s144, s145, s146, s147, s148, s149, s150, s151, s152, s153, s154, s155, s156, s157, s158, s159, s160, s161, s162, s163, s164, s165, s166, s167, s168, s169, s170, s171, s172, s173, s174, s175, s176, s177, s178, s179, s180, s181, s182, s183, s184, s185, s186, s187, s188, s189, s190, s191, s192, s193, s194], []⟩ W := by
  have hTs : T ≤ 65536 := by rw [← hT]; exact dbl_small hn
  have has : a < T := by rw [← hT, ← ha]; exact dU_in (by omega) hj1
  have HQ := Lib.hid hQ
  have S1 := Lib.hid z1
  have S2 := Lib.hid z2
  have S3 := Lib.hid z3
  have S4 := Lib.hid z4
  have TU := Lib.hid tu
  have TD := Lib.hid td
  have hci : (T : Int) + (a : Int) = (c : Int) := by omega
  have cT := IntWalk.u32_in (T : Int) (by omega)
  have cc := IntWalk.u32_in (c : Int) (by omega)
  have lG := block_lt k1
  have lE := block_lt e0
  have HT := Lib.hid hT
  have H1 := Lib.hid h1
  have H2 := Lib.hid h2
  have HAA := Lib.hid ha
  have HBB := Lib.hid hb
  clear hQ z1 z2 z3 z4 tu td hT h1 h2 ha hb hc
  conv => arg 2; whnf
  go_region_held3 (fun X => X.cell? ⟨G, 1, none⟩ = some (.slice a1 (n + 1) c1) ∧ X.cell? ⟨G, 2, none⟩ = some (.slice a2 T c2) ∧ X.cell? ⟨G, 3, none⟩ = some (.slice a3 (n + 1) c3) ∧ X.cell? ⟨G, 4, none⟩ = some (.slice a4 T c4) ∧ X.cell? ⟨E, 0, none⟩ = some (.int .i64 (tl : Int)) ∧ X.cell? ⟨E, 1, none⟩ = some (.int .i64 (hd : Int))) (go_keep)
    (first
      | (go_at_call 77; (with_reducible refine (lat_lit n m j1 tl a T ld a4 a3 c4 c3 _ (S4.out.below (Below.refl _ _).drew) (S3.out.below (Below.refl _ _).drew) TD.out HT.out hn hm hj1 H1.out HAA.out).mono ?_); rintro e w2 ⟨rfl, hb2⟩; (have B2 := Lib.hid ((Below.refl W.heap.size W).drew.trans hb2)); (have m0 := ck hb2 k1); (have m1 := ck hb2 k2); (have m2 := ck hb2 k3); (have m3 := ck hb2 k4); (have m4 := ck hb2 e0); (have m5 := ck hb2 e1))
      | (go_at_call 77; (with_reducible refine (lat_lit n m j2 hd b T lu a2 a1 c2 c1 _ (S2.out.below B2.out) (S1.out.below B2.out) TU.out HT.out hn hm hj2 H2.out HBB.out).mono ?_); rintro e w3 ⟨rfl, hb3⟩; (have B3 := Lib.hid (B2.out.trans (hb3.mono B2.out.size))); (have n0 := ck hb3 m0); (have n1 := ck hb3 m1); (have n2 := ck hb3 m2); (have n3 := ck hb3 m3); (have n4 := ck hb3 m4); (have n5 := ck hb3 m5)))
  exact HQ.out _ _ _ _ _ _ _ _ _ _ _ _ _ _ _ _ _ _ _ _ _ _ B3.out
end Go.Proofs.YtchhbgckonpedaaGreatDoor
