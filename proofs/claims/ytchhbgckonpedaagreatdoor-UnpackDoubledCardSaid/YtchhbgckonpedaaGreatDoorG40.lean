/- viaductref10.at: the place of a link at a rank. -/
import Derived.Test.YtchhbgckonpedaaGreatDoorG39
import Derived.Test.YtchhbgckonpedaaGreatDoorG35
import Derived.Test.YtchhbgckonpedaaGreatDoorG24
namespace Go.Proofs.YtchhbgckonpedaaGreatDoor
open Go.ChangeShapes Go.WideShapes Go.ChangeAt Go.RowKit Go.Joins Go.Deep
theorem See.u32 {w : World} {ao : Option Addr} {cap i x : Nat} {l : List Nat} (h : See w ao cap u32Cells 1 l) (hx : l[i]? = some x) : ∃ b o, ao = some ⟨b, o, none⟩ ∧ w.cell? ⟨b, o + i, none⟩ = some (.int .u32 (x : Int)) := by
  obtain ⟨b, o, e, hc⟩ := h.cell i x hx
  refine ⟨b, o, e, ?_⟩
  have := hc 0 _ rfl
  rwa [Nat.mul_one, Nat.add_zero] at this
set_option linter.unusedSimpArgs false in
set_option maxRecDepth 100000 in
set_option maxHeartbeats 8000000 in
theorem rat_any' (la fa : Option Addr) (lc fc N M : Nat) (ls : List LinkD) (F : List Nat) (m x f g k : Nat) (w : World) (sl : See w la lc linkCells 4 ls) (sf : See w fa fc u32Cells 1 F) (hN : ls.length = N) (hM : F.length = M) (hNb : N ≤ 1048576) (hMb : M ≤ 1048576)
    (hf : F[m]? = some f) (hg : F[m + 1]? = some g) (h1 : f ≤ k) (h2 : k < g) (hgN : g ≤ N) (hx : ∀ l, ls[k]? = some l → l.to = x) (hno : ∀ (j : Nat) l, f ≤ j → j < k → ls[j]? = some l → l.to ≠ x) (hto : ∀ l ∈ ls, l.to < 4294967296) :
    Calls Tryz.prog 77 #[.slice la N lc, .slice fa M fc, .int .i64 (m : Int), .int .i64 (x : Int)] w fun e w' => e = .returned (.int .u32 (k : Int)) ∧ Below w.heap.size w w' := by
  obtain ⟨bf, of, ef, cf⟩ := sf.u32 hf
  obtain ⟨bf', of', ef', cg⟩ := sf.u32 hg
  rw [ef] at ef'
  simp only [Option.some.injEq, Addr.mk.injEq, and_true] at ef'
  obtain ⟨rfl, rfl⟩ := ef'
  obtain ⟨v1, hv1⟩ : ∃ v, m + 1 = v := ⟨_, rfl⟩
  have hmi : (m : Int) + 1 = (v1 : Int) := by omega
  have hmM : v1 < M := by rw [← hM, ← hv1]; exact (List.getElem?_eq_some_iff.1 hg).1
  have hmM0 : m < M := by omega
  have cv1 := IntWalk.i64_in (v1 : Int) (by omega)
  rw [hv1] at cg
  have lf := block_lt cf
  have SL := Lib.hid sl
  have HX := Lib.hid hx
  have HNO := Lib.hid hno
  have HTO := Lib.hid hto
  have HN := Lib.hid hN
  have EF := Lib.hid ef
  have HB := Lib.hid (Below.refl w.heap.size w)
  rw [ef]
  clear sl sf hN hM hf hg hx hno hto ef hv1
  go_enter Tryz.func77, Tryz.ntmps77
  go_wp2_with fail
  go_loopg [9] (k - f) (fun gg vi wr => ∃ i : Nat, vi = .int .u32 i ∧ f ≤ i ∧ i ≤ k ∧ gg = k - i ∧ Below w.heap.size w wr)
  case atStart => exact ⟨f, rfl, Nat.le_refl _, h1, rfl, HB.out⟩
  case round =>
    obtain ⟨i, rfl, hi1, hi2, hgm, hbl⟩ := hrel
    have HG := Lib.hid hgm
    have HBL := Lib.hid hbl
    have cg1 := ck hbl cg
    have lf1 := block_lt cg1
    obtain ⟨l, hl⟩ : ∃ l, ls[i]? = some l := ⟨_, List.getElem?_eq_getElem (by rw [HN.out]; omega)⟩
    obtain ⟨b, o, ea, cc⟩ := SL.out.cell i l hl
    have e0 := ck hbl (cc 0 _ rfl)
    rw [Nat.add_zero] at e0
    have lb := block_lt e0
    have hlt := HTO.out l (List.mem_of_getElem? hl)
    have cto := IntWalk.i64_in (l.to : Int) (by omega)
    have EA := Lib.hid ea
    have q1 : decide ((i : Int) < (g : Int)) = true := by simp; omega
    have q2 : decide (i < g) = true := by simp; omega
    have hiN : i < N := by omega
    have ci := IntWalk.u32_in ((i : Int) + 1) (by omega)
    by_cases hik : i = k
    · have hlx := HX.out l (by rw [← hik]; exact hl)
      subst hik
      rw [hlx] at e0 cto
      clear hgm hbl hl cc ea hlx
      rw [EA.out]
      go_wp2_with fail
      go_ret
      exact ⟨rfl, HBL.out⟩
    · have hne := HNO.out i l hi1 (by omega) hl
      obtain ⟨y, hy⟩ : ∃ y, l.to = y := ⟨_, rfl⟩
      rw [hy] at e0 cto hne
      have q3 : ((y : Int) == (x : Int)) = false := by simp; omega
      have q4 : (y == x) = false := by simp; omega
      have q5 : decide ((y : Int) = (x : Int)) = false := by simp; omega
      clear hgm hbl hl cc ea hne hy
      rw [EA.out]
      go_wp2_with fail
      rw [← EA.out]
      go_roundg (k - (i + 1))
      case measure => rw [HG.out]; omega
      case rel => exact ⟨i + 1, by go_num, by omega, by omega, rfl, HBL.out⟩
def wRow (n r : Nat) : List Value := (List.range n).map fun x => Value.int .u64 (if x = r then 18446744073709551615 else 0)
def vRow (r : Nat) (n k : Nat) : List Value := (List.range n).map fun x => Value.int .i64 (if x < k then ((min r x : Nat) : Int) - 1 else 0)
def rowS (p : Nat → Nat) (n k : Nat) : List Value := (List.range k).map fun r => Value.slice (some ⟨p r, 0, none⟩) n n
theorem rowS_snoc (p : Nat → Nat) (n k : Nat) : rowS p n (k + 1) = rowS p n k ++ [.slice (some ⟨p k, 0, none⟩) n n] := by unfold rowS; rw [List.range_succ, List.map_append]; rfl
theorem rowS_congr {p q : Nat → Nat} {n k : Nat} (h : ∀ r, r < k → p r = q r) : rowS p n k = rowS q n k := by
  unfold rowS
  refine List.map_congr_left fun r hr => ?_
  rw [h r (List.mem_range.1 hr)]
theorem vRow_zero (r n : Nat) : vRow r n 0 = List.replicate n (Value.int .i64 0) := by
  unfold vRow
  apply List.ext_getElem?
  intro j
  rw [List.getElem?_map, List.getElem?_replicate]
  by_cases h : j < n
  · rw [List.getElem?_range h, if_pos h]; simp
  · rw [List.getElem?_eq_none (by simpa using h), if_neg h]; rfl
theorem vRow_set {r n k : Nat} (hk : k < n) : (vRow r n k).set k (.int .i64 (((min r k : Nat) : Int) - 1)) = vRow r n (k + 1) := by
  unfold vRow
  apply List.ext_getElem?
  intro j
  rw [List.getElem?_set]
  simp only [List.length_map, List.length_range, List.getElem?_map]
  by_cases e : k = j
  · subst e
    rw [if_pos rfl, if_pos hk, List.getElem?_range hk]
    simp
  · rw [if_neg e]
    by_cases h : j < n
    · rw [List.getElem?_range h]
      simp only [Option.map_some, Option.some.injEq, Value.int.injEq, true_and]
      by_cases h2 : j < k
      · rw [if_pos h2, if_pos (by omega)]
      · rw [if_neg h2, if_neg (by omega)]
    · rw [List.getElem?_eq_none (by simpa using h)]; rfl
theorem wRow_set {n r : Nat} (hr : r < n) : (List.replicate n (Value.int .u64 0)).set r (.int .u64 18446744073709551615) = wRow n r := by
  unfold wRow
  apply List.ext_getElem?
  intro j
  rw [List.getElem?_set, List.getElem?_map]
  by_cases e : r = j
  · subst e
    rw [if_pos rfl, if_pos (by simpa using hr), List.getElem?_range hr]
    simp
  · rw [if_neg e, List.getElem?_replicate]
    by_cases h : j < n
    · rw [if_pos h, List.getElem?_range h]
      simp only [Option.map_some]
      rw [if_neg (fun h => e h.symm)]
    · rw [if_neg h, List.getElem?_eq_none (by simpa using h)]; rfl
structure DWir (w : World) (B n k : Nat) (p q : Nat → Nat) (vW vV : Value) : Prop where
  ow : w.ownsRow 0 113 1 vW k (rowS p n k)
  ov : w.ownsRow 0 28 1 vV k (rowS q n k)
  cw : ∀ r, r < k → Cells w (p r) 45 (wRow n r)
  cv : ∀ r, r < k → Cells w (q r) 3 (vRow r n n)
  nw : ∀ b, vW.ownBlock = some b → B ≤ b ∧ vV.ownBlock ≠ some b ∧ ∀ r, r < k → p r ≠ b ∧ q r ≠ b
  nv : ∀ b, vV.ownBlock = some b → B ≤ b ∧ ∀ r, r < k → p r ≠ b ∧ q r ≠ b
  nr : ∀ r, r < k → B ≤ p r ∧ B ≤ q r
theorem DWir.below {w w' : World} {B n k : Nat} {p q : Nat → Nat} {vW vV : Value} (h : DWir w B n k p q vW vV) (o : Below w.heap.size w w') : DWir w' B n k p q vW vV :=
  ⟨own_kept (bs := []) h.ow (Only.of_below o) (fun _ _ => by simp), own_kept (bs := []) h.ov (Only.of_below o) (fun _ _ => by simp), fun r hr => (h.cw r hr).below o (h.cw r hr).lt, fun r hr => (h.cv r hr).below o (h.cv r hr).lt, h.nw, h.nv, h.nr⟩
theorem DWir.nil (w : World) (B n : Nat) (p q : Nat → Nat) : DWir w B n 0 p q (.slice none 0 0) (.slice none 0 0) :=
  ⟨World.ownsRow_nil _ _ _ _, World.ownsRow_nil _ _ _ _, fun r hr => absurd hr (Nat.not_lt_zero _), fun r hr => absurd hr (Nat.not_lt_zero _), fun b h => by simp [Value.ownBlock] at h, fun b h => by simp [Value.ownBlock] at h, fun r hr => absurd hr (Nat.not_lt_zero _)⟩
structure DBX (B n a b c m : Nat) (p q : Nat → Nat) (vW vV vl : Value) (wr : World) : Prop where
  ow : wr.ownsRow 0 113 1 vW a (rowS p n a)
  ov : wr.ownsRow 0 28 1 vV b (rowS q n b)
  ol : wr.ownsRow 0 3 1 vl c (nums (List.range c))
  cw : ∀ r, r < m → Cells wr (p r) 45 (wRow n r)
  cv : ∀ r, r < m → Cells wr (q r) 3 (vRow r n n)
  nw : ∀ x, vW.ownBlock = some x → B ≤ x ∧ vV.ownBlock ≠ some x ∧ vl.ownBlock ≠ some x
  nv : ∀ x, vV.ownBlock = some x → B ≤ x ∧ vl.ownBlock ≠ some x
  nl : ∀ x, vl.ownBlock = some x → B ≤ x
  nr : ∀ r, r < m → B ≤ p r ∧ B ≤ q r
  nx : ∀ x, vW.ownBlock = some x ∨ vV.ownBlock = some x ∨ vl.ownBlock = some x → ∀ r, r < m → p r ≠ x ∧ q r ≠ x
namespace DBX
variable {B n a b c m : Nat} {p q : Nat → Nat} {vW vV vl : Value} {wr w5 : World}
theorem nil (B n : Nat) (w : World) (p q : Nat → Nat) : DBX B n 0 0 0 0 p q (.slice none 0 0) (.slice none 0 0) (.slice none 0 0) w :=
  ⟨World.ownsRow_nil _ _ _ _, World.ownsRow_nil _ _ _ _, World.ownsRow_nil _ _ _ _, fun r hr => absurd hr (Nat.not_lt_zero _), fun r hr => absurd hr (Nat.not_lt_zero _), fun x h => by simp [Value.ownBlock] at h, fun x h => by simp [Value.ownBlock] at h, fun x h => by simp [Value.ownBlock] at h, fun r hr => absurd hr (Nat.not_lt_zero _), fun x _ r hr => absurd hr (Nat.not_lt_zero _)⟩
theorem kept {bs : List Nat} (h : DBX B n a b c m p q vW vV vl wr) (o : Only bs wr w5) (hb : ∀ x ∈ bs, x < B) : DBX B n a b c m p q vW vV vl w5 :=
  ⟨own_kept h.ow o (fun x hx hm => by have := hb x hm; have := (h.nw x hx).1; omega), own_kept h.ov o (fun x hx hm => by have := hb x hm; have := (h.nv x hx).1; omega), own_kept h.ol o (fun x hx hm => by have := hb x hm; have := h.nl x hx; omega),
    fun r hr => (h.cw r hr).kept o (fun hm => by have := hb _ hm; have := (h.nr r hr).1; omega), fun r hr => (h.cv r hr).kept o (fun hm => by have := hb _ hm; have := (h.nr r hr).2; omega), h.nw, h.nv, h.nl, h.nr, h.nx⟩
theorem below (h : DBX B n a b c m p q vW vV vl wr) (o : Below wr.heap.size wr w5) : DBX B n a b c m p q vW vV vl w5 := h.kept (bs := []) (Only.of_below o) (fun _ hx => by simp at hx)
theorem rows (h : DBX B n a b c m p q vW vV vl wr) (hB : B ≤ wr.heap.size) {P Q : Nat} (ha : a ≤ m) (hbm : b ≤ m) (hP : wr.heap.size ≤ P) (hQ : wr.heap.size ≤ Q) (o : Below wr.heap.size wr w5) (h1 : Cells w5 P 45 (wRow n m)) (h2 : Cells w5 Q 3 (vRow m n n)) :
    DBX B n a b c (m + 1) (fun r => if r = m then P else p r) (fun r => if r = m then Q else q r) vW vV vl w5 := by
  have g := h.below o
  refine ⟨?_, ?_, g.ol, fun r hr => ?_, fun r hr => ?_, h.nw, h.nv, h.nl, fun r hr => ?_, fun x hx r hr => ?_⟩
  · rw [rowS_congr (q := p) (fun r hr => if_neg (by omega))]; exact g.ow
  · rw [rowS_congr (q := q) (fun r hr => if_neg (by omega))]; exact g.ov
  · by_cases e : r = m
    · subst e; simp only [if_true]; exact h1
    · simp only [e, if_false]; exact g.cw r (by omega)
  · by_cases e : r = m
    · subst e; simp only [if_true]; exact h2
    · simp only [e, if_false]; exact g.cv r (by omega)
  · by_cases e : r = m
    · subst e; simp only [if_true]; omega
    · simp only [e, if_false]; exact h.nr r (by omega)
  · by_cases e : r = m
    · subst e
      simp only [if_true]
      have hl : x < wr.heap.size := by
        rcases hx with hx | hx | hx
        · exact (h.ow.lt x hx).2
        · exact (h.ov.lt x hx).2
        · exact (h.ol.lt x hx).2
      omega
    · simp only [e, if_false]; exact h.nx x hx r (by omega)
theorem old (h : DBX B n a b c m p q vW vV vl wr) {r : Nat} (hr : r < m) {x : Nat} (hx : wr.heap.size ≤ x) : p r ≠ x ∧ q r ≠ x := by
  have h1 := (h.cw r hr).lt
  have h2 := (h.cv r hr).lt
  omega
theorem appL (h : DBX B n a b c m p q vW vV vl wr) (hB : B ≤ wr.heap.size) {v5 : Value} (o : Only vl.ownBlock.toList wr w5) (h5 : w5.ownsRow 0 3 1 v5 (c + 1) (nums (List.range (c + 1)))) (hk : ∀ x, v5.ownBlock = some x → vl.ownBlock = some x ∨ wr.heap.size ≤ x) :
    DBX B n a b (c + 1) m p q vW vV v5 w5 := by
  refine ⟨own_kept h.ow o (fun x hx hm => (h.nw x hx).2.2 (own_mem hm)), own_kept h.ov o (fun x hx hm => (h.nv x hx).2 (own_mem hm)), h5, fun r hr => (h.cw r hr).kept o (fun hm => (h.nx _ (.inr (.inr (own_mem hm))) r hr).1 rfl), fun r hr => (h.cv r hr).kept o (fun hm => (h.nx _ (.inr (.inr (own_mem hm))) r hr).2 rfl),
    fun x hx => ⟨(h.nw x hx).1, (h.nw x hx).2.1, fun e => ?_⟩, fun x hx => ⟨(h.nv x hx).1, fun e => ?_⟩, fun x hx => ?_, h.nr, fun x hx r hr => ?_⟩
  · rcases hk x e with e1 | e1
    · exact (h.nw x hx).2.2 e1
    · have := (h.ow.lt x hx).2; omega
  · rcases hk x e with e1 | e1
    · exact (h.nv x hx).2 e1
    · have := (h.ov.lt x hx).2; omega
  · rcases hk x hx with e1 | e1
    · exact h.nl x e1
    · omega
  · rcases hx with hx | hx | hx
    · exact h.nx x (.inl hx) r hr
    · exact h.nx x (.inr (.inl hx)) r hr
    · rcases hk x hx with e1 | e1
      · exact h.nx x (.inr (.inr e1)) r hr
      · exact h.old hr e1
theorem appW (h : DBX B n a b c m p q vW vV vl wr) (hB : B ≤ wr.heap.size) {v5 : Value} (o : Only vW.ownBlock.toList wr w5) (h5 : w5.ownsRow 0 113 1 v5 (a + 1) (rowS p n (a + 1))) (hk : ∀ x, v5.ownBlock = some x → vW.ownBlock = some x ∨ wr.heap.size ≤ x) :
    DBX B n (a + 1) b c m p q v5 vV vl w5 := by
  refine ⟨h5, own_kept h.ov o (fun x hx hm => (h.nw x (own_mem hm)).2.1 hx), own_kept h.ol o (fun x hx hm => (h.nw x (own_mem hm)).2.2 hx), fun r hr => (h.cw r hr).kept o (fun hm => (h.nx _ (.inl (own_mem hm)) r hr).1 rfl), fun r hr => (h.cv r hr).kept o (fun hm => (h.nx _ (.inl (own_mem hm)) r hr).2 rfl),
    fun x hx => ?_, h.nv, h.nl, h.nr, fun x hx r hr => ?_⟩
  · rcases hk x hx with e1 | e1
    · exact h.nw x e1
    · exact ⟨by omega, fun e => by have := (h.ov.lt x e).2; omega, fun e => by have := (h.ol.lt x e).2; omega⟩
  · rcases hx with hx | hx | hx
    · rcases hk x hx with e1 | e1
      · exact h.nx x (.inl e1) r hr
      · exact h.old hr e1
    · exact h.nx x (.inr (.inl hx)) r hr
    · exact h.nx x (.inr (.inr hx)) r hr
theorem appV (h : DBX B n a b c m p q vW vV vl wr) (hB : B ≤ wr.heap.size) {v5 : Value} (o : Only vV.ownBlock.toList wr w5) (h5 : w5.ownsRow 0 28 1 v5 (b + 1) (rowS q n (b + 1))) (hk : ∀ x, v5.ownBlock = some x → vV.ownBlock = some x ∨ wr.heap.size ≤ x) :
    DBX B n a (b + 1) c m p q vW v5 vl w5 := by
  refine ⟨own_kept h.ow o (fun x hx hm => (h.nw x hx).2.1 (own_mem hm)), h5, own_kept h.ol o (fun x hx hm => (h.nv x (own_mem hm)).2 hx), fun r hr => (h.cw r hr).kept o (fun hm => (h.nx _ (.inr (.inl (own_mem hm))) r hr).1 rfl), fun r hr => (h.cv r hr).kept o (fun hm => (h.nx _ (.inr (.inl (own_mem hm))) r hr).2 rfl),
    fun x hx => ⟨(h.nw x hx).1, fun e => ?_, (h.nw x hx).2.2⟩, fun x hx => ?_, h.nl, h.nr, fun x hx r hr => ?_⟩
  · rcases hk x e with e1 | e1
    · exact (h.nw x hx).2.1 e1
    · have := (h.ow.lt x hx).2; omega
  · rcases hk x hx with e1 | e1
    · exact h.nv x e1
    · exact ⟨by omega, fun e => by have := (h.ol.lt x e).2; omega⟩
  · rcases hx with hx | hx | hx
    · exact h.nx x (.inl hx) r hr
    · rcases hk x hx with e1 | e1
      · exact h.nx x (.inr (.inl e1)) r hr
      · exact h.old hr e1
    · exact h.nx x (.inr (.inr hx)) r hr
theorem wir (h : DBX B n a a c a p q vW vV vl wr) : DWir wr B n a p q vW vV :=
  ⟨h.ow, h.ov, h.cw, h.cv, fun x hx => ⟨(h.nw x hx).1, (h.nw x hx).2.1, h.nx x (.inl hx)⟩, fun x hx => ⟨(h.nv x hx).1, h.nx x (.inr (.inl hx))⟩, h.nr⟩
end DBX
theorem nums_snoc (c : Nat) : nums (List.range (c + 1)) = nums (List.range c) ++ [.int .i64 (c : Int)] := by unfold nums; rw [List.range_succ, List.map_append]; rfl
theorem HSee.kept {bs : List Nat} {w w' : World} {A : HA} {h : HierD} (s : HSee w A h) (o : Only bs w w') (hn : ∀ a ∈ [A.a0, A.a1, A.a2, A.a3, A.a4], ∀ b off, a = some ⟨b, off, none⟩ → b ∉ bs) : HSee w' A h :=
  ⟨s.node.kept o (hn _ (by simp)), s.upF.kept o (hn _ (by simp)), s.up.kept o (hn _ (by simp)), s.dnF.kept o (hn _ (by simp)), s.dn.kept o (hn _ (by simp)), s.bn, s.bu, s.bd, s.bup, s.bdn⟩
def LaidNew (n : Nat) (w : World) (e : Ending) (w' : World) : Prop := ∃ A, e = .returned (hierVal A (dblD n)) ∧ HSee w' A (dblD n) ∧ HForm A ∧ (∀ a ∈ [A.a0, A.a1, A.a2, A.a3, A.a4], ∀ b o, a = some ⟨b, o, none⟩ → w.heap.size ≤ b) ∧ Below w.heap.size w w'
def hierNil : List Value := [.slice none 0 0, .slice none 0 0, .slice none 0 0, .slice none 0 0, .slice none 0 0]
structure DBI (W n k : Nat) (p q : Nat → Nat) (vW vV vl : Value) (w wr : World) : Prop where
  r : Cells wr W 25 hierNil
  c : Cells wr (W + 1) 112 [vW, vV]
  x : DBX (W + 2) n k k k k p q vW vV vl wr
  b : Below W w wr
theorem Tryz.sizeHierX : (Tryz.prog.info? 25).map (·.size) = some 5 := by kernel_rfl
theorem Tryz.infoRowU : (Tryz.prog.info? 113).map (fun i => (i.zero, i.size, i.bytes)) = some (some (.slice none 0 0), 1, 24) := by kernel_rfl
theorem Tryz.infoRowV : (Tryz.prog.info? 28).map (fun i => (i.zero, i.size, i.bytes)) = some (some (.slice none 0 0), 1, 24) := by kernel_rfl
def wNil (n : Nat) : List Value := (List.range n).map fun _ => Value.int .u64 0
theorem made_one' (z : Value) (hz : z.cells = #[z]) (n : Nat) : madeCells z.cells (n * 1) = ((List.range n).map fun _ => z).toArray := by
  have e := madeCells_eq [z] n (by simp)
  have h : ((List.replicate n ()).flatMap fun _ => [z]) = (List.range n).map fun _ => z := by
    apply List.ext_getElem?
    intro j
    have hg := flat_get (f := fun (_ : Unit) => [z]) (sz := 1) (fun _ => rfl) (List.replicate n ()) j 0 (by omega)
    rw [Nat.mul_one, Nat.add_zero] at hg
    rw [hg]
    rcases Nat.lt_or_ge j n with h1 | h1
    · simp [h1]
    · rw [List.getElem?_eq_none (l := List.replicate n ()) (by simpa using h1), List.getElem?_eq_none (l := (List.range n).map _) (by simpa using h1)]; rfl
  rw [h] at e
  rw [hz]
  exact e
theorem wNil_made (n : Nat) : madeCells (Value.int .u64 0).cells (n * 1) = (wNil n).toArray := made_one' _ rfl n
theorem wNil_set {n r : Nat} (hr : r < n) : (wNil n).set r (.int .u64 18446744073709551615) = wRow n r := by
  rw [← wRow_set hr]
  congr 1
  unfold wNil
  apply List.ext_getElem?
  intro j
  by_cases hj : j < n
  · rw [List.getElem?_map, List.getElem?_range hj, List.getElem?_replicate, if_pos hj]; rfl
  · rw [List.getElem?_eq_none (by simpa using hj), List.getElem?_eq_none (by simpa using hj)]
theorem wNil_get {n j : Nat} (hj : j < n) : (wNil n)[j]? = some (.int .u64 0) := by unfold wNil; rw [List.getElem?_map, List.getElem?_range hj]; rfl
theorem vRow_get {r n k j : Nat} (hj : j < n) : (vRow r n k)[j]? = some (.int .i64 (if j < k then ((min r j : Nat) : Int) - 1 else 0)) := by unfold vRow; rw [List.getElem?_map, List.getElem?_range hj]; rfl
theorem vrow_rep (r n : Nat) : madeCells (Value.int .i64 0).cells (n * 1) = (vRow r n 0).toArray := by
  rw [nums_rep, vRow_zero]
  congr 1
  unfold nums
  rw [List.map_replicate]
  rfl
def twoA (n k : Nat) (w : World) : Nat × Nat × World := (w.heap.size, w.heap.size + 1, ((w.alloc (.cells (wNil n).toArray 45)).alloc (.cells (vRow k n 0).toArray 3)).drew)
def twoB (n k : Nat) (w : World) : Nat × Nat × World := (w.heap.size + 1, w.heap.size, ((w.alloc (.cells (vRow k n 0).toArray 3)).alloc (.cells (wNil n).toArray 45)).drew)
structure TwoOk (n k : Nat) (w : World) (T : Nat × Nat × World) : Prop where
  c1 : Cells T.2.2 T.1 45 (wNil n)
  c2 : Cells T.2.2 T.2.1 3 (vRow k n 0)
  ne : T.1 ≠ T.2.1
  lP : w.heap.size ≤ T.1
  lQ : w.heap.size ≤ T.2.1
  b : Below w.heap.size w T.2.2
theorem twoA_ok (n k : Nat) (w : World) : TwoOk n k w (twoA n k w) := by
  refine ⟨((Cells.new w 45 (wNil n)).alloc _).drew, Cells.drew ?_, by simp [twoA], by simp [twoA], by simp [twoA], (((Below.refl _ _).alloc (Nat.le_refl _) _).alloc (by simp) _).drew⟩
  exact cells_at (w := w.alloc (.cells (wNil n).toArray 45)) (b := w.heap.size + 1) (by simp) 3 (vRow k n 0)
theorem twoB_ok (n k : Nat) (w : World) : TwoOk n k w (twoB n k w) := by
  refine ⟨Cells.drew ?_, ((Cells.new w 3 (vRow k n 0)).alloc _).drew, by simp [twoB], by simp [twoB], by simp [twoB], (((Below.refl _ _).alloc (Nat.le_refl _) _).alloc (by simp) _).drew⟩
  exact cells_at (w := w.alloc (.cells (vRow k n 0).toArray 3)) (b := w.heap.size + 1) (by simp) 45 (wNil n)
set_option linter.unusedSimpArgs false in
set_option maxRecDepth 100000 in
set_option maxHeartbeats 8000000 in
theorem doubled_any (n : Nat) (w : World) (hn : n ≤ 256) (hlaid : ∀ (vW vV : Value) (p q : Nat → Nat) (lo : Option Addr) (lc : Nat) (wx : World), DWir wx (w.heap.size + 2) n n p q vW vV → See wx lo lc i64Cells 1 (List.range n) → Calls Tryz.prog 58 #[.agg #[vW, vV], .slice lo n lc] wx (LaidNew n wx)) :
    Calls Tryz.prog 31 #[.int .i64 (n : Int)] w (LaidNew n w) := by
  have LAID := Lib.hid hlaid
  have hmr := run_make_n (P := Tryz.prog) 113 45 (.int .u64 0) 1 8 Tryz.underlying113 Tryz.infoU64 .i64 .i64 n (by omega) (by omega)
  have hmv := run_make_n (P := Tryz.prog) 28 3 (.int .i64 0) 1 8 Tryz.underlying28 Tryz.infoInt .i64 .i64 n (by omega) (by omega)
  clear hlaid
  go_enter Tryz.func31, Tryz.ntmps31
  go_wp2_with fail
  go_loopg [4, 5] n (fun gg vl vr wr => ∃ (k : Nat) (p q : Nat → Nat) (vW vV : Value), vr = .int .i64 k ∧ k ≤ n ∧ gg = n - k ∧ DBI w.heap.size n k p q vW vV vl w wr)
  case atStart => 
    refine ⟨0, fun _ => 0, fun _ => 0, .slice none 0 0, .slice none 0 0, rfl, Nat.zero_le _, rfl, (Cells.new w 25 hierNil).alloc _, ?_, DBX.nil _ _ _ _ _, ((Below.refl _ _).alloc (Nat.le_refl _) _).alloc (by simp) _⟩
    exact cells_at (w := w.alloc (.cells hierNil.toArray 25)) (b := w.heap.size + 1) (by simp) 112 [.slice none 0 0, .slice none 0 0]
  case round =>
    obtain ⟨k, p, q, vW, vV, rfl, hk, hg, hi⟩ := hrel
    obtain ⟨wo, rfl⟩ : ∃ wo, wo = wr := ⟨_, rfl⟩
    have HI := Lib.hid hi
    have HG := Lib.hid hg
    clear hg hi
    by_cases hkl : k < n
    · rw [vrow_rep k n] at hmv
      rw [wNil_made] at hmr
      go_upto_region 6 with fail
      go_region
      all_goals
        dsimp only [Exit.then]
        first
          | rw [show ((wo.alloc (.cells (wNil n).toArray 45)).alloc (.cells (vRow k n 0).toArray 3)).drew = (twoA n k wo).2.2 from rfl, show Value.slice (some ⟨wo.heap.size, 0, none⟩) n n = .slice (some ⟨(twoA n k wo).1, 0, none⟩) n n from rfl, show Value.slice (some ⟨wo.heap.size + 1, 0, none⟩) n n = .slice (some ⟨(twoA n k wo).2.1, 0, none⟩) n n from rfl]
            obtain ⟨c1, c2, ne, lP, lQ, hb⟩ := twoA_ok n k wo
            generalize twoA n k wo = T at c1 c2 ne lP lQ hb ⊢
          | rw [show ((wo.alloc (.cells (vRow k n 0).toArray 3)).alloc (.cells (wNil n).toArray 45)).drew = (twoB n k wo).2.2 from rfl, show Value.slice (some ⟨wo.heap.size, 0, none⟩) n n = .slice (some ⟨(twoB n k wo).2.1, 0, none⟩) n n from rfl, show Value.slice (some ⟨wo.heap.size + 1, 0, none⟩) n n = .slice (some ⟨(twoB n k wo).1, 0, none⟩) n n from rfl]
            obtain ⟨c1, c2, ne, lP, lQ, hb⟩ := twoB_ok n k wo
            generalize twoB n k wo = T at c1 c2 ne lP lQ hb ⊢
        obtain ⟨P, Q, wp⟩ := T
        dsimp only at c1 c2 ne lP lQ hb ⊢
        have LPQ := Lib.hid (And.intro lP lQ)
        go_wp2_with fail
        go_loopg [20] n (fun gg vi wr => ∃ x : Nat, vi = .int .i64 x ∧ x ≤ n ∧ gg = n - x ∧ Cells wr P 45 (wNil n) ∧ Cells wr Q 3 (vRow k n x) ∧ Below wo.heap.size wo wr)
        case atStart => exact ⟨0, rfl, Nat.zero_le _, rfl, c1, c2, hb⟩
        case round =>
          obtain ⟨x, rfl, hx, hgx, d1, d2, hbx⟩ := hrel
          have HGX := Lib.hid hgx
          clear c1 c2 hb hgx
          by_cases hxl : x < n
          · have ov : wr.cell? ⟨Q, x, none⟩ = some (.int .i64 (if x < x then ((min k x : Nat) : Int) - 1 else 0)) := d2.cell (vRow_get hxl)
            have fv := d2.frozen x
            have cx := IntWalk.i64_in ((x : Int) + 1) (by omega)
            have cm := IntWalk.i64_in (min (k : Int) (x : Int) - 1) (by omega)
            have D1 := Lib.hid d1
            have D2 := Lib.hid d2
            have HBX := Lib.hid hbx
            clear d1 d2 hbx
            go_upto_region 11 with fail
            have hmm : min (k : Int) (x : Int) = ((min k x : Nat) : Int) := by omega
            go_wp2_with fail
            go_roundg (n - (x + 1))
            case measure => rw [HGX.out]; omega
            case rel =>
              refine ⟨x + 1, by go_num, by omega, rfl, D1.out.other ne _, ?_, ?_⟩
              · rw [← vRow_set hxl]; exact D2.out.set x _
              · exact (HBX.out.trans ((Only.refl [Q] wr).setCell (p := ⟨Q, x, none⟩) (by simp) _ |>.below (B := wo.heap.size) HBX.out.size (fun q hq => by simp at hq; subst hq; exact LPQ.out.2)))
          · obtain rfl : x = n := by omega
            have o1 : wr.cell? ⟨P, k, none⟩ = some (.int .u64 0) := d1.cell (wNil_get hkl)
            have f1 := d1.frozen k
            have D1 := Lib.hid d1
            have D2 := Lib.hid d2
            have HBX := Lib.hid hbx
            clear d1 d2 hbx
            go_upto_region 13 with fail
            obtain ⟨wq, hwq⟩ : ∃ wq, wr.setCell ⟨P, k, none⟩ (.int .u64 18446744073709551615) = wq := ⟨_, rfl⟩
            rw [hwq]
            have hbq : Below wo.heap.size wo wq := by
              rw [← hwq]
              exact HBX.out.trans ((Only.refl [P] wr).setCell (p := ⟨P, k, none⟩) (by simp) _ |>.below (B := wo.heap.size) HBX.out.size (fun q hq => by simp at hq; subst hq; exact LPQ.out.1))
            have hq1 : Cells wq P 45 (wRow x k) := by rw [← hwq, ← wNil_set hkl]; exact D1.out.set k _
            have hq2 : Cells wq Q 3 (vRow k x x) := by rw [← hwq]; exact D2.out.other (a := ⟨P, k, none⟩) ne.symm _
            have hsz := HI.out.c.lt
            have HX := Lib.hid (HI.out.x.rows (by omega) (Nat.le_refl _) (Nat.le_refl _) LPQ.out.1 LPQ.out.2 hbq hq1 hq2)
            have HC := Lib.hid (HI.out.c.below hbq (by omega))
            have HR := Lib.hid (HI.out.r.below hbq (by omega))
            have HBQ := Lib.hid (HI.out.b.trans (hbq.mono HI.out.b.size))
            have lq : w.heap.size + 2 ≤ wq.heap.size := by have := HC.out.lt; omega
            clear hwq hbq hq1 hq2 o1 f1
            go_wp2_with (at_builtin; refine wpList_app _ rfl _ _ 28 rfl 3 (.int .i64 0) 1 8 Tryz.underlying28 Tryz.infoInt rfl (by decide) u4 k (nums (List.range k)) rfl ?own ⟨wq.heap.size, 0, none⟩ 1 1 [.int .i64 (k : Int)] rfl rfl ?c1 ?c2 ?c3 ?c4 ?_)
            case own => exact own_kept (bs := []) HX.out.ol ((Only.refl _ wq).alloc _) (fun q _ => by simp)
            case c1 => exact cells_new wq 3 [.int .i64 (k : Int)]
            case c2 => intro u hu; simp at hu; subst hu; rfl
            case c3 => unfold maxLen; omega
            case c4 => omega
            intro ao5 cap5 w5 hown5 ho5 hk5
            have hO5 : Only (u4.ownBlock.toList) wq w5 := ((Only.refl _ wq).alloc _).trans ho5 (fun q hq => .inl hq)
            have HX5 := Lib.hid (HX.out.appL lq hO5 (by rw [nums_snoc]; exact hown5) (fun q hq => (hk5 q hq).imp id (fun h => Nat.le_trans (by simp) h)))
            have hnl : ∀ b : Nat, b < w.heap.size + 2 → b ∉ u4.ownBlock.toList := fun b hb hm => by have := HX.out.nl b (own_mem hm); omega
            have HC5 := Lib.hid (HC.out.kept hO5 (hnl _ (by omega)))
            have HR5 := Lib.hid (HR.out.kept hO5 (hnl _ (by omega)))
            have HB5 := Lib.hid (HBQ.out.trans (hO5.below (B := w.heap.size) (by omega) (fun q hq => by have := HX.out.nl q (own_mem hq); omega)))
            have x0 : w5.cell? ⟨w.heap.size + 1, 0, none⟩ = some vW := HC5.out.cell rfl
            have l5 : w.heap.size + 1 < w5.heap.size := HC5.out.lt
            have lq5 : w.heap.size + 2 ≤ w5.heap.size := l5
            clear hown5 ho5 hk5 hO5 hnl HX HC HBQ lq
            go_wp2_with (at_builtin; refine wpList_app _ rfl _ _ 110 rfl 113 (.slice none 0 0) 1 24 Tryz.underlying110 Tryz.infoRowU rfl (by decide) vW k (rowS (fun r => if r = k then P else p r) x k) rfl ?own ⟨w5.heap.size, 0, none⟩ 1 1 [.slice (some ⟨P, 0, none⟩) x x] rfl rfl ?c1 ?c2 ?c3 ?c4 ?_)
            case own => exact own_kept (bs := []) HX5.out.ow ((Only.refl _ w5).alloc _) (fun q _ => by simp)
            case c1 => exact cells_new w5 113 [.slice (some ⟨P, 0, none⟩) x x]
            case c2 => intro u hu; simp at hu; subst hu; rfl
            case c3 => unfold maxLen; omega
            case c4 => omega
            intro ao7 cap7 w7 hown7 ho7 hk7
            have hO7 : Only (vW.ownBlock.toList) w5 w7 := ((Only.refl _ w5).alloc _).trans ho7 (fun q hq => .inl hq)
            have HX7 := Lib.hid (HX5.out.appW lq5 hO7 (by rw [rowS_snoc, if_pos rfl]; exact hown7) (fun q hq => (hk7 q hq).imp id (fun h => Nat.le_trans (by simp) h)))
            have hnl : ∀ b : Nat, b < w.heap.size + 2 → b ∉ vW.ownBlock.toList := fun b hb hm => by have := (HX5.out.nw b (own_mem hm)).1; omega
            have HC7 := Lib.hid (HC5.out.kept hO7 (hnl _ (by omega)))
            have HR7 := Lib.hid (HR5.out.kept hO7 (hnl _ (by omega)))
            have HRz := Lib.hid (HR7.out.other (a := ⟨w.heap.size + 1, 0, none⟩) (by simp) (.slice ao7 (k + 1) cap7))
            have HB7 := Lib.hid (HB5.out.trans (hO7.below (B := w.heap.size) (by omega) (fun q hq => by have := (HX5.out.nw q (own_mem hq)).1; omega)))
            have l7 : w.heap.size + 1 < w7.heap.size := HC7.out.lt
            have x0 : w7.cell? ⟨w.heap.size + 1, 0, none⟩ = some vW := HC7.out.cell rfl
            have f0 := HC7.out.frozen 0
            clear hown7 ho7 hk7 hO7 hnl HX5 HC5 HB5 l5 lq5
            go_upto_region 15 with fail
            obtain ⟨wz, hwz⟩ : ∃ wz, w7.setCell ⟨w.heap.size + 1, 0, none⟩ (.slice ao7 (k + 1) cap7) = wz := ⟨_, rfl⟩
            have hOz : Only [w.heap.size + 1] w7 wz := by rw [← hwz]; exact (Only.refl _ w7).setCell (p := ⟨w.heap.size + 1, 0, none⟩) (by simp) _
            have HXz := Lib.hid (HX7.out.kept hOz (fun q hq => by simp at hq; omega))
            have HCz : Hid (Cells wz (w.heap.size + 1) 112 [.slice ao7 (k + 1) cap7, vV]) := by rw [← hwz]; exact HC7.out.set 0 _
            have HBz := Lib.hid (HB7.out.trans (hOz.below (B := w.heap.size) (by omega) (fun q hq => by simp at hq; omega)))
            have x1 : wz.cell? ⟨w.heap.size + 1, 1, none⟩ = some vV := HCz.out.cell rfl
            have lz : w.heap.size + 1 < wz.heap.size := HCz.out.lt
            have lqz : w.heap.size + 2 ≤ wz.heap.size := lz
            rw [hwz] at HRz ⊢
            clear hwz hOz HX7 HC7 HB7 l7 x0 f0
            go_wp2_with (at_builtin; refine wpList_app _ rfl _ _ 68 rfl 28 (.slice none 0 0) 1 24 Tryz.underlying68 Tryz.infoRowV rfl (by decide) vV k (rowS (fun r => if r = k then Q else q r) x k) rfl ?own ⟨wz.heap.size, 0, none⟩ 1 1 [.slice (some ⟨Q, 0, none⟩) x x] rfl rfl ?c1 ?c2 ?c3 ?c4 ?_)
            case own => exact own_kept (bs := []) HXz.out.ov ((Only.refl _ wz).alloc _) (fun q _ => by simp)
            case c1 => exact cells_new wz 28 [.slice (some ⟨Q, 0, none⟩) x x]
            case c2 => intro u hu; simp at hu; subst hu; rfl
            case c3 => unfold maxLen; omega
            case c4 => omega
            intro ao9 cap9 w9 hown9 ho9 hk9
            have hO9 : Only (vV.ownBlock.toList) wz w9 := ((Only.refl _ wz).alloc _).trans ho9 (fun q hq => .inl hq)
            have HX9 := Lib.hid (HXz.out.appV lqz hO9 (by rw [rowS_snoc, if_pos rfl]; exact hown9) (fun q hq => (hk9 q hq).imp id (fun h => Nat.le_trans (by simp) h)))
            have hnl : ∀ b : Nat, b < w.heap.size + 2 → b ∉ vV.ownBlock.toList := fun b hb hm => by have := (HXz.out.nv b (own_mem hm)).1; omega
            have HC9 := Lib.hid (HCz.out.kept hO9 (hnl _ (by omega)))
            have HR9 := Lib.hid (HRz.out.kept hO9 (hnl _ (by omega)))
            have HB9 := Lib.hid (HBz.out.trans (hO9.below (B := w.heap.size) (by omega) (fun q hq => by have := (HXz.out.nv q (own_mem hq)).1; omega)))
            have l9 : w.heap.size + 1 < w9.heap.size := HC9.out.lt
            have x1 : w9.cell? ⟨w.heap.size + 1, 1, none⟩ = some vV := HC9.out.cell rfl
            have f1 := HC9.out.frozen 1
            clear hown9 ho9 hk9 hO9 hnl HXz HCz HBz lz lqz
            go_wp2_with fail
            have hOy : Only [w.heap.size + 1] w9 (w9.setCell ⟨w.heap.size + 1, 1, none⟩ (.slice ao9 (k + 1) cap9)) := (Only.refl _ w9).setCell (p := ⟨w.heap.size + 1, 1, none⟩) (by simp) _
            have HXy := Lib.hid (HX9.out.kept hOy (fun q hq => by simp at hq; omega))
            have HCy := Lib.hid (HC9.out.set 1 (.slice ao9 (k + 1) cap9))
            have HBy := Lib.hid (HB9.out.trans (hOy.below (B := w.heap.size) (by omega) (fun q hq => by simp at hq; omega)))
            have HRy := Lib.hid (HR9.out.kept hOy (by simp))
            clear hOy
            go_roundg (x - (k + 1))
            case measure => rw [HG.out]; omega
            case rel => exact ⟨k + 1, _, _, _, _, by go_num, by omega, rfl, ⟨HRy.out, HCy.out, HXy.out, HBy.out⟩⟩
    · obtain rfl : k = n := by omega
      have x0 : wo.cell? ⟨w.heap.size + 1, 0, none⟩ = some vW := HI.out.c.cell rfl
      have x1 : wo.cell? ⟨w.heap.size + 1, 1, none⟩ = some vV := HI.out.c.cell rfl
      have lo := HI.out.c.lt
      obtain ⟨ao, cap, rfl⟩ := own_form' HI.out.x.ol
      have sl : See wo ao cap i64Cells 1 (List.range k) := by
        have := HI.out.x.ol
        rw [nums_flat] at this
        exact (See.of_own i64Cells_len this (by omega)).1
      have SL := Lib.hid sl
      clear sl
      go_wp2_with fail
      refine (LAID.out vW vV p q ao cap wo HI.out.x.wir SL.out).mono ?_
      rintro e w1 ⟨A, rfl, hs, hf, hnw, hb⟩
      have HS := Lib.hid (And.intro hs (And.intro hf (And.intro hnw (HI.out.b.trans (hb.mono HI.out.b.size)))))
      have hr1 := HI.out.r.below hb (by omega)
      have f0 := hr1.frozen 0
      have f1 := hr1.frozen 1
      have f2 := hr1.frozen 2
      have f3 := hr1.frozen 3
      have f4 := hr1.frozen 4
      have k0 : w1.cell? ⟨w.heap.size, 0, none⟩ = some (.slice none 0 0) := hr1.cell rfl
      have k1 : w1.cell? ⟨w.heap.size, 1, none⟩ = some (.slice none 0 0) := hr1.cell rfl
      have k2 : w1.cell? ⟨w.heap.size, 2, none⟩ = some (.slice none 0 0) := hr1.cell rfl
      have k3 : w1.cell? ⟨w.heap.size, 3, none⟩ = some (.slice none 0 0) := hr1.cell rfl
      have k4 : w1.cell? ⟨w.heap.size, 4, none⟩ = some (.slice none 0 0) := hr1.cell rfl
      have l1 := hr1.lt
      have HR1 := Lib.hid hr1
      clear hs hf hnw hb hr1
      unfold hierVal
      go_wp2_with fail
      refine bodyPost_ret (results_e rfl _ _ w.heap.size 25 [.slice A.a0 (dblD k).node.length A.c0, .slice A.a1 (dblD k).upF.length A.c1, .slice A.a2 (dblD k).up.length A.c2, .slice A.a3 (dblD k).dnF.length A.c3, .slice A.a4 (dblD k).dn.length A.c4] _ rfl (((((HR1.out.set 0 _).set 1 _).set 2 _).set 3 _).set 4 _) Tryz.underlying25 rfl (by rw [Tryz.sizeHierX]; rfl)) rfl ?_
      obtain ⟨wy, hwy⟩ : ∃ wy, (((((w1.setCell ⟨w.heap.size, 0, none⟩ (.slice A.a0 (dblD k).node.length A.c0)).setCell ⟨w.heap.size, 1, none⟩ (.slice A.a1 (dblD k).upF.length A.c1)).setCell ⟨w.heap.size, 2, none⟩ (.slice A.a2 (dblD k).up.length A.c2)).setCell ⟨w.heap.size, 3, none⟩ (.slice A.a3 (dblD k).dnF.length A.c3)).setCell ⟨w.heap.size, 4, none⟩ (.slice A.a4 (dblD k).dn.length A.c4)) = wy := ⟨_, rfl⟩
      have hOy : Only [w.heap.size] w1 wy := by
        rw [← hwy]
        exact (((((Only.refl [w.heap.size] w1).setCell (p := ⟨w.heap.size, 0, none⟩) (by simp) _).setCell (p := ⟨w.heap.size, 1, none⟩) (by simp) _).setCell (p := ⟨w.heap.size, 2, none⟩) (by simp) _).setCell (p := ⟨w.heap.size, 3, none⟩) (by simp) _).setCell (p := ⟨w.heap.size, 4, none⟩) (by simp) _
      rw [hwy]
      have hwo : w.heap.size ≤ wo.heap.size := HI.out.b.size
      have hlo : w.heap.size < wo.heap.size := by omega
      refine ⟨A, rfl, HS.out.1.kept hOy (fun a ha b o e hm => ?_), HS.out.2.1, fun a ha b o e => Nat.le_trans hwo (HS.out.2.2.1 a ha b o e), HS.out.2.2.2.trans (hOy.below (B := w.heap.size) (by omega) (fun q hq => by simp at hq; omega))⟩
      have h1 := HS.out.2.2.1 a ha b o e
      simp at hm
      omega
end Go.Proofs.YtchhbgckonpedaaGreatDoor
