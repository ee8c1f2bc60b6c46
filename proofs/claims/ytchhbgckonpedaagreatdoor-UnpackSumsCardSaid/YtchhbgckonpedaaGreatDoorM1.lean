/- Lemmas on worlds that every contract uses: what is left as it was, rows of cells, and how a law's row follows from its walk. -/
import Derived.Test.YtchhbgckonpedaaGreatDoorRows
import Derived.WalkKit
import Derived.WalkSpells
import Derived.WalkLawsBesides
import Derived.ProofKit
import Derived.OpenShut
import Derived.Outline
import Derived.Handy
import Derived.Laws.Bits64
import Derived.Laws.BitsLemmas
import Derived.Deep.QuietTactic
import Derived.BigQuiet
import Derived.BigRegion
import Derived.Deep.RegionHeld3
import Derived.Deep.DeepFit
import Derived.Deep.LoopGhost
import Derived.Lib.Hide
import Derived.Lib.SmallJoins
import Derived.Laws.AppendOwn
import Derived.Laws.MakeOwn
import Derived.OwnWalk
import Derived.Deep.OwnRows
import Derived.StillTailTactics
namespace Go.Proofs.YtchhbgckonpedaaGreatDoor
open Go.ChangeShapes Go.WideShapes Go.ChangeAt Go.RowKit Go.Joins Go.Deep

theorem ret_int {k : IntKind} {a b : Int} (h : a = b) : Ending.returned (.int k a) = .returned (.int k b) := by rw [h]

/-- What was there when a call began reads as it did. -/
theorem bcell {W w1 : World} (hb : Below W.heap.size W w1) : (∀ b o, b < W.heap.size → w1.cell? ⟨b, o, none⟩ = W.cell? ⟨b, o, none⟩) ∧ (∀ b o, b < W.heap.size → w1.frozen? ⟨b, o, none⟩ = W.frozen? ⟨b, o, none⟩) :=
  ⟨fun b o h => hb.cell (p := ⟨b, o, none⟩) h, fun b o h => hb.frozen (p := ⟨b, o, none⟩) h⟩
theorem bt {a b c : World} (h : Below a.heap.size a b) (k : Below b.heap.size b c) : Below a.heap.size a c := h.trans (k.mono h.size)

theorem ck {W w1 : World} {b o : Nat} {v : Value} (hb : Below W.heap.size W w1) (h : W.cell? ⟨b, o, none⟩ = some v) : w1.cell? ⟨b, o, none⟩ = some v :=
  (hb.cell (p := ⟨b, o, none⟩) (World.block_lt_of_cell? W _ h)).trans h

/-- But for the blocks bs (and new ones) nothing has turned. -/
structure Only (bs : List Nat) (w w' : World) : Prop where
  os : w'.os = w.os
  tape : w'.tape = w.tape
  output : w'.output = w.output
  size : w.heap.size ≤ w'.heap.size
  block : ∀ k, k < w.heap.size → k ∉ bs → w'.heap[k]? = w.heap[k]?
namespace Only
theorem refl (bs : List Nat) (w : World) : Only bs w w := ⟨rfl, rfl, rfl, Nat.le_refl _, fun _ _ _ => rfl⟩
theorem trans {bs bs' : List Nat} {a b c : World} (h : Only bs a b) (k : Only bs' b c) (hs : ∀ x ∈ bs', x ∈ bs ∨ a.heap.size ≤ x) : Only bs a c :=
  ⟨k.os.trans h.os, k.tape.trans h.tape, k.output.trans h.output, Nat.le_trans h.size k.size, fun i hi hn => (k.block i (Nat.lt_of_lt_of_le hi h.size) (fun hx => by
    rcases hs i hx with h' | h'
    · exact hn h'
    · omega)).trans (h.block i hi hn)⟩
theorem drew {bs : List Nat} {a w : World} (h : Only bs a w) : Only bs a w.drew := ⟨h.os, h.tape, h.output, h.size, h.block⟩
theorem drewN {bs : List Nat} {a w : World} (h : Only bs a w) (n : Nat) : Only bs a (w.drewN n) := ⟨h.os, h.tape, h.output, h.size, h.block⟩
theorem alloc {bs : List Nat} {a w : World} (h : Only bs a w) (o : Obj) : Only bs a (w.alloc o) :=
  ⟨h.os, h.tape, h.output, Nat.le_trans h.size (by simp), fun i hi hn => (Below.heap_alloc w o i (Nat.lt_of_lt_of_le hi h.size)).trans (h.block i hi hn)⟩
theorem setCell {bs : List Nat} {a w : World} (h : Only bs a w) {p : Addr} (hp : p.block ∈ bs ∨ a.heap.size ≤ p.block) (u : Value) : Only bs a (w.setCell p u) :=
  ⟨h.os, h.tape, h.output, by simpa [World.setCell] using h.size, fun i hi hn => (Below.heap_setCell w p u i (by
    rintro rfl
    rcases hp with hp | hp
    · exact hn hp
    · omega)).trans (h.block i hi hn)⟩
theorem of_below {bs : List Nat} {a w : World} (h : Below a.heap.size a w) : Only bs a w := ⟨h.os, h.tape, h.output, h.size, fun i hi _ => h.block i hi⟩
theorem below {bs : List Nat} {B : Nat} {a w : World} (h : Only bs a w) (hB : B ≤ a.heap.size) (hb : ∀ x ∈ bs, B ≤ x) : Below B a w :=
  ⟨h.os, h.tape, h.output, h.size, fun i hi => h.block i (by omega) (fun hx => by have := hb i hx; omega)⟩
theorem grown {bs : List Nat} {a w w' : World} {row : Option Nat} (h : Only bs a w) (hg : w.grownBy w' row) (hr : ∀ k, row = some k → k ∈ bs ∨ a.heap.size ≤ k) : Only bs a w' :=
  ⟨hg.os.trans h.os, hg.tape.trans h.tape, hg.output.trans h.output, Nat.le_trans h.size hg.size, fun i hi hn => (hg.block i (Nat.lt_of_lt_of_le hi h.size) (fun e => by
    rcases hr i e.symm with h' | h'
    · exact hn h'
    · omega)).trans (h.block i hi hn)⟩
theorem cell {bs : List Nat} {a w : World} (h : Only bs a w) {b o : Nat} {v : Value} (hv : a.cell? ⟨b, o, none⟩ = some v) (hn : b ∉ bs) : w.cell? ⟨b, o, none⟩ = some v :=
  (World.cell?_of_block (h.block b (World.block_lt_of_cell? a _ hv) hn)).trans hv
end Only
theorem Below.to_only {bs : List Nat} {a w : World} (h : Below a.heap.size a w) : Only bs a w := Only.of_below h
theorem block_lt {w : World} {b o : Nat} {v : Value} (h : w.cell? ⟨b, o, none⟩ = some v) : b < w.heap.size := World.block_lt_of_cell? w _ h

section
variable {H : Type} {enc : TypeId × Value → H} {P : Program}
/-- What was read before the call reads so behind it. -/
theorem trodAll_below (hl : laidOutB P = true) {W W' : World} (hb : Below W.heap.size W W') : ∀ {ts : List TypeId} {vs : List Value} {ds : List (DataW H)} {ps : List MemPlace},
    (∀ t ∈ ts, P.readableRec t = true ∧ t < P.types.size) → DataW.TrodAll enc P W 0 (fun _ => true) true ts vs ds ps → (∀ x ∈ ps, x.block < W.heap.size) →
    DataW.TrodAll enc P W' 0 (fun b => decide (b < W.heap.size)) true ts vs ds ps := by
  intro ts
  induction ts with
  | nil => intro vs ds ps _ h _; cases vs <;> cases ds <;> first | exact h | exact h.elim
  | cons t ts ih =>
    intro vs ds ps hr h hlt
    obtain ⟨v, vs', d, ds', p, q, rfl, rfl, rfl, h1, h2⟩ := trodAll_cons h
    exact ⟨p, q, Below.trod hl (hr t (by simp)).1 (hr t (by simp)).2 h1 hb (fun x hx => hlt x (by simp [hx])), ih (fun t' ht' => hr t' (by simp [ht'])) h2 (fun x hx => hlt x (by simp [hx])), rfl⟩

/-- A law that answers true, and leaves what was there as it was, meets its row. -/
theorem law_post {f : Func} {s : ChangeSpec} {apart fresh handsOn : Bool} {W W' : World} {args : Array Value} {tb : TypeId} {ds gs : List (DataW H)} {before : List MemPlace} (hl : laidOutB P = true) (hr : ∀ t ∈ f.params.toList, P.readableRec t = true ∧ t < P.types.size)
    (hW : DataW.Whole enc P f.params.toList s.vars apart W args.toList ds gs before) (hv : s.vars = []) (hres : f.resultTypes = #[tb]) (ht : P.underlying tb = some .bool)
    (hs : s.fn H (ds ++ gs) = { results := [.lit (.bool true)], args := ds }) (hb : Below W.heap.size W W') : s.post enc P f apart fresh handsOn false W args (.bool true) W' := by
  have hlt : ∀ p ∈ before, p.block < W.heap.size := fun p hp => hW.lt p hp
  have hW' := hW
  obtain ⟨p, q, hA, hV, rfl, _, _⟩ := hW
  rw [hv] at hV
  obtain ⟨rfl, rfl⟩ := trodVars_none hV
  refine ⟨ds, [], p ++ [], [], p, [], hW', ?_, ?_, ?_, hb.frame _, fun h => by cases h⟩
  · rw [hs, hres]
    exact trodAll_mk1 (shut_bool ht _)
  · rw [hs]
    exact trodAll_below hl hb hr hA (fun x hx => hlt x (by simp [hx]))
  · rw [hs, hv]
    rfl
end
end Go.Proofs.YtchhbgckonpedaaGreatDoor

/- Rows of cells: what a slice of structs holds, element by element; one block known whole. -/
namespace Go.Proofs.YtchhbgckonpedaaGreatDoor
open Go.ChangeShapes Go.WideShapes Go.ChangeAt Go.RowKit Go.Joins Go.Deep

/-! ### lists of cells -/
section
variable {α : Type} {f : α → List Value} {sz : Nat}
theorem flat_length (hf : ∀ x, (f x).length = sz) (l : List α) : (l.flatMap f).length = l.length * sz := by
  induction l with
  | nil => simp
  | cons a l ih => rw [List.flatMap_cons, List.length_append, ih, hf, List.length_cons, Nat.add_mul, Nat.one_mul, Nat.add_comm]
theorem flat_get (hf : ∀ x, (f x).length = sz) (l : List α) (i j : Nat) (hj : j < sz) : (l.flatMap f)[i * sz + j]? = (l[i]?).bind fun x => (f x)[j]? := by
  induction l generalizing i with
  | nil => simp
  | cons a l ih =>
    rw [List.flatMap_cons]
    cases i with
    | zero => rw [Nat.zero_mul, Nat.zero_add, List.getElem?_append_left (by rw [hf]; exact hj)]; simp
    | succ i =>
      have e : (i + 1) * sz + j = (f a).length + (i * sz + j) := by rw [hf, Nat.add_mul, Nat.one_mul]; omega
      rw [e, List.getElem?_append_right (by omega), Nat.add_sub_cancel_left, ih]
      simp
/-- One field of one element written. -/
theorem flat_set (hf : ∀ x, (f x).length = sz) (l : List α) (i j : Nat) (hj : j < sz) (x y : α) (u : Value) (hx : l[i]? = some x) (hy : f y = (f x).set j u) : (l.flatMap f).set (i * sz + j) u = (l.set i y).flatMap f := by
  induction l generalizing i with
  | nil => simp at hx
  | cons a l ih =>
    cases i with
    | zero =>
      simp only [List.getElem?_cons_zero, Option.some.injEq] at hx
      subst hx
      rw [List.set_cons_zero, List.flatMap_cons, List.flatMap_cons, hy, Nat.zero_mul, Nat.zero_add, List.set_append_left _ _ (by rw [hf]; exact hj)]
    | succ i =>
      simp only [List.getElem?_cons_succ] at hx
      have e : (i + 1) * sz + j = (f a).length + (i * sz + j) := by rw [hf, Nat.add_mul, Nat.one_mul]; omega
      rw [List.set_cons_succ, List.flatMap_cons, List.flatMap_cons, e, List.set_append_right _ _ (by omega), Nat.add_sub_cancel_left, ih i hx]
theorem flat_take (hf : ∀ x, (f x).length = sz) (l : List α) (m : Nat) : (l.take m).flatMap f = (l.flatMap f).take (m * sz) := by
  induction l generalizing m with
  | nil => simp
  | cons a l ih =>
    cases m with
    | zero => simp
    | succ m =>
      rw [List.take_succ_cons, List.flatMap_cons, List.flatMap_cons, ih, Nat.add_mul, Nat.one_mul, Nat.add_comm, ← hf a, List.take_length_add_append]
theorem flat_append (l m : List α) : (l ++ m).flatMap f = l.flatMap f ++ m.flatMap f := List.flatMap_append
end

/-! ### a block known whole -/
def Cells (w : World) (b : Nat) (t : TypeId) (l : List Value) : Prop := w.heap[b]? = some (.cells l.toArray t (0, 0))
namespace Cells
variable {w : World} {b : Nat} {t : TypeId} {l : List Value}
theorem lt (h : Cells w b t l) : b < w.heap.size := (Array.getElem?_eq_some_iff.1 h).1
theorem cell (h : Cells w b t l) {i : Nat} {v : Value} (hv : l[i]? = some v) : w.cell? ⟨b, i, none⟩ = some v := by
  rw [cell_of_row w b i l.toArray t (0, 0) h]; simpa using hv
theorem frozen (h : Cells w b t l) (i : Nat) : w.frozen? ⟨b, i, none⟩ = false := frozen_of_row w b i l.toArray t h
theorem set (h : Cells w b t l) (i : Nat) (u : Value) : Cells (w.setCell ⟨b, i, none⟩ u) b t (l.set i u) := by
  have := heap_setCell_same w b i l.toArray t u h
  simpa [Cells] using this
theorem other (h : Cells w b t l) {a : Addr} (ha : b ≠ a.block) (u : Value) : Cells (w.setCell a u) b t l := (Below.heap_setCell w a u b ha).trans h
theorem alloc (h : Cells w b t l) (o : Obj) : Cells (w.alloc o) b t l := (Below.heap_alloc w o b h.lt).trans h
theorem drew (h : Cells w b t l) : Cells w.drew b t l := h
theorem drewN (h : Cells w b t l) (n : Nat) : Cells (w.drewN n) b t l := h
theorem new (w : World) (t : TypeId) (l : List Value) : Cells (w.alloc (.cells l.toArray t)) w.heap.size t l := heap_alloc_new w _
theorem kept {w' : World} {bs : List Nat} (h : Cells w b t l) (o : Only bs w w') (hn : b ∉ bs) : Cells w' b t l := (o.block b h.lt hn).trans h
theorem below {w' : World} {B : Nat} (h : Cells w b t l) (o : Below B w w') (hn : b < B) : Cells w' b t l := (o.block b hn).trans h
end Cells

/-! ### a slice of the call's own -/
section
variable {w w' : World} {base size n : Nat} {e : TypeId} {v : Value} {xs : List Value}
theorem own_kept {bs : List Nat} (h : w.ownsRow base e size v n xs) (o : Only bs w w') (hn : ∀ k, v.ownBlock = some k → k ∉ bs) : w'.ownsRow base e size v n xs := by
  refine ⟨h.1, ?_⟩
  rcases h.2 with h' | ⟨g, cap, cur, rfl, hb, hg, r⟩
  · exact .inl h'
  · exact .inr ⟨g, cap, cur, rfl, hb, (o.block g (Array.getElem?_eq_some_iff.1 hg).1 (hn g rfl)).trans hg, r⟩
theorem own_drew (h : w.ownsRow base e size v n xs) : w.drew.ownsRow base e size v n xs := h
theorem own_drewN (h : w.ownsRow base e size v n xs) (k : Nat) : (w.drewN k).ownsRow base e size v n xs := h
/-- Its first elements. -/
theorem own_take {g cap m : Nat} (h : w.ownsRow base e size (.slice (some ⟨g, 0, none⟩) n cap) n xs) (hm : m ≤ n) : w.ownsRow base e size (.slice (some ⟨g, 0, none⟩) m cap) m (xs.take (m * size)) := by
  have hmn : m * size ≤ n * size := Nat.mul_le_mul_right _ hm
  refine ⟨by rw [List.length_take, h.1]; omega, ?_⟩
  rcases h.2 with ⟨h', _⟩ | ⟨g', cap', cur, h', hb, hg, hnc, hcm, hcs, htake⟩
  · cases h'
  · simp only [Value.slice.injEq, Option.some.injEq, Addr.mk.injEq, and_true] at h'
    obtain ⟨rfl, -, rfl⟩ := h'
    exact .inr ⟨g, cap, cur, rfl, hb, hg, by omega, hcm, hcs, by rw [← htake, List.take_take, Nat.min_eq_left hmn]⟩
/-- Its form: where there is an element, the block. -/
theorem own_form (h : w.ownsRow base e size v n xs) (hn : 0 < n) : ∃ g cap, v = .slice (some ⟨g, 0, none⟩) n cap ∧ base ≤ g ∧ g < w.heap.size := by
  rcases h.2 with ⟨_, rfl⟩ | ⟨g, cap, cur, rfl, hb, hg, _⟩
  · omega
  · exact ⟨g, cap, rfl, hb, (Array.getElem?_eq_some_iff.1 hg).1⟩
/-- Its form, whatever its length. -/
theorem own_form' (h : w.ownsRow base e size v n xs) : ∃ ao cap, v = .slice ao n cap := by
  rcases h.2 with ⟨rfl, rfl⟩ | ⟨g, cap, cur, rfl, hb, hg, _⟩
  · exact ⟨_, _, rfl⟩
  · exact ⟨_, _, rfl⟩
end

/-! ### make -/
theorem run_make_n {P : Program} (t e : TypeId) (z : Value) (size bytes : Nat) (ht : P.underlying t = some (.slice e)) (hinfo : (P.info? e).map (fun i => (i.zero, i.size, i.bytes)) = some (some z, size, bytes))
    (kl kc : IntKind) (n : Nat) (hbytes : bytes * n ≤ 281474976710656) (h63 : n ≤ 9223372036854775807) (w : World) :
    (Instr.makeSlice t (.int kl (n : Int)) (.int kc (n : Int))).run P w = .ok (.slice (some ⟨w.heap.size, 0, none⟩) n n) (w.alloc (.cells (madeCells z.cells (n * size)) e)) := by
  obtain ⟨i, hi, hz, hs, hb⟩ := info_parts hinfo
  subst hs
  subst hb
  have hb' : (i.bytes : Int) * (n : Int) ≤ 281474976710656 := by
    have h : ((i.bytes * n : Nat) : Int) ≤ 281474976710656 := by omega
    rwa [Int.natCast_mul] at h
  have hr := run_make (P := P) w t e i z ht hi hz kl kc n n (by omega) (Int.le_refl _) hb' (by omega)
  simp only [Int.toNat_natCast] at hr
  exact hr
theorem madeCells_eq (z : List Value) (n : Nat) (hz : 0 < z.length) : madeCells z.toArray (n * z.length) = ((List.replicate n ()).flatMap fun _ => z).toArray := by
  apply Array.ext'
  apply List.ext_getElem?
  intro j
  have hg := flat_get (f := fun (_ : Unit) => z) (sz := z.length) (fun _ => rfl) (List.replicate n ()) (j / z.length) (j % z.length) (Nat.mod_lt _ hz)
  rw [Nat.mul_comm, Nat.div_add_mod] at hg
  rw [List.toList_toArray, hg]
  have hm := Nat.mod_lt j hz
  by_cases hj : j < n * z.length
  · have hd : j / z.length < n := Nat.div_lt_of_lt_mul (by rw [Nat.mul_comm]; exact hj)
    simp [madeCells, hj, hd, hm]
  · have hd : ¬ j / z.length < n := fun h => hj ((Nat.div_lt_iff_lt_mul hz).1 h)
    simp [madeCells, hj, hd]

/-! ### append on a slice of the call's own: the same block, or a new one -/
section
variable {P : Program} (w : World)
theorem run_app (t ty e : TypeId) (z : Value) (size bytes : Nat) (ht : P.underlying t = some (.slice e)) (hinfo : (P.info? e).map (fun i => (i.zero, i.size, i.bytes)) = some (some z, size, bytes)) (hzs : z.cells.size = size) (hsz : 0 < size)
    (v : Value) (n : Nat) (xs : List Value) (hown : w.ownsRow 0 e size v n xs)
    (a : Addr) (m c : Nat) (news : List Value) (hl : news.length = m * size) (hnews : ∀ j u, news[j]? = some u → w.cell? (a.add j) = some u) (h1 : ∀ u ∈ news, u.oneCell' = true)
    (h63 : n + m ≤ maxLen) (hbytes : (n + m) * bytes ≤ 140737488355328) :
    ∃ ao cap w', (Builtin.append_ #[t, t] ty #[v, .slice (some a) m c]).run P w = .ok (.slice ao (n + m) cap) w' ∧ w'.ownsRow 0 e size (.slice ao (n + m) cap) (n + m) (xs ++ news) ∧ Only v.ownBlock.toList w w' ∧
      (∀ k, (Value.slice ao (n + m) cap).ownBlock = some k → v.ownBlock = some k ∨ w.heap.size ≤ k) := by
  obtain ⟨i, hi, hz, hsize, hby⟩ := info_parts hinfo
  obtain ⟨v', w', hr, ho, hg, hnil⟩ := run_append_own (P := P) w 0 t ty e i z size bytes ht hi hz hsize hby hzs hsz v n xs hown a m c news hl hnews h1 h63 hbytes (Nat.zero_le _)
  have honly : Only v.ownBlock.toList w w' := ⟨hg.os, hg.tape, hg.output, hg.size, fun k hk hn => hg.block k hk (fun e => hn (by simp [← e]))⟩
  obtain ⟨ao, cap, hv'⟩ := own_form' ho
  subst hv'
  refine ⟨ao, cap, w', hr, ho, honly, ?_⟩
  subst hsize
  subst hby
  rcases hown.2 with ⟨rfl, rfl⟩ | ⟨g, cap0, cur, rfl, hbg, hgc, hnc, hcm, hcs, htake⟩
  · intro k hk
    have hx : xs = [] := List.eq_nil_of_length_eq_zero (by simpa using hown.1)
    subst hx
    obtain ⟨v2, w2, hr2, ho2, -, -⟩ := run_append_own (P := P) w w.heap.size t ty e i z i.size i.bytes ht hi hz rfl rfl hzs hsz (.slice none 0 0) 0 [] (World.ownsRow_nil w w.heap.size e i.size) a m c news hl hnews h1 h63 hbytes (Nat.le_refl _)
    rw [hr] at hr2
    simp only [Result.ok.injEq] at hr2
    obtain ⟨rfl, rfl⟩ := hr2
    exact .inr (ho2.lt k hk).1
  · intro k hk
    by_cases hroom : n + m ≤ cap0
    · have hfit : n * i.size + news.length ≤ cur.size := by rw [hl, hcs, ← Nat.add_mul]; exact Nat.mul_le_mul_right _ hroom
      have hr2 := run_append_room (P := P) w t ty e i ht hi g n cap0 cur hgc a m c news hl hnews h1 hroom hfit
      rw [hr] at hr2
      simp only [Result.ok.injEq, Value.slice.injEq] at hr2
      obtain ⟨⟨rfl, -, -⟩, -⟩ := hr2
      exact .inl hk
    · have hsmall : n + m ≤ 9223372036854775807 := by simp only [maxLen] at h63; omega
      have holds : ∀ j u, xs[j]? = some u → w.cell? ((⟨g, 0, none⟩ : Addr).add j) = some u := hown.cells (g := g) rfl
      have hr2 := run_append_grow (P := P) w t ty e i z ht hi hz ⟨g, 0, none⟩ n cap0 xs hown.1 holds a m c news hl hnews (by omega) (by omega) (growslice_fits (by omega) hbytes)
      rw [hr] at hr2
      simp only [Result.ok.injEq, Value.slice.injEq] at hr2
      obtain ⟨⟨rfl, -, -⟩, -⟩ := hr2
      simp only [Value.ownBlock, Option.some.injEq] at hk
      exact .inr (by omega)

theorem wp_app {o : Oper} {a : Act} {K : Act → World → Prop} {Q : Exit → Act → World → Prop} (s x : Operand) (t : TypeId)
    (ho : o.op = .call { callee := .builtin .append, args := #[s, x], argTypes := #[t, t] })
    (e : TypeId) (z : Value) (size bytes : Nat) (ht : P.underlying t = some (.slice e)) (hinfo : (P.info? e).map (fun i => (i.zero, i.size, i.bytes)) = some (some z, size, bytes)) (hzs : z.cells.size = size) (hsz : 0 < size)
    (v : Value) (n : Nat) (xs : List Value) (hs : a.eval s = v) (hown : w.ownsRow 0 e size v n xs)
    (ad : Addr) (m c : Nat) (news : List Value) (hx : a.eval x = .slice (some ad) m c) (hl : news.length = m * size) (hnews : ∀ j u, news[j]? = some u → w.cell? (ad.add j) = some u) (h1 : ∀ u ∈ news, u.oneCell' = true)
    (h63 : n + m ≤ maxLen) (hbytes : (n + m) * bytes ≤ 140737488355328)
    (h : ∀ ao cap w', w'.ownsRow 0 e size (.slice ao (n + m) cap) (n + m) (xs ++ news) → Only v.ownBlock.toList w w' → (∀ k, (Value.slice ao (n + m) cap).ownBlock = some k → v.ownBlock = some k ∨ w.heap.size ≤ k) → K (a.put o.dst (.slice ao (n + m) cap)) w') : o.wp P a w K Q := by
  obtain ⟨ao, cap, w', hr, h2, h3, h4⟩ := run_app (P := P) w t o.type e z size bytes ht hinfo hzs hsz v n xs hown ad m c news hl hnews h1 h63 hbytes
  unfold Oper.wp execOp
  simp only [ho, resolve, invoke, builtin, Sem.run_bind, Sem.run_pure, Result.andThen_ok, List.map_toArray, List.map_cons, List.map_nil, hs, hx, hr]
  exact h ao cap w' h2 h3 h4

/-- The law of append in a walk. -/
theorem wpList_app {ops : Array Oper} {rest : List Oper} {o : Oper} {a : Act} {Q : Exit → Act → World → Prop} (hgd : o.guard = none) (s x : Operand) (t : TypeId)
    (ho : o.op = .call { callee := .builtin .append, args := #[s, x], argTypes := #[t, t] })
    (e : TypeId) (z : Value) (size bytes : Nat) (ht : P.underlying t = some (.slice e)) (hinfo : (P.info? e).map (fun i => (i.zero, i.size, i.bytes)) = some (some z, size, bytes)) (hzs : z.cells.size = size) (hsz : 0 < size)
    (v : Value) (n : Nat) (xs : List Value) (hs : a.eval s = v) (hown : w.ownsRow 0 e size v n xs)
    (ad : Addr) (m c : Nat) (news : List Value) (hx : a.eval x = .slice (some ad) m c) (hl : news.length = m * size) (hnews : ∀ j u, news[j]? = some u → w.cell? (ad.add j) = some u) (h1 : ∀ u ∈ news, u.oneCell' = true)
    (h63 : n + m ≤ maxLen) (hbytes : (n + m) * bytes ≤ 140737488355328)
    (h : ∀ ao cap w', w'.ownsRow 0 e size (.slice ao (n + m) cap) (n + m) (xs ++ news) → Only v.ownBlock.toList w w' → (∀ k, (Value.slice ao (n + m) cap).ownBlock = some k → v.ownBlock = some k ∨ w.heap.size ≤ k) → wpList P ops Q rest (a.put o.dst (.slice ao (n + m) cap)) w') :
    wpList P ops Q (o :: rest) a w :=
  wpList_plain hgd fun _ hK => wp_app w s x t ho e z size bytes ht hinfo hzs hsz v n xs hs hown ad m c news hx hl hnews h1 h63 hbytes fun ao cap w' h2 h3 h4 => hK _ _ (h ao cap w' h2 h3 h4)
end
end Go.Proofs.YtchhbgckonpedaaGreatDoor

/- Slices that are only read: what each element's cells hold. A hierarchy as data. -/
namespace Go.Proofs.YtchhbgckonpedaaGreatDoor
open Go.ChangeShapes Go.WideShapes Go.ChangeAt Go.RowKit Go.Joins Go.Deep

/-- The slice at ao of the capacity cap reads as the list l; an element takes sz cells, which hold f of it. -/
structure See {α : Type} (w : World) (ao : Option Addr) (cap : Nat) (f : α → List Value) (sz : Nat) (l : List α) : Prop where
  hcap : l.length ≤ cap
  hmax : cap ≤ maxLen
  cell : ∀ i x, l[i]? = some x → ∃ b off, ao = some ⟨b, off, none⟩ ∧ ∀ j u, (f x)[j]? = some u → w.cell? ⟨b, off + i * sz + j, none⟩ = some u
/-- Where the slice x[lo:..] begins. -/
def slBase (ao : Option Addr) (lo cap sz : Nat) : Option Addr := if cap = lo then ao else ao.map (·.add (lo * sz))
namespace See
variable {α : Type} {w w' : World} {ao : Option Addr} {cap sz : Nat} {f : α → List Value} {l : List α}
theorem below (h : See w ao cap f sz l) (o : Below w.heap.size w w') : See w' ao cap f sz l :=
  ⟨h.hcap, h.hmax, fun i x hx => by
    obtain ⟨b, off, e, hc⟩ := h.cell i x hx
    exact ⟨b, off, e, fun j u hu => ck o (hc j u hu)⟩⟩
theorem kept {bs : List Nat} (h : See w ao cap f sz l) (o : Only bs w w') (hn : ∀ b off, ao = some ⟨b, off, none⟩ → b ∉ bs) : See w' ao cap f sz l :=
  ⟨h.hcap, h.hmax, fun i x hx => by
    obtain ⟨b, off, e, hc⟩ := h.cell i x hx
    exact ⟨b, off, e, fun j u hu => o.cell (hc j u hu) (hn b off e)⟩⟩
/-- Below a bound. -/
theorem belowB {B : Nat} (h : See w ao cap f sz l) (o : Below B w w') (hn : ∀ b off, ao = some ⟨b, off, none⟩ → b < B) : See w' ao cap f sz l :=
  ⟨h.hcap, h.hmax, fun i x hx => by
    obtain ⟨b, off, e, hc⟩ := h.cell i x hx
    exact ⟨b, off, e, fun j u hu => (o.cell (p := ⟨b, off + i * sz + j, none⟩) (hn b off e)).trans (hc j u hu)⟩⟩
theorem drew (h : See w ao cap f sz l) : See w.drew ao cap f sz l := h.below (Below.refl _ _).drew
theorem alloc (h : See w ao cap f sz l) (o : Obj) : See (w.alloc o) ao cap f sz l := h.below ((Below.refl _ _).alloc (Nat.le_refl _) o)
theorem nil (w : World) (f : α → List Value) (sz : Nat) : See w none 0 f sz [] := ⟨by simp, by simp [maxLen], fun i x h => by simp at h⟩
/-- A slice of the call's own. -/
theorem of_own {e : TypeId} {base n : Nat} (hf : ∀ x, (f x).length = sz) (h : w.ownsRow base e sz (.slice ao n cap) n (l.flatMap f)) (hsz : 0 < sz) : See w ao cap f sz l ∧ n = l.length := by
  have hl : l.length = n := by
    have := h.1
    rw [flat_length hf] at this
    exact Nat.eq_of_mul_eq_mul_right hsz this
  subst hl
  rcases h.2 with ⟨h1, h2⟩ | ⟨g, cap', cur, e1, hb, hg, hn, hc, hcs, ht⟩
  · simp only [Value.slice.injEq] at h1
    obtain ⟨rfl, -, rfl⟩ := h1
    have : l = [] := List.eq_nil_of_length_eq_zero h2
    subst this
    exact ⟨nil w f sz, rfl⟩
  · simp only [Value.slice.injEq] at e1
    obtain ⟨rfl, -, rfl⟩ := e1
    refine ⟨⟨hn, hc, fun i x hx => ⟨g, 0, rfl, fun j u hu => ?_⟩⟩, rfl⟩
    have hi := (List.getElem?_eq_some_iff.1 hx).1
    have hj : j < sz := by rw [← hf x]; exact (List.getElem?_eq_some_iff.1 hu).1
    have hij : i * sz + j < l.length * sz := by
      have := Nat.mul_le_mul_right sz (show i + 1 ≤ l.length from hi)
      rw [Nat.add_mul, Nat.one_mul] at this
      omega
    rw [Nat.zero_add, h.cellAt _ hij, flat_get hf l i j hj, hx]
    exact hu
/-- A part of it. -/
theorem sub (h : See w ao cap f sz l) (lo hi : Nat) (h2 : hi ≤ l.length) : See w (slBase ao lo cap sz) (cap - lo) f sz ((l.take hi).drop lo) := by
  have hc := h.hcap
  refine ⟨by simp; omega, by have := h.hmax; omega, fun i x hx => ?_⟩
  have hil := (List.getElem?_eq_some_iff.1 hx).1
  simp only [List.length_drop, List.length_take] at hil
  rw [List.getElem?_drop, List.getElem?_take, if_pos (by omega)] at hx
  obtain ⟨b, off, e, hcell⟩ := h.cell _ _ hx
  have hne : ¬ cap = lo := by omega
  have hadd : (⟨b, off, none⟩ : Addr).add (lo * sz) = ⟨b, off + lo * sz, none⟩ := by
    unfold Addr.add
    split
    · simp_all
    · rfl
  refine ⟨b, off + lo * sz, by rw [slBase, if_neg hne, e, Option.map_some, hadd], fun j u hu => ?_⟩
  have := hcell j u hu
  rw [Nat.add_mul, ← Nat.add_assoc] at this
  exact this
theorem lt (h : See w ao cap f sz l) {i : Nat} {x : α} {u : Value} (hx : l[i]? = some x) (hu : (f x)[0]? = some u) : ∃ b off, ao = some ⟨b, off, none⟩ ∧ b < w.heap.size := by
  obtain ⟨b, off, e, hc⟩ := h.cell i x hx
  exact ⟨b, off, e, block_lt (hc 0 u hu)⟩
end See

/-- A part of a slice is taken: one word for where it begins. -/
theorem run_sub {P : Program} (t e : TypeId) (sz : Nat) (ht : P.underlying t = some (.slice e)) (hs : ∀ w, (sizeOf e).run P w = .ok sz w) (ao : Option Addr) (n cap lo hi : Nat) (kl kh : IntKind) (h1 : lo ≤ hi) (h2 : hi ≤ cap) (w : World) :
    (Instr.slice t (.slice ao n cap) (some (.int kl (lo : Int))) (some (.int kh (hi : Int))) none).run P w = .ok (.slice (slBase ao lo cap sz) (hi - lo) (cap - lo)) w := by
  have he : P.elem t = e := by simp [Program.elem, ht]
  have h := run_slice_lh (P := P) (w := w) t ao n cap (by rw [ht, he]) kl kh (lo : Int) (hi : Int) (by omega) (by omega) (by omega)
  rw [h, he, hs]
  simp [Result.andThen, sliced, slBase]

structure LinkD where
  to : Nat
  wt : Nat
  left : Nat
  right : Nat
  deriving DecidableEq, Repr, Inhabited
def linkCells (l : LinkD) : List Value := [.int .u32 l.to, .int .u64 l.wt, .int .u32 l.left, .int .u32 l.right]
theorem linkCells_len (l : LinkD) : (linkCells l).length = 4 := rfl
def u32Cells (n : Nat) : List Value := [.int .u32 n]
theorem u32Cells_len (n : Nat) : (u32Cells n).length = 1 := rfl
structure HierD where
  node : List Nat
  upF : List Nat
  up : List LinkD
  dnF : List Nat
  dn : List LinkD
  deriving DecidableEq, Repr, Inhabited
/-- Where the five slices of a hierarchy lie, and their capacities. -/
structure HA where
  a0 : Option Addr
  a1 : Option Addr
  a2 : Option Addr
  a3 : Option Addr
  a4 : Option Addr
  c0 : Nat
  c1 : Nat
  c2 : Nat
  c3 : Nat
  c4 : Nat
def hierVal (A : HA) (h : HierD) : Value := .agg #[.slice A.a0 h.node.length A.c0, .slice A.a1 h.upF.length A.c1, .slice A.a2 h.up.length A.c2, .slice A.a3 h.dnF.length A.c3, .slice A.a4 h.dn.length A.c4]
def LinkD.ok (l : LinkD) : Prop := l.to < 4294967296 ∧ l.wt < 18446744073709551616 ∧ l.left < 4294967296 ∧ l.right < 4294967296
/-- The hierarchy's slices read as h, and h's numbers fit. -/
structure HSee (w : World) (A : HA) (h : HierD) : Prop where
  node : See w A.a0 A.c0 u32Cells 1 h.node
  upF : See w A.a1 A.c1 u32Cells 1 h.upF
  up : See w A.a2 A.c2 linkCells 4 h.up
  dnF : See w A.a3 A.c3 u32Cells 1 h.dnF
  dn : See w A.a4 A.c4 linkCells 4 h.dn
  bn : ∀ x ∈ h.node, x < 4294967296
  bu : ∀ x ∈ h.upF, x < 4294967296
  bd : ∀ x ∈ h.dnF, x < 4294967296
  bup : ∀ l ∈ h.up, l.ok
  bdn : ∀ l ∈ h.dn, l.ok
theorem HSee.below {w w' : World} {A : HA} {h : HierD} (s : HSee w A h) (o : Below w.heap.size w w') : HSee w' A h :=
  ⟨s.node.below o, s.upF.below o, s.up.below o, s.dnF.below o, s.dn.below o, s.bn, s.bu, s.bd, s.bup, s.bdn⟩
end Go.Proofs.YtchhbgckonpedaaGreatDoor

/- The heap of package heap as lists: what each step makes of its items and of its places. No program here. -/

namespace Go.Proofs.YtchhbgckonpedaaGreatDoor
abbrev Item := Int × Nat
/-- Comes a ahead of b? -/
def lt2 (a b : Item) : Bool := decide (a.1 < b.1) || (a.1 == b.1 && decide ((a.2 : Int) < (b.2 : Int)))
abbrev HS := List Item × List Nat
def putP (s : HS) (i : Nat) (x : Item) : HS := (s.1.set i x, s.2.set x.2 (i + 1))
def itemAt (s : HS) (i : Nat) : Item := s.1.getD i (0, 0)
def upP (s : HS) (i : Nat) (x : Item) : HS :=
  if 0 < i then
    if lt2 x (itemAt s ((i - 1) / 4)) then upP (putP s i (itemAt s ((i - 1) / 4))) ((i - 1) / 4) x else putP s i x
  else putP s i x
termination_by i
decreasing_by omega
/-- The best child so far, and one more looked at. -/
def bestStep (s : HS) (i : Nat) (b : Option Nat) (k : Nat) : Option Nat :=
  if i * 4 + 1 + k < s.1.length then
    match b with
    | none => some (i * 4 + 1 + k)
    | some c => if lt2 (itemAt s (i * 4 + 1 + k)) (itemAt s c) then some (i * 4 + 1 + k) else some c
  else b
def bestTo (s : HS) (i : Nat) : Nat → Option Nat
  | 0 => none
  | k + 1 => bestStep s i (bestTo s i k) k
theorem bestStep_range (s : HS) (i : Nat) (b : Option Nat) (k : Nat) (hb : ∀ c, b = some c → i < c ∧ c < s.1.length) : ∀ c, bestStep s i b k = some c → i < c ∧ c < s.1.length := by
  intro c hc
  unfold bestStep at hc
  split at hc
  · cases b with
    | none => simp at hc; omega
    | some d =>
      simp only at hc
      split at hc
      · simp at hc; omega
      · exact hb c hc
  · exact hb c hc
theorem bestTo_range (s : HS) (i : Nat) : ∀ k c, bestTo s i k = some c → i < c ∧ c < s.1.length
  | 0, _, h => by simp [bestTo] at h
  | k + 1, c, h => bestStep_range s i _ k (fun d hd => bestTo_range s i k d hd) c h
theorem putP_length (s : HS) (i : Nat) (x : Item) : (putP s i x).1.length = s.1.length := by simp [putP]
theorem putP_length2 (s : HS) (i : Nat) (x : Item) : (putP s i x).2.length = s.2.length := by simp [putP]
def downP (s : HS) (i : Nat) (x : Item) : HS :=
  match _h : bestTo s i 4 with
  | none => putP s i x
  | some c => if lt2 (itemAt s c) x then downP (putP s i (itemAt s c)) c x else putP s i x
termination_by s.1.length - i
decreasing_by
  have := bestTo_range s i 4 c _h
  rw [putP_length]; omega
theorem downP_none {s : HS} {i : Nat} {x : Item} (h : bestTo s i 4 = none) : downP s i x = putP s i x := by
  rw [downP]; split
  · rfl
  · simp_all
theorem downP_some {s : HS} {i c : Nat} {x : Item} (h : bestTo s i 4 = some c) : downP s i x = if lt2 (itemAt s c) x then downP (putP s i (itemAt s c)) c x else putP s i x := by
  rw [downP]; split
  · simp_all
  · simp_all
end Go.Proofs.YtchhbgckonpedaaGreatDoor

/- What the steps of the heap's lists keep: each thing is where its place says, keys are told alike, and the order comes back. No program here. -/
namespace Go.Proofs.YtchhbgckonpedaaGreatDoor

theorem lt2_iff (a b : Item) : lt2 a b = true ↔ a.1 < b.1 ∨ (a.1 = b.1 ∧ a.2 < b.2) := by
  simp [lt2]
theorem lt2_false (a b : Item) : lt2 a b = false ↔ b.1 < a.1 ∨ (a.1 = b.1 ∧ b.2 ≤ a.2) := by
  rw [Bool.eq_false_iff, Ne, lt2_iff]; omega
/-- a does not come behind b. -/
def le2 (a b : Item) : Prop := lt2 b a = false
theorem le2_iff (a b : Item) : le2 a b ↔ a.1 < b.1 ∨ (a.1 = b.1 ∧ a.2 ≤ b.2) := by unfold le2; rw [lt2_false]; omega
theorem le2_refl (a : Item) : le2 a a := by rw [le2_iff]; omega
theorem le2_trans {a b c : Item} (h : le2 a b) (k : le2 b c) : le2 a c := by rw [le2_iff] at *; omega
theorem le2_of_lt {a b : Item} (h : lt2 a b = true) : le2 a b := by rw [lt2_iff] at h; rw [le2_iff]; omega

/-- The key of a thing. -/
def keyOf (s : HS) (id : Nat) : Option Int :=
  match s.2[id]? with
  | some (p + 1) => (s.1[p]?).map (·.1)
  | _ => none
/-- Each thing is where its place says. -/
structure WF (s : HS) : Prop where
  a : ∀ i x, s.1[i]? = some x → s.2[x.2]? = some (i + 1)
  b : ∀ id p, s.2[id]? = some (p + 1) → ∃ x, s.1[p]? = some x ∧ x.2 = id

theorem put1 (s : HS) (i : Nat) (x : Item) (j : Nat) : (putP s i x).1[j]? = if i = j then (if i < s.1.length then some x else none) else s.1[j]? := by
  simp only [putP, List.getElem?_set]
theorem put2 (s : HS) (i : Nat) (x : Item) (id : Nat) : (putP s i x).2[id]? = if x.2 = id then (if x.2 < s.2.length then some (i + 1) else none) else s.2[id]? := by
  simp only [putP, List.getElem?_set]

theorem keyOf_at {s : HS} (h : WF s) {i : Nat} {x : Item} (hx : s.1[i]? = some x) : keyOf s x.2 = some x.1 := by
  simp [keyOf, h.a i x hx, hx]
theorem keyOf_some {s : HS} (h : WF s) {id : Nat} {k : Int} (hk : keyOf s id = some k) : ∃ i, s.1[i]? = some (k, id) ∧ s.2[id]? = some (i + 1) := by
  unfold keyOf at hk
  split at hk
  · rename_i p hp
    obtain ⟨x, hx, rfl⟩ := h.b _ _ hp
    rw [hx] at hk
    simp only [Option.map_some, Option.some.injEq] at hk
    exact ⟨p, by rw [hx, ← hk], hp⟩
  · cases hk

section swap
variable {s : HS} {i p : Nat} {x y : Item}
/-- The hole goes from i to p: what stood at p stands at i. -/
theorem swap_len (hi : i < s.1.length) (hw : WF (putP s i x)) (hy : s.1[p]? = some y) (hp : p ≠ i) : y.2 ≠ x.2 ∧ y.2 < s.2.length ∧ s.2[y.2]? = some (p + 1) := by
  have h1 := hw.a p y (by rw [put1, if_neg (fun e => hp e.symm)]; exact hy)
  have h2 := hw.a i x (by rw [put1, if_pos rfl, if_pos hi])
  have hne : y.2 ≠ x.2 := by
    intro e
    rw [e, h2] at h1
    simp at h1
    exact hp h1.symm
  rw [put2, if_neg (fun e => hne e.symm)] at h1
  exact ⟨hne, (List.getElem?_eq_some_iff.1 h1).1, h1⟩
theorem swap_WF (hi : i < s.1.length) (hx : x.2 < s.2.length) (hw : WF (putP s i x)) (hy : s.1[p]? = some y) (hp : p ≠ i) : WF (putP (putP s i y) p x) := by
  obtain ⟨hne, hyl, hyp⟩ := swap_len hi hw hy hp
  have hpl : p < s.1.length := (List.getElem?_eq_some_iff.1 hy).1
  have f1 : ∀ j, (putP (putP s i y) p x).1[j]? = if p = j then some x else if i = j then some y else s.1[j]? := by
    intro j
    rw [put1, putP_length, if_pos hpl, put1, if_pos hi]
  have f2 : ∀ d, (putP (putP s i y) p x).2[d]? = if x.2 = d then some (p + 1) else if y.2 = d then some (i + 1) else s.2[d]? := by
    intro d
    rw [put2, putP_length2, if_pos hx, put2, if_pos hyl]
  constructor
  · intro j z hz
    rw [f1] at hz
    rw [f2]
    by_cases h1 : p = j
    · subst h1
      rw [if_pos rfl] at hz
      obtain rfl : x = z := by simpa using hz
      rw [if_pos rfl]
    rw [if_neg h1] at hz
    by_cases h2 : i = j
    · subst h2
      rw [if_pos rfl] at hz
      obtain rfl : y = z := by simpa using hz
      rw [if_neg (fun e => hne e.symm), if_pos rfl]
    rw [if_neg h2] at hz
    have h3 := hw.a j z (by rw [put1, if_neg h2]; exact hz)
    rw [put2] at h3
    by_cases h4 : x.2 = z.2
    · rw [if_pos h4, if_pos hx] at h3; simp at h3; omega
    · rw [if_neg h4] at h3
      rw [if_neg h4]
      by_cases h5 : y.2 = z.2
      · rw [← h5, hyp] at h3; simp at h3; omega
      · rw [if_neg h5]; exact h3
  · intro d q hd
    rw [f2] at hd
    by_cases h1 : x.2 = d
    · rw [if_pos h1] at hd
      simp at hd
      subst hd
      exact ⟨x, by rw [f1, if_pos rfl], h1⟩
    rw [if_neg h1] at hd
    by_cases h2 : y.2 = d
    · rw [if_pos h2] at hd
      simp at hd
      subst hd
      exact ⟨y, by rw [f1, if_neg hp, if_pos rfl], h2⟩
    rw [if_neg h2] at hd
    obtain ⟨z, hz, hzd⟩ := hw.b d q (by rw [put2, if_neg h1]; exact hd)
    rw [put1] at hz
    by_cases h3 : i = q
    · rw [if_pos h3, if_pos hi] at hz
      obtain rfl : x = z := by simpa using hz
      exact absurd hzd h1
    · rw [if_neg h3] at hz
      refine ⟨z, ?_, hzd⟩
      rw [f1]
      by_cases h4 : p = q
      · subst h4
        rw [hy] at hz
        obtain rfl : y = z := by simpa using hz
        exact absurd hzd h2
      · rw [if_neg h4, if_neg h3]; exact hz
theorem swap_key (hi : i < s.1.length) (hx : x.2 < s.2.length) (hw : WF (putP s i x)) (hy : s.1[p]? = some y) (hp : p ≠ i) (d : Nat) : keyOf (putP (putP s i y) p x) d = keyOf (putP s i x) d := by
  have hw' := swap_WF hi hx hw hy hp
  have hpl : p < s.1.length := (List.getElem?_eq_some_iff.1 hy).1
  obtain ⟨hne, hyl, hyp⟩ := swap_len hi hw hy hp
  by_cases h1 : x.2 = d
  · subst h1
    rw [keyOf_at hw' (i := p) (by rw [put1, if_pos rfl, putP_length, if_pos hpl]), keyOf_at hw (i := i) (by rw [put1, if_pos rfl, if_pos hi])]
  by_cases h2 : y.2 = d
  · subst h2
    rw [keyOf_at hw' (i := i) (by rw [put1, if_neg hp, put1, if_pos rfl, if_pos hi]), keyOf_at hw (i := p) (by rw [put1, if_neg (fun e => hp e.symm)]; exact hy)]
  · unfold keyOf
    rw [put2, if_neg h1, put2, if_neg h2, put2, if_neg h1]
    split
    · rename_i q hq
      have h3 : q ≠ i := by
        rintro rfl
        obtain ⟨z, hz, hzd⟩ := hw.b d q (by rw [put2, if_neg h1]; exact hq)
        rw [put1, if_pos rfl, if_pos hi] at hz
        obtain rfl : x = z := by simpa using hz
        exact h1 hzd
      have h4 : q ≠ p := by
        rintro rfl
        obtain ⟨z, hz, hzd⟩ := hw.b d q (by rw [put2, if_neg h1]; exact hq)
        rw [put1, if_neg (fun e => hp e.symm), hy] at hz
        obtain rfl : y = z := by simpa using hz
        exact h2 hzd
      rw [put1, if_neg (fun e => h4 e.symm), put1, if_neg (fun e => h3 e.symm), put1, if_neg (fun e => h3 e.symm)]
    · rfl
end swap

/-! ### the order -/
def par (j : Nat) : Nat := (j - 1) / 4
/-- Item j does not come ahead of item i. -/
def okp (s : HS) (i j : Nat) : Prop := ∀ x y, s.1[i]? = some x → s.1[j]? = some y → le2 x y
def Ord (s : HS) : Prop := ∀ j, 0 < j → okp s (par j) j
/-- In order but for the item i. -/
structure Almost (s : HS) (i : Nat) : Prop where
  far : ∀ j, 0 < j → j ≠ i → par j ≠ i → okp s (par j) j
  near : ∀ j, 0 < j → par j = i → 0 < i → okp s (par i) j
/-- In order but for the children of i. -/
structure DownOrd (s : HS) (i : Nat) : Prop where
  far : ∀ j, 0 < j → par j ≠ i → okp s (par j) j
  near : ∀ j, 0 < j → par j = i → 0 < i → okp s (par i) j

theorem par_lt {j : Nat} (h : 0 < j) : par j < j := by unfold par; omega

/-- What the way up makes. -/
theorem upP_spec (x : Item) : ∀ (n : Nat) (s : HS) (i : Nat), i = n → i < s.1.length → x.2 < s.2.length → WF (putP s i x) → Almost (putP s i x) i →
    ∃ j, j ≤ i ∧ WF (upP s i x) ∧ (upP s i x).1[j]? = some x ∧ DownOrd (upP s i x) j ∧ (∀ d, keyOf (upP s i x) d = keyOf (putP s i x) d) ∧ (upP s i x).1.length = s.1.length ∧ (upP s i x).2.length = s.2.length := by
  intro n
  induction n using Nat.strongRecOn with
  | _ n ih =>
    intro s i hin hi hx hw ha
    subst hin
    have stop : ∀ (hle : 0 < i → ∀ y, s.1[par i]? = some y → le2 y x), ∃ j, j ≤ i ∧ WF (putP s i x) ∧ (putP s i x).1[j]? = some x ∧ DownOrd (putP s i x) j ∧ (∀ d, keyOf (putP s i x) d = keyOf (putP s i x) d) ∧ (putP s i x).1.length = s.1.length ∧ (putP s i x).2.length = s.2.length := by
      intro hle
      refine ⟨i, Nat.le_refl _, hw, by rw [put1, if_pos rfl, if_pos hi], ⟨?_, ha.near⟩, fun _ => rfl, putP_length _ _ _, putP_length2 _ _ _⟩
      intro j hj hpj
      by_cases hji : j = i
      · subst hji
        intro a b h1 h2
        have hlt := par_lt hj
        rw [put1, if_neg (by omega)] at h1
        rw [put1, if_pos rfl, if_pos hi] at h2
        obtain rfl : x = b := by simpa using h2
        exact hle hj a h1
      · exact ha.far j hj hji hpj
    by_cases h0 : 0 < i
    · have hpi := par_lt h0
      obtain ⟨y, hy⟩ : ∃ y, s.1[par i]? = some y := ⟨_, List.getElem?_eq_getElem (by omega)⟩
      have hya : itemAt s ((i - 1) / 4) = y := by
        have : s.1[(i - 1) / 4]? = some y := hy
        simp [itemAt, this]
      by_cases hlt : lt2 x y = true
      · have e : upP s i x = upP (putP s i y) (par i) x := by rw [upP, if_pos h0, hya, if_pos hlt]; rfl
        rw [e]
        have hpne : par i ≠ i := by omega
        have hw' := swap_WF hi hx hw hy hpne
        have f1 : ∀ j, (putP (putP s i y) (par i) x).1[j]? = if par i = j then some x else if i = j then some y else s.1[j]? := by
          intro j
          have hpl : par i < s.1.length := by omega
          simp only [put1, putP_length, if_pos hpl, if_pos hi]
        have fT : ∀ j, (putP s i x).1[j]? = if i = j then some x else s.1[j]? := by
          intro j
          rw [put1, if_pos hi]
        have ha' : Almost (putP (putP s i y) (par i) x) (par i) := by
          constructor
          · intro j hj h1 h2 a b h3 h4
            rw [f1, if_neg (fun e => h2 e.symm)] at h3
            rw [f1, if_neg (fun e => h1 e.symm)] at h4
            by_cases hij : i = j
            · subst hij
              exact absurd rfl h2
            rw [if_neg hij] at h4
            by_cases hip : i = par j
            · rw [if_pos hip] at h3
              obtain rfl : y = a := by simpa using h3
              -- the children of i: not ahead of what stood above i
              exact ha.near j hj hip.symm h0 y b (by rw [fT, if_neg (by omega)]; exact hy) (by rw [fT, if_neg hij]; exact h4)
            · rw [if_neg hip] at h3
              exact ha.far j hj (fun e => hij e.symm) (fun e => hip e.symm) a b (by rw [fT, if_neg hip]; exact h3) (by rw [fT, if_neg hij]; exact h4)
          · intro j hj h1 h2 a b h3 h4
            have hlt2 := par_lt h2
            have hltj := par_lt hj
            rw [f1, if_neg (by omega), if_neg (by omega)] at h3
            rw [f1, if_neg (by omega)] at h4
            have hay : le2 a y := ha.far (par i) h2 (by omega) (by omega) a y (by rw [fT, if_neg (by omega)]; exact h3) (by rw [fT, if_neg (by omega)]; exact hy)
            by_cases hij : i = j
            · rw [if_pos hij] at h4
              obtain rfl : y = b := by simpa using h4
              exact hay
            · rw [if_neg hij] at h4
              have := ha.far j hj (fun e => hij e.symm) (by omega) y b (by rw [fT, h1, if_neg (by omega)]; exact hy) (by rw [fT, if_neg hij]; exact h4)
              exact le2_trans hay this
        obtain ⟨j, hj, r1, r2, r3, r4, r5, r6⟩ := ih (par i) hpi (putP s i y) (par i) rfl (by rw [putP_length]; omega) (by rw [putP_length2]; exact hx) hw' ha'
        exact ⟨j, by omega, r1, r2, r3, fun d => (r4 d).trans (swap_key hi hx hw hy hpne d), r5.trans (putP_length _ _ _), r6.trans (putP_length2 _ _ _)⟩
      · have e : upP s i x = putP s i x := by rw [upP, if_pos h0, hya, if_neg hlt]
        rw [e]
        refine stop (fun _ z hz => ?_)
        rw [hy] at hz
        obtain rfl : y = z := by simpa using hz
        simpa [le2] using hlt
    · have e : upP s i x = putP s i x := by rw [upP, if_neg h0]
      rw [e]
      exact stop (fun h => absurd h h0)
end Go.Proofs.YtchhbgckonpedaaGreatDoor

/- What the way down makes; a thing set, a thing taken out. No program here. -/
namespace Go.Proofs.YtchhbgckonpedaaGreatDoor

theorem itemAt_eq {s : HS} {i : Nat} {y : Item} (h : s.1[i]? = some y) : itemAt s i = y := by simp [itemAt, h]

theorem bestTo_spec (s : HS) (i : Nat) : ∀ k, (bestTo s i k = none → ∀ m, m < k → ¬ i * 4 + 1 + m < s.1.length) ∧
    (∀ c, bestTo s i k = some c → (∃ m, m < k ∧ c = i * 4 + 1 + m) ∧ c < s.1.length ∧ ∀ m, m < k → i * 4 + 1 + m < s.1.length → le2 (itemAt s c) (itemAt s (i * 4 + 1 + m)))
  | 0 => ⟨fun _ m h => by omega, fun c h => by simp [bestTo] at h⟩
  | k + 1 => by
    obtain ⟨h1, h2⟩ := bestTo_spec s i k
    have e : bestTo s i (k + 1) = bestStep s i (bestTo s i k) k := rfl
    rw [e]
    by_cases hc : i * 4 + 1 + k < s.1.length
    · cases hb : bestTo s i k with
      | none =>
        have e2 : bestStep s i none k = some (i * 4 + 1 + k) := by rw [bestStep, if_pos hc]
        rw [e2]
        refine ⟨fun h => (by cases h), fun c h => ?_⟩
        obtain rfl : i * 4 + 1 + k = c := by simpa using h
        refine ⟨⟨k, by omega, rfl⟩, hc, fun m hm hml => ?_⟩
        by_cases hmk : m = k
        · subst hmk; exact le2_refl _
        · exact absurd hml (h1 hb m (by omega))
      | some d =>
        obtain ⟨⟨m0, hm0, hd0⟩, hdl, hbest⟩ := h2 d hb
        by_cases hlt : lt2 (itemAt s (i * 4 + 1 + k)) (itemAt s d) = true
        · have e2 : bestStep s i (some d) k = some (i * 4 + 1 + k) := by rw [bestStep.eq_def, if_pos hc]; simp [hlt]
          rw [e2]
          refine ⟨fun h => (by cases h), fun c h => ?_⟩
          obtain rfl : i * 4 + 1 + k = c := by simpa using h
          refine ⟨⟨k, by omega, rfl⟩, hc, fun m hm hml => ?_⟩
          by_cases hmk : m = k
          · subst hmk; exact le2_refl _
          · exact le2_trans (le2_of_lt hlt) (hbest m (by omega) hml)
        · have e2 : bestStep s i (some d) k = some d := by rw [bestStep.eq_def, if_pos hc]; simp [hlt]
          rw [e2]
          refine ⟨fun h => (by cases h), fun c h => ?_⟩
          obtain rfl : d = c := by simpa using h
          refine ⟨⟨m0, by omega, hd0⟩, hdl, fun m hm hml => ?_⟩
          by_cases hmk : m = k
          · subst hmk; simpa [le2] using hlt
          · exact hbest m (by omega) hml
    · have e2 : bestStep s i (bestTo s i k) k = bestTo s i k := by rw [bestStep.eq_def, if_neg hc]
      rw [e2]
      refine ⟨fun h m hm => ?_, fun c h => ?_⟩
      · by_cases hmk : m = k
        · subst hmk; exact hc
        · exact h1 h m (by omega)
      · obtain ⟨⟨m0, hm0, hd0⟩, hdl, hbest⟩ := h2 c h
        refine ⟨⟨m0, by omega, hd0⟩, hdl, fun m hm hml => ?_⟩
        by_cases hmk : m = k
        · subst hmk; exact absurd hml hc
        · exact hbest m (by omega) hml

theorem par_iff {i j : Nat} (hj : 0 < j) : par j = i ↔ ∃ m, m < 4 ∧ j = i * 4 + 1 + m := by
  unfold par
  constructor
  · intro h; exact ⟨(j - 1) % 4, by omega, by omega⟩
  · rintro ⟨m, hm, rfl⟩; omega

/-- What the way down makes. -/
theorem downP_spec (x : Item) : ∀ (n : Nat) (s : HS) (i : Nat), s.1.length - i = n → i < s.1.length → x.2 < s.2.length → WF (putP s i x) → DownOrd (putP s i x) i →
    WF (downP s i x) ∧ Ord (downP s i x) ∧ (∀ d, keyOf (downP s i x) d = keyOf (putP s i x) d) ∧ (downP s i x).1.length = s.1.length ∧ (downP s i x).2.length = s.2.length := by
  intro n
  induction n using Nat.strongRecOn with
  | _ n ih =>
    intro s i hin hi hx hw ha
    have fT : ∀ j, (putP s i x).1[j]? = if i = j then some x else s.1[j]? := by
      intro j
      rw [put1, if_pos hi]
    cases hb : bestTo s i 4 with
    | none =>
      rw [downP_none hb]
      refine ⟨hw, fun j hj => ?_, fun _ => rfl, putP_length _ _ _, putP_length2 _ _ _⟩
      by_cases hp : par j = i
      · intro a b _ h2
        obtain ⟨m, hm, rfl⟩ := (par_iff hj).1 hp
        have hl := (List.getElem?_eq_some_iff.1 h2).1
        rw [putP_length] at hl
        exact absurd hl ((bestTo_spec s i 4).1 hb m hm)
      · exact ha.far j hj hp
    | some c =>
      obtain ⟨⟨m0, hm0, hc0⟩, hcl, hbest⟩ := (bestTo_spec s i 4).2 c hb
      have hc1 : 0 < c := by omega
      have hpc : par c = i := (par_iff hc1).2 ⟨m0, hm0, hc0⟩
      have hic : i < c := by omega
      obtain ⟨y, hy⟩ : ∃ y, s.1[c]? = some y := ⟨_, List.getElem?_eq_getElem hcl⟩
      rw [downP_some hb, itemAt_eq hy]
      -- the best child is not behind any other
      have hch : ∀ j z, 0 < j → par j = i → s.1[j]? = some z → le2 y z := by
        intro j z hj hp hz
        obtain ⟨m, hm, rfl⟩ := (par_iff hj).1 hp
        have := hbest m hm (List.getElem?_eq_some_iff.1 hz).1
        rwa [itemAt_eq hy, itemAt_eq hz] at this
      by_cases hlt : lt2 y x = true
      · rw [if_pos hlt]
        have hne : c ≠ i := by omega
        have hw' := swap_WF hi hx hw hy hne
        have f1 : ∀ j, (putP (putP s i y) c x).1[j]? = if c = j then some x else if i = j then some y else s.1[j]? := by
          intro j
          simp only [put1, putP_length, if_pos hcl, if_pos hi]
        have ha' : DownOrd (putP (putP s i y) c x) c := by
          constructor
          · intro j hj hp a b h3 h4
            have hpj := par_lt hj
            rw [f1, if_neg (fun e => hp e.symm)] at h3
            rw [f1] at h4
            by_cases hcj : c = j
            · subst hcj
              rw [if_pos rfl] at h4
              rw [hpc, if_pos rfl] at h3
              obtain rfl : x = b := by simpa using h4
              obtain rfl : y = a := by simpa using h3
              exact le2_of_lt hlt
            rw [if_neg hcj] at h4
            by_cases hij : i = j
            · subst hij
              rw [if_pos rfl] at h4
              rw [if_neg (by omega)] at h3
              obtain rfl : y = b := by simpa using h4
              exact ha.near c hc1 hpc hj a y (by rw [fT, if_neg (by omega)]; exact h3) (by rw [fT, if_neg (by omega)]; exact hy)
            rw [if_neg hij] at h4
            by_cases hip : i = par j
            · rw [if_pos hip] at h3
              obtain rfl : y = a := by simpa using h3
              exact hch j b hj hip.symm h4
            · rw [if_neg hip] at h3
              exact ha.far j hj (fun e => hip e.symm) a b (by rw [fT, if_neg hip]; exact h3) (by rw [fT, if_neg hij]; exact h4)
          · intro j hj hp _ a b h3 h4
            have hpj := par_lt hj
            rw [f1, hpc, if_neg (by omega), if_pos rfl] at h3
            rw [f1, if_neg (by omega), if_neg (by omega)] at h4
            obtain rfl : y = a := by simpa using h3
            exact ha.far j hj (by omega) y b (by rw [fT, hp, if_neg (by omega)]; exact hy) (by rw [fT, if_neg (by omega)]; exact h4)
        obtain ⟨r1, r2, r3, r4, r5⟩ := ih (s.1.length - c) (by omega) (putP s i y) c (by rw [putP_length]) (by rw [putP_length]; exact hcl) (by rw [putP_length2]; exact hx) hw' ha'
        exact ⟨r1, r2, fun d => (r3 d).trans (swap_key hi hx hw hy hne d), r4.trans (putP_length _ _ _), r5.trans (putP_length2 _ _ _)⟩
      · rw [if_neg hlt]
        refine ⟨hw, fun j hj => ?_, fun _ => rfl, putP_length _ _ _, putP_length2 _ _ _⟩
        by_cases hp : par j = i
        · intro a b h3 h4
          have hpj := par_lt hj
          rw [fT, if_pos hp.symm] at h3
          rw [fT, if_neg (by omega)] at h4
          obtain rfl : x = a := by simpa using h3
          exact le2_trans (by simpa [le2] using hlt) (hch j b hj hp h4)
        · exact ha.far j hj hp

/-! ### a thing set -/
/-- Its place, or a new one at the end. -/
def slotP (s : HS) (id : Nat) : Nat := if s.2.getD id 0 = 0 then s.1.length else s.2.getD id 0 - 1
def roomP (s : HS) (id : Nat) : HS := if s.2.getD id 0 = 0 then (s.1 ++ [(0, 0)], s.2) else s
def settleP (s : HS) (i : Nat) (x : Item) : HS :=
  let u := upP (putP s i x) i x
  downP u (u.2.getD x.2 0 - 1) (itemAt u (u.2.getD x.2 0 - 1))
def setP (s : HS) (id : Nat) (k : Int) : HS := settleP (roomP s id) (slotP s id) (k, id)

theorem putP_putP (s : HS) (i : Nat) (x : Item) : putP (putP s i x) i x = putP s i x := by simp [putP, List.set_set]
theorem putP_self {s : HS} {i : Nat} {x : Item} (h : WF s) (hx : s.1[i]? = some x) : putP s i x = s := by
  have h2 := h.a i x hx
  obtain ⟨h3, h4⟩ := List.getElem?_eq_some_iff.1 hx
  obtain ⟨h5, h6⟩ := List.getElem?_eq_some_iff.1 h2
  have e1 : s.1.set i x = s.1 := by
    apply List.ext_getElem?
    intro j
    rw [List.getElem?_set]
    split
    · rename_i e; subst e; first | exact hx.symm | (rw [if_pos h3]; exact hx.symm)
    · rfl
  have e2 : s.2.set x.2 (i + 1) = s.2 := by
    apply List.ext_getElem?
    intro j
    rw [List.getElem?_set]
    split
    · rename_i e; subst e; first | exact h2.symm | (rw [if_pos h5]; exact h2.symm)
    · rfl
  simp [putP, e1, e2]

/-- A thing put somewhere, and brought to its place. -/
theorem settleP_spec (s : HS) (i : Nat) (x : Item) (hi : i < s.1.length) (hx : x.2 < s.2.length) (hw : WF (putP s i x)) (ha : Almost (putP s i x) i) :
    WF (settleP s i x) ∧ Ord (settleP s i x) ∧ (∀ d, keyOf (settleP s i x) d = keyOf (putP s i x) d) ∧ (settleP s i x).1.length = s.1.length ∧ (settleP s i x).2.length = s.2.length ∧
      ∃ j, (upP (putP s i x) i x).2.getD x.2 0 = j + 1 ∧ (upP (putP s i x) i x).1[j]? = some x := by
  obtain ⟨j, hj, r1, r2, r3, r4, r5, r6⟩ := upP_spec x i (putP s i x) i rfl (by rw [putP_length]; exact hi) (by rw [putP_length2]; exact hx) (by rw [putP_putP]; exact hw) (by rw [putP_putP]; exact ha)
  rw [putP_length] at r5
  rw [putP_length2] at r6
  have e1 : (upP (putP s i x) i x).2.getD x.2 0 = j + 1 := by simp [List.getD_eq_getElem?_getD, r1.a j x r2]
  have e2 : settleP s i x = downP (upP (putP s i x) i x) j x := by
    simp only [settleP, e1, Nat.add_sub_cancel, itemAt_eq r2]
  have e3 : putP (upP (putP s i x) i x) j x = upP (putP s i x) i x := putP_self r1 r2
  obtain ⟨d1, d2, d3, d4, d5⟩ := downP_spec x _ (upP (putP s i x) i x) j rfl (by rw [r5]; omega) (by rw [r6]; exact hx) (by rw [e3]; exact r1) (by rw [e3]; exact r3)
  rw [e2]
  refine ⟨d1, d2, fun d => ?_, by rw [d4, r5], by rw [d5, r6], j, e1, r2⟩
  rw [d3, e3, r4, putP_putP]
end Go.Proofs.YtchhbgckonpedaaGreatDoor

/- A thing set, a thing taken out, the least thing: what becomes of the keys. No program here. -/
namespace Go.Proofs.YtchhbgckonpedaaGreatDoor

/-- A heap as it should be. -/
structure Good (s : HS) : Prop where
  wf : WF s
  ord : Ord s

theorem getD_some {l : List Nat} {i n : Nat} (h : l[i]? = some n) : l.getD i 0 = n := by simp [List.getD_eq_getElem?_getD, h]

theorem setP_spec {s : HS} (g : Good s) (id : Nat) (k : Int) (hid : id < s.2.length) :
    Good (setP s id k) ∧ (∀ d, keyOf (setP s id k) d = if d = id then some k else keyOf s d) ∧ (setP s id k).2.length = s.2.length ∧
      slotP s id < (roomP s id).1.length ∧ (roomP s id).2.length = s.2.length ∧ (setP s id k).1.length = (roomP s id).1.length ∧
      ∃ j, (upP (putP (roomP s id) (slotP s id) (k, id)) (slotP s id) (k, id)).2.getD id 0 = j + 1 ∧ (upP (putP (roomP s id) (slotP s id) (k, id)) (slotP s id) (k, id)).1[j]? = some (k, id) := by
  obtain ⟨pl, hpl⟩ : ∃ pl, s.2[id]? = some pl := ⟨_, List.getElem?_eq_getElem hid⟩
  have hgd := getD_some hpl
  cases pl with
  | zero =>
    have e1 : roomP s id = (s.1 ++ [(0, 0)], s.2) := by simp [roomP, hpl]
    have e2 : slotP s id = s.1.length := by simp [slotP, hpl]
    have fT1 : ∀ j, (putP (roomP s id) (slotP s id) (k, id)).1[j]? = if j < s.1.length then s.1[j]? else if j = s.1.length then some (k, id) else none := by
      intro j
      rw [put1, e1, e2]
      by_cases h1 : s.1.length = j
      · subst h1; simp
      · by_cases h2 : j < s.1.length
        · rw [if_neg h1, if_pos h2, List.getElem?_append_left h2]
        · rw [if_neg h1, if_neg h2, if_neg (fun e => h1 e.symm), List.getElem?_eq_none (by simp; omega)]
    have fT2 : ∀ d, (putP (roomP s id) (slotP s id) (k, id)).2[d]? = if id = d then some (s.1.length + 1) else s.2[d]? := by
      intro d
      rw [put2, e1, e2]
      by_cases h1 : id = d
      · rw [if_pos h1, if_pos h1, if_pos hid]
      · rw [if_neg h1, if_neg h1]
    have hw : WF (putP (roomP s id) (slotP s id) (k, id)) := by
      constructor
      · intro j z hz
        rw [fT1] at hz
        rw [fT2]
        by_cases h1 : j < s.1.length
        · rw [if_pos h1] at hz
          have := g.wf.a j z hz
          by_cases h2 : id = z.2
          · rw [← h2, hpl] at this; simp at this
          · rw [if_neg h2]; exact this
        · rw [if_neg h1] at hz
          by_cases h2 : j = s.1.length
          · rw [if_pos h2] at hz
            obtain rfl : (k, id) = z := by simpa using hz
            rw [if_pos rfl, h2]
          · rw [if_neg h2] at hz; cases hz
      · intro d p hd
        rw [fT2] at hd
        by_cases h1 : id = d
        · rw [if_pos h1] at hd
          obtain rfl : s.1.length = p := by simpa using hd
          exact ⟨(k, id), by rw [fT1, if_neg (by omega), if_pos rfl], h1⟩
        · rw [if_neg h1] at hd
          obtain ⟨z, hz, hzd⟩ := g.wf.b d p hd
          exact ⟨z, by rw [fT1, if_pos (List.getElem?_eq_some_iff.1 hz).1]; exact hz, hzd⟩
    have ha : Almost (putP (roomP s id) (slotP s id) (k, id)) (slotP s id) := by
      constructor
      · intro j hj h1 h2 a b h3 h4
        have hp := par_lt hj
        rw [e2] at h1
        rw [fT1] at h3 h4
        by_cases h5 : j < s.1.length
        · rw [if_pos (by omega)] at h3
          rw [if_pos h5] at h4
          exact g.ord j hj a b h3 h4
        · rw [if_neg h5, if_neg h1] at h4; cases h4
      · intro j hj h1 h2 a b h3 h4
        have hp := par_lt hj
        rw [e2] at h1
        rw [fT1, if_neg (by omega), if_neg (by omega)] at h4
        cases h4
    have hsl : slotP s id < (roomP s id).1.length := by rw [e1, e2]; simp
    have hr2 : (roomP s id).2.length = s.2.length := by rw [e1]
    obtain ⟨r1, r2, r3, r4, r5, r6⟩ := settleP_spec (roomP s id) (slotP s id) (k, id) hsl (by rw [hr2]; exact hid) hw ha
    refine ⟨⟨r1, r2⟩, fun d => (r3 d).trans ?_, r5.trans hr2, hsl, hr2, r4, r6⟩
    by_cases h1 : d = id
    · subst h1
      rw [if_pos rfl, keyOf_at hw (i := s.1.length) (x := (k, d)) (by rw [fT1, if_neg (by omega), if_pos rfl])]
    · rw [if_neg h1]
      unfold keyOf
      rw [fT2, if_neg (fun e => h1 e.symm)]
      split
      · rename_i p hp
        obtain ⟨z, hz, _⟩ := g.wf.b d p hp
        rw [fT1, if_pos (List.getElem?_eq_some_iff.1 hz).1]
      · rfl
  | succ p =>
    obtain ⟨y, hy, hyd⟩ := g.wf.b id p hpl
    have hpl' := (List.getElem?_eq_some_iff.1 hy).1
    have e1 : roomP s id = s := by simp [roomP, hpl]
    have e2 : slotP s id = p := by simp [slotP, hpl]
    have fT1 : ∀ j, (putP (roomP s id) (slotP s id) (k, id)).1[j]? = if p = j then some (k, id) else s.1[j]? := by
      intro j
      rw [put1, e1, e2, if_pos hpl']
    have fT2 : ∀ d : Nat, (putP (roomP s id) (slotP s id) (k, id)).2[d]? = s.2[d]? := by
      intro d
      rw [put2, e1, e2]
      by_cases h1 : id = d
      · subst h1; rw [if_pos rfl, if_pos hid, hpl]
      · rw [if_neg h1]
    have hw : WF (putP (roomP s id) (slotP s id) (k, id)) := by
      constructor
      · intro j z hz
        rw [fT1] at hz
        rw [fT2]
        by_cases h1 : p = j
        · rw [if_pos h1] at hz
          obtain rfl : (k, id) = z := by simpa using hz
          rw [← h1]; exact hpl
        · rw [if_neg h1] at hz
          exact g.wf.a j z hz
      · intro d q hd
        rw [fT2] at hd
        obtain ⟨z, hz, hzd⟩ := g.wf.b d q hd
        by_cases h1 : p = q
        · subst h1
          rw [hy] at hz
          obtain rfl : y = z := by simpa using hz
          exact ⟨(k, id), by rw [fT1, if_pos rfl], by rw [← hzd, hyd]⟩
        · exact ⟨z, by rw [fT1, if_neg h1]; exact hz, hzd⟩
    have ha : Almost (putP (roomP s id) (slotP s id) (k, id)) (slotP s id) := by
      constructor
      · intro j hj h1 h2 a b h3 h4
        rw [e2] at h1 h2
        rw [fT1, if_neg (fun e => h2 e.symm)] at h3
        rw [fT1, if_neg (fun e => h1 e.symm)] at h4
        exact g.ord j hj a b h3 h4
      · intro j hj h1 h2 a b h3 h4
        rw [e2] at h1 h2
        have hp := par_lt h2
        have hp2 := par_lt hj
        rw [fT1, e2, if_neg (by omega)] at h3
        rw [fT1, if_neg (by omega)] at h4
        have o1 := g.ord p h2 a y h3 hy
        have o2 := g.ord j hj y b (by rw [h1]; exact hy) h4
        exact le2_trans o1 o2
    have hsl : slotP s id < (roomP s id).1.length := by rw [e1, e2]; exact hpl'
    have hr2 : (roomP s id).2.length = s.2.length := by rw [e1]
    obtain ⟨r1, r2, r3, r4, r5, r6⟩ := settleP_spec (roomP s id) (slotP s id) (k, id) hsl (by rw [hr2]; exact hid) hw ha
    refine ⟨⟨r1, r2⟩, fun d => (r3 d).trans ?_, r5.trans hr2, hsl, hr2, r4, r6⟩
    by_cases h1 : d = id
    · subst h1
      rw [if_pos rfl, keyOf_at hw (i := p) (x := (k, d)) (by rw [fT1, if_pos rfl])]
    · rw [if_neg h1]
      unfold keyOf
      rw [fT2]
      split
      · rename_i q hq
        obtain ⟨z, hz, hzd⟩ := g.wf.b d q hq
        by_cases h2 : p = q
        · subst h2
          rw [hy] at hz
          obtain rfl : y = z := by simpa using hz
          exact absurd (hzd.symm.trans hyd) h1
        · rw [fT1, if_neg h2]
      · rfl

/-! ### a thing taken out -/
def lessP (s : HS) (id : Nat) : HS := (s.1.take (s.1.length - 1), s.2.set id 0)
def removeP (s : HS) (id : Nat) : HS :=
  if s.2.getD id 0 - 1 < s.1.length - 1 then settleP (lessP s id) (s.2.getD id 0 - 1) (itemAt s (s.1.length - 1)) else lessP s id

theorem removeP_spec {s : HS} (g : Good s) (id i : Nat) (hpl : s.2[id]? = some (i + 1)) :
    Good (removeP s id) ∧ (∀ d, keyOf (removeP s id) d = if d = id then none else keyOf s d) ∧ (removeP s id).2.length = s.2.length ∧ (removeP s id).1.length = s.1.length - 1 ∧ i < s.1.length ∧
      (i < s.1.length - 1 → ∃ x, s.1[s.1.length - 1]? = some x ∧ x.2 < s.2.length ∧ ∃ j, (upP (putP (lessP s id) i x) i x).2.getD x.2 0 = j + 1 ∧ (upP (putP (lessP s id) i x) i x).1[j]? = some x) := by
  obtain ⟨y, hy, hyd⟩ := g.wf.b id i hpl
  have hil := (List.getElem?_eq_some_iff.1 hy).1
  have hid := (List.getElem?_eq_some_iff.1 hpl).1
  have hgd := getD_some hpl
  have l1 : ∀ j, (lessP s id).1[j]? = if j < s.1.length - 1 then s.1[j]? else none := by
    intro j
    simp only [lessP, List.getElem?_take]
  have l2 : ∀ d, (lessP s id).2[d]? = if id = d then some 0 else s.2[d]? := by
    intro d
    simp only [lessP, List.getElem?_set]
    by_cases h1 : id = d
    · rw [if_pos h1, if_pos h1, if_pos hid]
    · rw [if_neg h1, if_neg h1]
  have len1 : (lessP s id).1.length = s.1.length - 1 := by simp [lessP]
  have len2 : (lessP s id).2.length = s.2.length := by simp [lessP]
  by_cases hlast : i < s.1.length - 1
  · obtain ⟨x, hx⟩ : ∃ x, s.1[s.1.length - 1]? = some x := ⟨_, List.getElem?_eq_getElem (by omega)⟩
    have hxp := g.wf.a _ x hx
    have hxl := (List.getElem?_eq_some_iff.1 hxp).1
    have hxid : x.2 ≠ id := by
      intro e
      rw [e, hpl] at hxp
      simp at hxp
      omega
    have e0 : removeP s id = settleP (lessP s id) i x := by
      simp only [removeP, hgd, Nat.add_sub_cancel, if_pos hlast, itemAt_eq hx]
    have fT1 : ∀ j, (putP (lessP s id) i x).1[j]? = if i = j then some x else if j < s.1.length - 1 then s.1[j]? else none := by
      intro j
      rw [put1, len1, if_pos hlast, l1]
    have fT2 : ∀ d, (putP (lessP s id) i x).2[d]? = if x.2 = d then some (i + 1) else if id = d then some 0 else s.2[d]? := by
      intro d
      rw [put2, len2, if_pos hxl, l2]
    have hw : WF (putP (lessP s id) i x) := by
      constructor
      · intro j z hz
        rw [fT1] at hz
        rw [fT2]
        by_cases h1 : i = j
        · rw [if_pos h1] at hz
          obtain rfl : x = z := by simpa using hz
          rw [if_pos rfl, h1]
        · rw [if_neg h1] at hz
          by_cases h2 : j < s.1.length - 1
          · rw [if_pos h2] at hz
            have h3 := g.wf.a j z hz
            by_cases h4 : x.2 = z.2
            · rw [← h4, hxp] at h3; simp at h3; omega
            · rw [if_neg h4]
              by_cases h5 : id = z.2
              · rw [← h5, hpl] at h3; simp at h3; omega
              · rw [if_neg h5]; exact h3
          · rw [if_neg h2] at hz; cases hz
      · intro d q hd
        rw [fT2] at hd
        by_cases h1 : x.2 = d
        · rw [if_pos h1] at hd
          obtain rfl : i = q := by simpa using hd
          exact ⟨x, by rw [fT1, if_pos rfl], h1⟩
        · rw [if_neg h1] at hd
          by_cases h2 : id = d
          · rw [if_pos h2] at hd; simp at hd
          · rw [if_neg h2] at hd
            obtain ⟨z, hz, hzd⟩ := g.wf.b d q hd
            have hql := (List.getElem?_eq_some_iff.1 hz).1
            by_cases h3 : i = q
            · subst h3
              rw [hy] at hz
              obtain rfl : y = z := by simpa using hz
              exact absurd (hyd.symm.trans hzd) h2
            · by_cases h4 : q = s.1.length - 1
              · subst h4
                rw [hx] at hz
                obtain rfl : x = z := by simpa using hz
                exact absurd hzd h1
              · exact ⟨z, by rw [fT1, if_neg h3, if_pos (by omega)]; exact hz, hzd⟩
    have ha : Almost (putP (lessP s id) i x) i := by
      constructor
      · intro j hj h1 h2 a b h3 h4
        have hp := par_lt hj
        rw [fT1, if_neg (fun e => h2 e.symm)] at h3
        rw [fT1, if_neg (fun e => h1 e.symm)] at h4
        by_cases h5 : j < s.1.length - 1
        · rw [if_pos (by omega)] at h3
          rw [if_pos h5] at h4
          exact g.ord j hj a b h3 h4
        · rw [if_neg h5] at h4; cases h4
      · intro j hj h1 h2 a b h3 h4
        have hp := par_lt h2
        have hp2 := par_lt hj
        rw [fT1, if_neg (by omega)] at h3
        rw [fT1, if_neg (by omega)] at h4
        by_cases h5 : j < s.1.length - 1
        · rw [if_pos (by omega)] at h3
          rw [if_pos h5] at h4
          exact le2_trans (g.ord i h2 a y h3 hy) (g.ord j hj y b (by rw [h1]; exact hy) h4)
        · rw [if_neg h5] at h4; cases h4
    obtain ⟨r1, r2, r3, r4, r5, r6⟩ := settleP_spec (lessP s id) i x (by rw [len1]; exact hlast) (by rw [len2]; exact hxl) hw ha
    rw [e0]
    refine ⟨⟨r1, r2⟩, fun d => (r3 d).trans ?_, r5.trans len2, r4.trans len1, hil, fun _ => ⟨x, hx, hxl, r6⟩⟩
    by_cases h1 : d = id
    · subst h1
      rw [if_pos rfl]
      unfold keyOf
      rw [fT2, if_neg hxid, if_pos rfl]
    · rw [if_neg h1]
      by_cases h2 : x.2 = d
      · subst h2
        rw [keyOf_at hw (i := i) (by rw [fT1, if_pos rfl]), keyOf_at g.wf hx]
      · unfold keyOf
        rw [fT2, if_neg h2, if_neg (fun e => h1 e.symm)]
        split
        · rename_i q hq
          obtain ⟨z, hz, hzd⟩ := g.wf.b d q hq
          have hql := (List.getElem?_eq_some_iff.1 hz).1
          have h3 : i ≠ q := by
            rintro rfl
            rw [hy] at hz
            obtain rfl : y = z := by simpa using hz
            exact h1 (hzd.symm.trans hyd)
          have h4 : q ≠ s.1.length - 1 := by
            rintro rfl
            rw [hx] at hz
            obtain rfl : x = z := by simpa using hz
            exact h2 hzd
          rw [fT1, if_neg h3, if_pos (by omega)]
        · rfl
  · have e0 : removeP s id = lessP s id := by simp only [removeP, hgd, Nat.add_sub_cancel, if_neg hlast]
    rw [e0]
    refine ⟨⟨⟨?_, ?_⟩, ?_⟩, ?_, len2, len1, hil, fun h => absurd h hlast⟩
    · intro j z hz
      rw [l1] at hz
      rw [l2]
      by_cases h2 : j < s.1.length - 1
      · rw [if_pos h2] at hz
        have h3 := g.wf.a j z hz
        by_cases h5 : id = z.2
        · rw [← h5, hpl] at h3; simp at h3; omega
        · rw [if_neg h5]; exact h3
      · rw [if_neg h2] at hz; cases hz
    · intro d q hd
      rw [l2] at hd
      by_cases h2 : id = d
      · rw [if_pos h2] at hd; simp at hd
      · rw [if_neg h2] at hd
        obtain ⟨z, hz, hzd⟩ := g.wf.b d q hd
        have hql := (List.getElem?_eq_some_iff.1 hz).1
        by_cases h3 : i = q
        · subst h3
          rw [hy] at hz
          obtain rfl : y = z := by simpa using hz
          exact absurd (hyd.symm.trans hzd) h2
        · exact ⟨z, by rw [l1, if_pos (by omega)]; exact hz, hzd⟩
    · intro j hj a b h3 h4
      have hp := par_lt hj
      rw [l1] at h3 h4
      by_cases h5 : j < s.1.length - 1
      · rw [if_pos (by omega)] at h3
        rw [if_pos h5] at h4
        exact g.ord j hj a b h3 h4
      · rw [if_neg h5] at h4; cases h4
    · intro d
      unfold keyOf
      rw [l2]
      by_cases h1 : d = id
      · subst h1; rw [if_pos rfl, if_pos rfl]
      · rw [if_neg (fun e => h1 e.symm), if_neg h1]
        split
        · rename_i q hq
          obtain ⟨z, hz, hzd⟩ := g.wf.b d q hq
          have hql := (List.getElem?_eq_some_iff.1 hz).1
          have h3 : q ≠ i := by
            rintro rfl
            rw [hy] at hz
            obtain rfl : y = z := by simpa using hz
            exact h1 (hzd.symm.trans hyd)
          rw [l1, if_pos (by omega)]
        · rfl

/-! ### the least thing -/
theorem top_least {s : HS} (o : Ord s) {x : Item} (hx : s.1[0]? = some x) : ∀ (n j : Nat) (y : Item), j = n → s.1[j]? = some y → le2 x y := by
  intro n
  induction n using Nat.strongRecOn with
  | _ n ih =>
    intro j y hj hy
    subst hj
    by_cases h0 : 0 < j
    · have hp := par_lt h0
      have hjl := (List.getElem?_eq_some_iff.1 hy).1
      obtain ⟨z, hz⟩ : ∃ z, s.1[par j]? = some z := ⟨_, List.getElem?_eq_getElem (by omega)⟩
      exact le2_trans (ih (par j) hp (par j) z rfl hz) (o j h0 z y hz hy)
    · obtain rfl : j = 0 := by omega
      rw [hx] at hy
      obtain rfl : x = y := by simpa using hy
      exact le2_refl _

/-- A heap of n things that holds those that m gives a key. -/
structure Holds (s : HS) (n : Nat) (m : Nat → Option Int) : Prop where
  good : Good s
  len : s.2.length = n
  key : ∀ d, keyOf s d = m d
/-- The least of what m gives a key, if there is one. -/
theorem Holds.top {s : HS} {n : Nat} {m : Nat → Option Int} (h : Holds s n m) {k : Int} {id : Nat} (hx : s.1[0]? = some (k, id)) : m id = some k ∧ id < n ∧ ∀ d v, m d = some v → le2 (k, id) (v, d) := by
  refine ⟨?_, ?_, ?_⟩
  · rw [← h.key, keyOf_at h.good.wf hx]
  · rw [← h.len]
    exact (List.getElem?_eq_some_iff.1 (h.good.wf.a 0 _ hx)).1
  · intro d v hd
    rw [← h.key] at hd
    obtain ⟨i, hi, _⟩ := keyOf_some h.good.wf hd
    exact top_least h.good.ord hx i i _ rfl hi
theorem Holds.empty {s : HS} {n : Nat} {m : Nat → Option Int} (h : Holds s n m) (h0 : s.1 = []) : ∀ d, m d = none := by
  intro d
  rw [← h.key]
  cases hk : keyOf s d with
  | none => rfl
  | some k =>
    obtain ⟨i, hi, _⟩ := keyOf_some h.good.wf hk
    rw [h0] at hi
    simp at hi
theorem Holds.new (n : Nat) : Holds ([], List.replicate n 0) n (fun _ => none) := by
  refine ⟨⟨⟨fun i x h => (by simp at h), fun id p h => ?_⟩, fun j _ a b h => (by simp at h)⟩, by simp, fun d => ?_⟩
  · have := List.mem_of_getElem? h
    simp at this
  · unfold keyOf
    split
    · rename_i p hp
      have := List.mem_of_getElem? hp
      simp at this
    · rfl
end Go.Proofs.YtchhbgckonpedaaGreatDoor

/- A heap holds no more things than it has places. No program here. -/
namespace Go.Proofs.YtchhbgckonpedaaGreatDoor
theorem nodup_bound : ∀ (n : Nat) (l : List Nat), l.Nodup → (∀ x ∈ l, x < n) → l.length ≤ n
  | 0, l, _, h => by
    cases l with
    | nil => simp
    | cons a l => exact absurd (h a (by simp)) (by omega)
  | n + 1, l, hd, h => by
    by_cases hn : n ∈ l
    · have h1 := nodup_bound n (l.erase n) (hd.erase n) (fun x hx => by
        have h2 := (List.Nodup.mem_erase_iff hd).1 hx
        have h3 := h x h2.2
        omega)
      rw [List.length_erase_of_mem hn] at h1
      omega
    · have := nodup_bound n l hd (fun x hx => by
        have h3 := h x hx
        have : x ≠ n := fun e => hn (e ▸ hx)
        omega)
      omega
theorem downP_length2 (x : Item) : ∀ (n : Nat) (s : HS) (i : Nat), s.1.length - i = n → (downP s i x).2.length = s.2.length := by
  intro n
  induction n using Nat.strongRecOn with
  | _ n ih =>
    intro s i hn
    cases hb : bestTo s i 4 with
    | none => rw [downP_none hb, putP_length2]
    | some c =>
      have hr := bestTo_range s i 4 c hb
      rw [downP_some hb]
      split
      · rw [ih (s.1.length - c) (by omega) _ c (by rw [putP_length]), putP_length2]
      · rw [putP_length2]
theorem upP_length2 (x : Item) : ∀ (n : Nat) (s : HS) (i : Nat), i = n → (upP s i x).2.length = s.2.length := by
  intro n
  induction n using Nat.strongRecOn with
  | _ n ih =>
    intro s i hn
    rw [upP]
    split
    · split
      · rw [ih ((i - 1) / 4) (by omega) _ _ rfl, putP_length2]
      · rw [putP_length2]
    · rw [putP_length2]
theorem WF.bound {s : HS} (h : WF s) : s.1.length ≤ s.2.length := by
  have hd : (s.1.map (·.2)).Nodup := by
    rw [List.nodup_iff_pairwise_ne, List.pairwise_iff_getElem]
    intro i j hi hj hij e
    simp only [List.length_map] at hi hj
    simp only [List.getElem_map] at e
    have h1 := h.a i _ (List.getElem?_eq_getElem hi)
    have h2 := h.a j _ (List.getElem?_eq_getElem hj)
    rw [e, h2] at h1
    simp at h1
    omega
  have := nodup_bound s.2.length (s.1.map (·.2)) hd (fun x hx => by
    obtain ⟨y, hy, rfl⟩ := List.mem_map.1 hx
    obtain ⟨i, hi⟩ := List.mem_iff_getElem?.1 hy
    exact (List.getElem?_eq_some_iff.1 (h.a i y hi)).1)
  simpa using this
end Go.Proofs.YtchhbgckonpedaaGreatDoor

/- Contracts of package heap: less, put, up, down. -/
namespace Go.Proofs.YtchhbgckonpedaaGreatDoor
open Go.ChangeShapes Go.WideShapes Go.ChangeAt Go.RowKit Go.Joins Go.Deep

theorem less_any (x y : Item) (w : World) :
    Calls Tryz.prog 154 #[.agg #[.int .u64 x.1, .int .u32 x.2], .agg #[.int .u64 y.1, .int .u32 y.2]] w fun e w' => e = .returned (.bool (lt2 x y)) ∧ Below w.heap.size w w' := by
  obtain ⟨k, i⟩ := x
  obtain ⟨k', i'⟩ := y
  by_cases h1 : k < k'
  · have e : lt2 (k, i) (k', i') = true := by simp [lt2, h1]
    rw [e]
    go_enter Tryz.func154, Tryz.ntmps154
    go_wp2
    go_returns
    exact ⟨rfl, by go_grown⟩
  by_cases h2 : k = k'
  · subst h2
    have e : lt2 (k, i) (k, i') = decide ((i : Int) < i') := by simp [lt2]
    rw [e]
    go_enter Tryz.func154, Tryz.ntmps154
    go_wp2
    go_returns
    exact ⟨by simp, by go_grown⟩
  · have e : lt2 (k, i) (k', i') = false := by simp [lt2, h1, h2]
    rw [e]
    go_enter Tryz.func154, Tryz.ntmps154
    go_wp2
    go_returns
    exact ⟨rfl, by go_grown⟩

def itemCells (x : Item) : List Value := [.int .u64 x.1, .int .u32 x.2]
theorem itemCells_len (x : Item) : (itemCells x).length = 2 := rfl
/-- The heap at the block hb: its items in the slice iv, its places in the block ab. -/
structure HRep (w : World) (hb : Nat) (iv : Value) (ab : Nat) (s : HS) : Prop where
  hd : Cells w hb 248 [iv, .slice (some ⟨ab, 0, none⟩) s.2.length s.2.length]
  its : w.ownsRow 0 250 2 iv s.1.length (s.1.flatMap itemCells)
  pl : Cells w ab 3 (s.2.map fun (n : Nat) => .int .i64 (n : Int))
  ids : ∀ x ∈ s.1, x.2 < s.2.length
  n : s.2.length ≤ 65536
  m : s.1.length ≤ 65536
  ne : hb ≠ ab
  ne1 : iv.ownBlock ≠ some hb
  ne2 : iv.ownBlock ≠ some ab
/-- The blocks that a heap may write. -/
def hfoot (hb : Nat) (iv : Value) (ab : Nat) : List Nat := hb :: ab :: iv.ownBlock.toList
namespace HRep
variable {w w' : World} {hb ab : Nat} {iv : Value} {s : HS}
theorem kept {bs : List Nat} (h : HRep w hb iv ab s) (o : Only bs w w') (hn : ∀ k ∈ hfoot hb iv ab, k ∉ bs) : HRep w' hb iv ab s :=
  ⟨h.hd.kept o (hn _ (by simp [hfoot])), own_kept h.its o (fun k hk => hn k (by simp [hfoot, hk])), h.pl.kept o (hn _ (by simp [hfoot])), h.ids, h.n, h.m, h.ne, h.ne1, h.ne2⟩
theorem lt (h : HRep w hb iv ab s) : ∀ k ∈ hfoot hb iv ab, k < w.heap.size := by
  intro k hk
  simp only [hfoot, List.mem_cons, Option.mem_toList] at hk
  rcases hk with rfl | rfl | hk
  · exact h.hd.lt
  · exact h.pl.lt
  · exact (h.its.lt k hk).2
/-- What is new or lies elsewhere: below. -/
theorem below (h : HRep w hb iv ab s) (o : Below w.heap.size w w') : HRep w' hb iv ab s := h.kept (bs := []) (Only.of_below o) (fun _ _ => by simp)
theorem alloc (h : HRep w hb iv ab s) (o : Obj) : HRep (w.alloc o) hb iv ab s := h.below ((Below.refl _ _).alloc (Nat.le_refl _) o)
theorem drew (h : HRep w hb iv ab s) : HRep w.drew hb iv ab s := h.below (Below.refl _ _).drew
theorem drewN (h : HRep w hb iv ab s) (n : Nat) : HRep (w.drewN n) hb iv ab s := ⟨h.hd, h.its, h.pl, h.ids, h.n, h.m, h.ne, h.ne1, h.ne2⟩
theorem item (h : HRep w hb iv ab s) {i : Nat} {x : Item} (hx : s.1[i]? = some x) : ∃ ib cap, iv = .slice (some ⟨ib, 0, none⟩) s.1.length cap ∧ w.cell? ⟨ib, i * 2, none⟩ = some (.int .u64 x.1) ∧ w.cell? ⟨ib, i * 2 + 1, none⟩ = some (.int .u32 x.2) ∧
    w.frozen? ⟨ib, i * 2, none⟩ = false ∧ w.frozen? ⟨ib, i * 2 + 1, none⟩ = false ∧ ib ≠ hb ∧ ib ≠ ab ∧ ib < w.heap.size := by
  have hi : i < s.1.length := (List.getElem?_eq_some_iff.1 hx).1
  obtain ⟨ib, cap, rfl, _, hl⟩ := own_form h.its (by omega)
  have g0 := h.its.cellAt (i * 2) (by omega)
  have g1 := h.its.cellAt (i * 2 + 1) (by omega)
  have e0 := flat_get itemCells_len s.1 i 0 (by omega)
  have e1 := flat_get itemCells_len s.1 i 1 (by omega)
  rw [Nat.add_zero] at e0
  rw [e0, hx] at g0
  rw [e1, hx] at g1
  exact ⟨ib, cap, rfl, g0, g1, h.its.frozenAt _, h.its.frozenAt _, fun e => h.ne1 (by rw [e]; rfl), fun e => h.ne2 (by rw [e]; rfl), hl⟩
theorem itemIn {ib n cap : Nat} (h : HRep w hb (.slice (some ⟨ib, 0, none⟩) n cap) ab s) {i : Nat} {x : Item} (hx : s.1[i]? = some x) : w.cell? ⟨ib, i * 2, none⟩ = some (.int .u64 x.1) ∧ w.cell? ⟨ib, i * 2 + 1, none⟩ = some (.int .u32 x.2) ∧ s.1.length = n := by
  obtain ⟨ib', cap', e, h1, h2, -⟩ := h.item hx
  simp only [Value.slice.injEq, Option.some.injEq, Addr.mk.injEq, and_true] at e
  obtain ⟨rfl, rfl, rfl⟩ := e
  exact ⟨h1, h2, rfl⟩
theorem place (h : HRep w hb iv ab s) {id : Nat} (hid : id < s.2.length) : w.cell? ⟨ab, id, none⟩ = some (.int .i64 (s.2.getD id 0 : Nat)) ∧ w.frozen? ⟨ab, id, none⟩ = false := by
  refine ⟨h.pl.cell ?_, h.pl.frozen _⟩
  simp [hid]
theorem put {ib cap i : Nat} {x : Item} (h : HRep w hb (.slice (some ⟨ib, 0, none⟩) s.1.length cap) ab s) (hi : i < s.1.length) (hx : x.2 < s.2.length) :
    HRep (((w.setCell ⟨ib, i * 2, none⟩ (.int .u64 x.1)).setCell ⟨ib, i * 2 + 1, none⟩ (.int .u32 x.2)).setCell ⟨ab, x.2, none⟩ (.int .i64 ((i : Int) + 1))) hb (.slice (some ⟨ib, 0, none⟩) s.1.length cap) ab (putP s i x) := by
  have n1 : ib ≠ hb := fun e => h.ne1 (by rw [e]; rfl)
  have n2 : ib ≠ ab := fun e => h.ne2 (by rw [e]; rfl)
  have hy : s.1[i]? = some s.1[i] := List.getElem?_eq_getElem hi
  have o1 := (h.its.stored (i * 2) (.int .u64 x.1)).1
  have o2 := (o1.stored (i * 2 + 1) (.int .u32 x.2)).1
  have e1 : (s.1.flatMap itemCells).set (i * 2) (.int .u64 x.1) = (s.1.set i (x.1, s.1[i].2)).flatMap itemCells := flat_set itemCells_len s.1 i 0 (by omega) _ (x.1, s.1[i].2) _ hy rfl
  have hy2 : (s.1.set i (x.1, s.1[i].2))[i]? = some (x.1, s.1[i].2) := by simp [hi]
  have e2 := flat_set itemCells_len (s.1.set i (x.1, s.1[i].2)) i 1 (by omega) _ x (.int .u32 x.2) hy2 rfl
  rw [e1, e2, List.set_set] at o2
  refine ⟨?_, ?_, ?_, ?_, by rw [putP_length2]; exact h.n, by rw [putP_length]; exact h.m, h.ne, h.ne1, h.ne2⟩
  · rw [putP_length2]
    exact ((h.hd.other n1.symm _).other n1.symm _).other h.ne _
  · rw [putP_length]
    exact Go.ownsRow_setCell_other o2 (by simp [Value.ownBlock, n2]) _
  · have := ((h.pl.other (a := ⟨ib, i * 2, none⟩) n2.symm (.int .u64 x.1)).other (a := ⟨ib, i * 2 + 1, none⟩) n2.symm (.int .u32 x.2)).set x.2 (.int .i64 ((i : Int) + 1))
    simpa [putP, List.map_set] using this
  · intro y hy'
    rw [putP_length2]
    rcases List.mem_or_eq_of_mem_set hy' with h' | rfl
    · exact h.ids y h'
    · exact hx
end HRep

theorem put_any {hb ab : Nat} {iv : Value} {s : HS} (i : Nat) (x : Item) (w : World) (h : HRep w hb iv ab s) (hi : i < s.1.length) (hx : x.2 < s.2.length) :
    Calls Tryz.prog 150 #[.pointer (some ⟨hb, 0, none⟩), .int .i64 i, .agg #[.int .u64 x.1, .int .u32 x.2]] w fun e w' => e = .returned (.tuple #[]) ∧ HRep w' hb iv ab (putP s i x) ∧ Only (hfoot hb iv ab) w w' := by
  obtain ⟨ib, cap, rfl, g0, g1, f0, f1, ne0, ne1, l1⟩ := h.item (List.getElem?_eq_getElem hi)
  obtain ⟨g2, f2⟩ := h.place hx
  have h0 : w.cell? ⟨hb, 0, none⟩ = some (.slice (some ⟨ib, 0, none⟩) s.1.length cap) := h.hd.cell rfl
  have h1 : w.cell? ⟨hb, 1, none⟩ = some (.slice (some ⟨ab, 0, none⟩) s.2.length s.2.length) := h.hd.cell rfl
  have l0 := h.hd.lt
  have l2 := h.pl.lt
  have ne2 := h.ne
  have ne3 : ab ≠ hb := fun e => ne2 e.symm
  have ne4 : ab ≠ ib := fun e => ne1 e.symm
  have hn := h.n
  have hm := h.m
  have H : Hid (HRep w hb (.slice (some ⟨ib, 0, none⟩) s.1.length cap) ab s) := h
  clear h
  go_enter Tryz.func150, Tryz.ntmps150
  go_wp2
  go_region
  go_wp2
  go_region
  go_wp2
  go_returns
  refine ⟨rfl, (((H.out.put hi hx).alloc _).drew).drew, ?_⟩
  refine Only.drew (Only.drew (Only.alloc (Only.setCell (Only.setCell (Only.setCell (Only.refl _ _) (.inl ?_) _) (.inl ?_) _) (.inl ?_) _) _)) <;> simp [hfoot, Value.ownBlock]
end Go.Proofs.YtchhbgckonpedaaGreatDoor

/- Contracts of package heap: up, down. -/
namespace Go.Proofs.YtchhbgckonpedaaGreatDoor
open Go.ChangeShapes Go.WideShapes Go.ChangeAt Go.RowKit Go.Joins Go.Deep

set_option maxRecDepth 100000 in
theorem up_any {hb ab : Nat} {iv : Value} {s : HS} (i : Nat) (x : Item) (w : World) (h : HRep w hb iv ab s) (hx : s.1[i]? = some x) :
    Calls Tryz.prog 151 #[.pointer (some ⟨hb, 0, none⟩), .int .i64 i] w fun e w' => e = .returned (.tuple #[]) ∧ HRep w' hb iv ab (upP s i x) ∧ Only (hfoot hb iv ab) w w' := by
  have hi : i < s.1.length := (List.getElem?_eq_some_iff.1 hx).1
  obtain ⟨ib, cap, rfl, g0, g1, f0, f1, ne0, ne1, l1⟩ := h.item hx
  have h0 : w.cell? ⟨hb, 0, none⟩ = some (.slice (some ⟨ib, 0, none⟩) s.1.length cap) := h.hd.cell rfl
  have l0 := h.hd.lt
  have hm := h.m
  have hid : x.2 < s.2.length := h.ids x (List.mem_of_getElem? hx)
  have H : Hid (HRep w hb (.slice (some ⟨ib, 0, none⟩) s.1.length cap) ab s) := h
  clear h
  have HX := Lib.hid hx
  clear hx
  go_enter Tryz.func151, Tryz.ntmps151
  go_wp2_with fail
  go_loopw [1, 5] (fun vi vp wr => ∃ (j : Nat) (s' : HS), vi = .int .i64 j ∧ j < s'.1.length ∧ s'.1.length = s.1.length ∧ s'.2.length = s.2.length ∧ HRep wr hb (.slice (some ⟨ib, 0, none⟩) s.1.length cap) ab s' ∧ upP s' j x = upP s i x ∧
      Cells wr w.heap.size 250 (itemCells x) ∧ Only (hfoot hb (.slice (some ⟨ib, 0, none⟩) s.1.length cap) ab) w wr) (fun vi _ _ => (intOf vi).toNat)
  case atStart =>
    exact ⟨i, s, rfl, hi, rfl, rfl, H.out.alloc _, rfl, Cells.new w _ _, (Only.refl _ _).alloc _⟩
  case round =>
    obtain ⟨j, s', rfl, hj, hs1, hs2, hr, hu, hc, ho⟩ := hrel
    have hs0 : wr.cell? ⟨w.heap.size, 0, none⟩ = some (.int .u64 x.1) := hc.cell rfl
    have hs1' : wr.cell? ⟨w.heap.size, 1, none⟩ = some (.int .u32 x.2) := hc.cell rfl
    have hh0 : wr.cell? ⟨hb, 0, none⟩ = some (.slice (some ⟨ib, 0, none⟩) s.1.length cap) := hr.hd.cell rfl
    have hl := hr.m
    by_cases hj0 : 0 < j
    · obtain ⟨q, hq, hq2⟩ : ∃ q : Nat, ((j : Int) - 1) / 4 = (q : Int) ∧ q = (j - 1) / 4 := ⟨(j - 1) / 4, by omega, rfl⟩
      have hqj : q < j := by omega
      obtain ⟨y, hy⟩ : ∃ y, s'.1[q]? = some y := ⟨_, List.getElem?_eq_getElem (by omega)⟩
      obtain ⟨y0, y1, -⟩ := hr.itemIn hy
      have HQ := Lib.hid hq
      have HQ2 := Lib.hid hq2
      have HY := Lib.hid hy
      have HU := Lib.hid hu
      have HR := Lib.hid hr
      have HC := Lib.hid hc
      have HO := Lib.hid ho
      have HS1 := Lib.hid hs1
      have HS2 := Lib.hid hs2
      have hql : q < s.1.length := by omega
      have hj2 : (1 : Int) ≤ j := by omega
      clear hq hq2 hy hu hr hc ho hs1 hs2
      go_wp2_with fail
      rw [HQ.out]
      go_still_tail 8, (by kernel_rfl)
      cases hlt : lt2 x y
      · go_wp2_with fail
        refine (less_any x y _).mono ?_
        rintro e w1 ⟨rfl, hg⟩
        have b0 := ck hg (show wr.drew.cell? _ = _ from hs0)
        have b1 := ck hg (show wr.drew.cell? _ = _ from hs1')
        have e1 : upP s' j x = putP s' j x := by
          rw [upP, if_pos hj0, ← HQ2.out, show itemAt s' q = y by simp [itemAt, HY.out], hlt]; simp
        have HE := Lib.hid e1
        have HG := Lib.hid hg
        clear e1 hg
        go_wp2_with fail
        refine (put_any j x _ ((HR.out.drew).below HG.out) hj (by rw [HS2.out]; exact hid)).mono ?_
        rintro e w2 ⟨rfl, hr2, ho2⟩
        go_wp2
        go_returns
        refine ⟨rfl, ?_, ?_⟩
        · rw [← HU.out, HE.out]; exact hr2
        · exact ((HO.out.drew).trans (Only.of_below (bs := []) HG.out) (by simp)).trans ho2 (fun _ h => .inl h)
      · go_wp2_with fail
        refine (less_any x y _).mono ?_
        rintro e w1 ⟨rfl, hg⟩
        have b0 := ck hg (show wr.drew.cell? _ = _ from y0)
        have b1 := ck hg (show wr.drew.cell? _ = _ from y1)
        have b2 := ck hg (show wr.drew.cell? _ = _ from hh0)
        have e1 : upP s' j x = upP (putP s' j y) q x := by
          rw [upP, if_pos hj0, ← HQ2.out, show itemAt s' q = y by simp [itemAt, HY.out], hlt]; simp
        have hyi : y.2 < s'.2.length := HR.out.ids y (List.mem_of_getElem? HY.out)
        have HE := Lib.hid e1
        have HG := Lib.hid hg
        clear e1 hg
        go_wp2_with fail
        refine (put_any j y _ ((HR.out.drew).below HG.out) hj hyi).mono ?_
        rintro e w2 ⟨rfl, hr2, ho2⟩
        have ho2' : Only (hfoot hb (.slice (some ⟨ib, 0, none⟩) s.1.length cap) ab) w w2 := ((HO.out.drew).trans (Only.of_below (bs := []) HG.out) (by simp)).trans ho2 (fun _ h => .inl h)
        have hc2 : Cells w2 w.heap.size 250 (itemCells x) := ((HC.out.drew).below HG.out (HC.out.lt)).kept ho2 (fun h => by have := H.out.lt _ h; omega)
        have HR2 := Lib.hid hr2
        have HO2 := Lib.hid ho2'
        have HC2 := Lib.hid hc2
        clear hr2 ho2 ho2' hc2
        go_wp2_with fail
        go_roundw
        case rel => exact ⟨q, putP s' j y, rfl, by rw [putP_length]; omega, by rw [putP_length, HS1.out], by rw [putP_length2, HS2.out], HR2.out, by rw [← HE.out, HU.out], HC2.out, HO2.out⟩
        case measure => simp [intOf]; omega
    · have e1 : upP s' j x = putP s' j x := by rw [upP, if_neg hj0]
      have HE := Lib.hid e1
      have HU := Lib.hid hu
      have HR := Lib.hid hr
      have HO := Lib.hid ho
      have HS2 := Lib.hid hs2
      clear e1 hu hr hc ho hs1 hs2
      go_wp2_with fail
      refine (put_any j x _ HR.out hj (by rw [HS2.out]; exact hid)).mono ?_
      rintro e w2 ⟨rfl, hr2, ho2⟩
      go_wp2
      go_returns
      refine ⟨rfl, ?_, HO.out.trans ho2 (fun _ h => .inl h)⟩
      rw [← HU.out, HE.out]; exact hr2
end Go.Proofs.YtchhbgckonpedaaGreatDoor
