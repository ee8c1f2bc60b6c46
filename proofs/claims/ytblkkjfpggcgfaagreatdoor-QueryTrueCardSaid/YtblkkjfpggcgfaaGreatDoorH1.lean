/- Lemmas on worlds that every contract uses: what is left as it was, rows of cells, and how a law's row follows from its walk. -/
import Derived.Test.YtblkkjfpggcgfaaGreatDoorRows
import Derived.WalkKit
import Derived.WalkSpells
import Derived.WalkLawsBesides
import Derived.ProofKit
import Derived.OpenShut
import Derived.Outline
import Derived.Handy
import Derived.Laws.Bits64
import Derived.Laws.BitsLemmas
import Derived.Deep.QuietTactic
import Derived.BigQuiet
import Derived.BigRegion
import Derived.Deep.RegionHeld3
import Derived.Deep.DeepFit
import Derived.Deep.LoopGhost
import Derived.Lib.Hide
import Derived.Lib.SmallJoins
import Derived.Laws.AppendOwn
import Derived.Laws.MakeOwn
import Derived.OwnWalk
import Derived.Deep.OwnRows
import Derived.StillTailTactics
namespace Go.Proofs.YtblkkjfpggcgfaaGreatDoor
open Go.ChangeShapes Go.WideShapes Go.ChangeAt Go.RowKit Go.Joins Go.Deep
theorem bt {a b c : World} (h : Below a.heap.size a b) (k : Below b.heap.size b c) : Below a.heap.size a c := h.trans (k.mono h.size)
theorem ck {W w1 : World} {b o : Nat} {v : Value} (hb : Below W.heap.size W w1) (h : W.cell? ⟨b, o, none⟩ = some v) : w1.cell? ⟨b, o, none⟩ = some v :=
  (hb.cell (p := ⟨b, o, none⟩) (World.block_lt_of_cell? W _ h)).trans h
structure Only (bs : List Nat) (w w' : World) : Prop where
  os : w'.os = w.os
  tape : w'.tape = w.tape
  output : w'.output = w.output
  size : w.heap.size ≤ w'.heap.size
  block : ∀ k, k < w.heap.size → k ∉ bs → w'.heap[k]? = w.heap[k]?
namespace Only
theorem refl (bs : List Nat) (w : World) : Only bs w w := ⟨rfl, rfl, rfl, Nat.le_refl _, fun _ _ _ => rfl⟩
theorem trans {bs bs' : List Nat} {a b c : World} (h : Only bs a b) (k : Only bs' b c) (hs : ∀ x ∈ bs', x ∈ bs ∨ a.heap.size ≤ x) : Only bs a c :=
  ⟨k.os.trans h.os, k.tape.trans h.tape, k.output.trans h.output, Nat.le_trans h.size k.size, fun i hi hn => (k.block i (Nat.lt_of_lt_of_le hi h.size) (fun hx => by
    rcases hs i hx with h' | h'
    · exact hn h'
    · omega)).trans (h.block i hi hn)⟩
theorem drew {bs : List Nat} {a w : World} (h : Only bs a w) : Only bs a w.drew := ⟨h.os, h.tape, h.output, h.size, h.block⟩
theorem drewN {bs : List Nat} {a w : World} (h : Only bs a w) (n : Nat) : Only bs a (w.drewN n) := ⟨h.os, h.tape, h.output, h.size, h.block⟩
theorem alloc {bs : List Nat} {a w : World} (h : Only bs a w) (o : Obj) : Only bs a (w.alloc o) :=
  ⟨h.os, h.tape, h.output, Nat.le_trans h.size (by simp), fun i hi hn => (Below.heap_alloc w o i (Nat.lt_of_lt_of_le hi h.size)).trans (h.block i hi hn)⟩
theorem setCell {bs : List Nat} {a w : World} (h : Only bs a w) {p : Addr} (hp : p.block ∈ bs ∨ a.heap.size ≤ p.block) (u : Value) : Only bs a (w.setCell p u) :=
  ⟨h.os, h.tape, h.output, by simpa [World.setCell] using h.size, fun i hi hn => (Below.heap_setCell w p u i (by
    rintro rfl
    rcases hp with hp | hp
    · exact hn hp
    · omega)).trans (h.block i hi hn)⟩
theorem of_below {bs : List Nat} {a w : World} (h : Below a.heap.size a w) : Only bs a w := ⟨h.os, h.tape, h.output, h.size, fun i hi _ => h.block i hi⟩
theorem below {bs : List Nat} {B : Nat} {a w : World} (h : Only bs a w) (hB : B ≤ a.heap.size) (hb : ∀ x ∈ bs, B ≤ x) : Below B a w :=
  ⟨h.os, h.tape, h.output, h.size, fun i hi => h.block i (by omega) (fun hx => by have := hb i hx; omega)⟩
theorem cell {bs : List Nat} {a w : World} (h : Only bs a w) {b o : Nat} {v : Value} (hv : a.cell? ⟨b, o, none⟩ = some v) (hn : b ∉ bs) : w.cell? ⟨b, o, none⟩ = some v :=
  (World.cell?_of_block (h.block b (World.block_lt_of_cell? a _ hv) hn)).trans hv
end Only
theorem block_lt {w : World} {b o : Nat} {v : Value} (h : w.cell? ⟨b, o, none⟩ = some v) : b < w.heap.size := World.block_lt_of_cell? w _ h
section
variable {H : Type} {enc : TypeId × Value → H} {P : Program}
theorem trodAll_below (hl : laidOutB P = true) {W W' : World} (hb : Below W.heap.size W W') : ∀ {ts : List TypeId} {vs : List Value} {ds : List (DataW H)} {ps : List MemPlace},
    (∀ t ∈ ts, P.readableRec t = true ∧ t < P.types.size) → DataW.TrodAll enc P W 0 (fun _ => true) true ts vs ds ps → (∀ x ∈ ps, x.block < W.heap.size) →
    DataW.TrodAll enc P W' 0 (fun b => decide (b < W.heap.size)) true ts vs ds ps := by
  intro ts
  induction ts with
  | nil => intro vs ds ps _ h _; cases vs <;> cases ds <;> first | exact h | exact h.elim
  | cons t ts ih =>
    intro vs ds ps hr h hlt
    obtain ⟨v, vs', d, ds', p, q, rfl, rfl, rfl, h1, h2⟩ := trodAll_cons h
    exact ⟨p, q, Below.trod hl (hr t (by simp)).1 (hr t (by simp)).2 h1 hb (fun x hx => hlt x (by simp [hx])), ih (fun t' ht' => hr t' (by simp [ht'])) h2 (fun x hx => hlt x (by simp [hx])), rfl⟩
theorem law_post {f : Func} {s : ChangeSpec} {apart fresh handsOn : Bool} {W W' : World} {args : Array Value} {tb : TypeId} {ds gs : List (DataW H)} {before : List MemPlace} (hl : laidOutB P = true) (hr : ∀ t ∈ f.params.toList, P.readableRec t = true ∧ t < P.types.size)
    (hW : DataW.Whole enc P f.params.toList s.vars apart W args.toList ds gs before) (hv : s.vars = []) (hres : f.resultTypes = #[tb]) (ht : P.underlying tb = some .bool)
    (hs : s.fn H (ds ++ gs) = { results := [.lit (.bool true)], args := ds }) (hb : Below W.heap.size W W') : s.post enc P f apart fresh handsOn false W args (.bool true) W' := by
  have hlt : ∀ p ∈ before, p.block < W.heap.size := fun p hp => hW.lt p hp
  have hW' := hW
  obtain ⟨p, q, hA, hV, rfl, _, _⟩ := hW
  rw [hv] at hV
  obtain ⟨rfl, rfl⟩ := trodVars_none hV
  refine ⟨ds, [], p ++ [], [], p, [], hW', ?_, ?_, ?_, hb.frame _, fun h => by cases h⟩
  · rw [hs, hres]
    exact trodAll_mk1 (shut_bool ht _)
  · rw [hs]
    exact trodAll_below hl hb hr hA (fun x hx => hlt x (by simp [hx]))
  · rw [hs, hv]
    rfl
end
end Go.Proofs.YtblkkjfpggcgfaaGreatDoor
/- Rows of cells: what a slice of structs holds, element by element; one block known whole. -/
namespace Go.Proofs.YtblkkjfpggcgfaaGreatDoor
open Go.ChangeShapes Go.WideShapes Go.ChangeAt Go.RowKit Go.Joins Go.Deep
section
variable {α : Type} {f : α → List Value} {sz : Nat}
theorem flat_length (hf : ∀ x, (f x).length = sz) (l : List α) : (l.flatMap f).length = l.length * sz := by
  induction l with
  | nil => simp
  | cons a l ih => rw [List.flatMap_cons, List.length_append, ih, hf, List.length_cons, Nat.add_mul, Nat.one_mul, Nat.add_comm]
theorem flat_get (hf : ∀ x, (f x).length = sz) (l : List α) (i j : Nat) (hj : j < sz) : (l.flatMap f)[i * sz + j]? = (l[i]?).bind fun x => (f x)[j]? := by
  induction l generalizing i with
  | nil => simp
  | cons a l ih =>
    rw [List.flatMap_cons]
    cases i with
    | zero => rw [Nat.zero_mul, Nat.zero_add, List.getElem?_append_left (by rw [hf]; exact hj)]; simp
    | succ i =>
      have e : (i + 1) * sz + j = (f a).length + (i * sz + j) := by rw [hf, Nat.add_mul, Nat.one_mul]; omega
      rw [e, List.getElem?_append_right (by omega), Nat.add_sub_cancel_left, ih]
      simp
theorem flat_set (hf : ∀ x, (f x).length = sz) (l : List α) (i j : Nat) (hj : j < sz) (x y : α) (u : Value) (hx : l[i]? = some x) (hy : f y = (f x).set j u) : (l.flatMap f).set (i * sz + j) u = (l.set i y).flatMap f := by
  induction l generalizing i with
  | nil => simp at hx
  | cons a l ih =>
    cases i with
    | zero =>
      simp only [List.getElem?_cons_zero, Option.some.injEq] at hx
      subst hx
      rw [List.set_cons_zero, List.flatMap_cons, List.flatMap_cons, hy, Nat.zero_mul, Nat.zero_add, List.set_append_left _ _ (by rw [hf]; exact hj)]
    | succ i =>
      simp only [List.getElem?_cons_succ] at hx
      have e : (i + 1) * sz + j = (f a).length + (i * sz + j) := by rw [hf, Nat.add_mul, Nat.one_mul]; omega
      rw [List.set_cons_succ, List.flatMap_cons, List.flatMap_cons, e, List.set_append_right _ _ (by omega), Nat.add_sub_cancel_left, ih i hx]
theorem flat_take (hf : ∀ x, (f x).length = sz) (l : List α) (m : Nat) : (l.take m).flatMap f = (l.flatMap f).take (m * sz) := by
  induction l generalizing m with
  | nil => simp
  | cons a l ih =>
    cases m with
    | zero => simp
    | succ m =>
      rw [List.take_succ_cons, List.flatMap_cons, List.flatMap_cons, ih, Nat.add_mul, Nat.one_mul, Nat.add_comm, ← hf a, List.take_length_add_append]
end
def Cells (w : World) (b : Nat) (t : TypeId) (l : List Value) : Prop := w.heap[b]? = some (.cells l.toArray t (0, 0))
namespace Cells
variable {w : World} {b : Nat} {t : TypeId} {l : List Value}
theorem lt (h : Cells w b t l) : b < w.heap.size := (Array.getElem?_eq_some_iff.1 h).1
theorem cell (h : Cells w b t l) {i : Nat} {v : Value} (hv : l[i]? = some v) : w.cell? ⟨b, i, none⟩ = some v := by
  rw [cell_of_row w b i l.toArray t (0, 0) h]; simpa using hv
theorem frozen (h : Cells w b t l) (i : Nat) : w.frozen? ⟨b, i, none⟩ = false := frozen_of_row w b i l.toArray t h
theorem set (h : Cells w b t l) (i : Nat) (u : Value) : Cells (w.setCell ⟨b, i, none⟩ u) b t (l.set i u) := by
  have := heap_setCell_same w b i l.toArray t u h
  simpa [Cells] using this
theorem other (h : Cells w b t l) {a : Addr} (ha : b ≠ a.block) (u : Value) : Cells (w.setCell a u) b t l := (Below.heap_setCell w a u b ha).trans h
theorem alloc (h : Cells w b t l) (o : Obj) : Cells (w.alloc o) b t l := (Below.heap_alloc w o b h.lt).trans h
theorem drew (h : Cells w b t l) : Cells w.drew b t l := h
theorem drewN (h : Cells w b t l) (n : Nat) : Cells (w.drewN n) b t l := h
theorem new (w : World) (t : TypeId) (l : List Value) : Cells (w.alloc (.cells l.toArray t)) w.heap.size t l := heap_alloc_new w _
theorem kept {w' : World} {bs : List Nat} (h : Cells w b t l) (o : Only bs w w') (hn : b ∉ bs) : Cells w' b t l := (o.block b h.lt hn).trans h
theorem below {w' : World} {B : Nat} (h : Cells w b t l) (o : Below B w w') (hn : b < B) : Cells w' b t l := (o.block b hn).trans h
end Cells
section
variable {w w' : World} {base size n : Nat} {e : TypeId} {v : Value} {xs : List Value}
theorem own_kept {bs : List Nat} (h : w.ownsRow base e size v n xs) (o : Only bs w w') (hn : ∀ k, v.ownBlock = some k → k ∉ bs) : w'.ownsRow base e size v n xs := by
  refine ⟨h.1, ?_⟩
  rcases h.2 with h' | ⟨g, cap, cur, rfl, hb, hg, r⟩
  · exact .inl h'
  · exact .inr ⟨g, cap, cur, rfl, hb, (o.block g (Array.getElem?_eq_some_iff.1 hg).1 (hn g rfl)).trans hg, r⟩
theorem own_drew (h : w.ownsRow base e size v n xs) : w.drew.ownsRow base e size v n xs := h
theorem own_take {g cap m : Nat} (h : w.ownsRow base e size (.slice (some ⟨g, 0, none⟩) n cap) n xs) (hm : m ≤ n) : w.ownsRow base e size (.slice (some ⟨g, 0, none⟩) m cap) m (xs.take (m * size)) := by
  have hmn : m * size ≤ n * size := Nat.mul_le_mul_right _ hm
  refine ⟨by rw [List.length_take, h.1]; omega, ?_⟩
  rcases h.2 with ⟨h', _⟩ | ⟨g', cap', cur, h', hb, hg, hnc, hcm, hcs, htake⟩
  · cases h'
  · simp only [Value.slice.injEq, Option.some.injEq, Addr.mk.injEq, and_true] at h'
    obtain ⟨rfl, -, rfl⟩ := h'
    exact .inr ⟨g, cap, cur, rfl, hb, hg, by omega, hcm, hcs, by rw [← htake, List.take_take, Nat.min_eq_left hmn]⟩
theorem own_form (h : w.ownsRow base e size v n xs) (hn : 0 < n) : ∃ g cap, v = .slice (some ⟨g, 0, none⟩) n cap ∧ base ≤ g ∧ g < w.heap.size := by
  rcases h.2 with ⟨_, rfl⟩ | ⟨g, cap, cur, rfl, hb, hg, _⟩
  · omega
  · exact ⟨g, cap, rfl, hb, (Array.getElem?_eq_some_iff.1 hg).1⟩
theorem own_form' (h : w.ownsRow base e size v n xs) : ∃ ao cap, v = .slice ao n cap := by
  rcases h.2 with ⟨rfl, rfl⟩ | ⟨g, cap, cur, rfl, hb, hg, _⟩
  · exact ⟨_, _, rfl⟩
  · exact ⟨_, _, rfl⟩
end
theorem run_make_n {P : Program} (t e : TypeId) (z : Value) (size bytes : Nat) (ht : P.underlying t = some (.slice e)) (hinfo : (P.info? e).map (fun i => (i.zero, i.size, i.bytes)) = some (some z, size, bytes))
    (kl kc : IntKind) (n : Nat) (hbytes : bytes * n ≤ 281474976710656) (h63 : n ≤ 9223372036854775807) (w : World) :
    (Instr.makeSlice t (.int kl (n : Int)) (.int kc (n : Int))).run P w = .ok (.slice (some ⟨w.heap.size, 0, none⟩) n n) (w.alloc (.cells (madeCells z.cells (n * size)) e)) := by
  obtain ⟨i, hi, hz, hs, hb⟩ := info_parts hinfo
  subst hs
  subst hb
  have hb' : (i.bytes : Int) * (n : Int) ≤ 281474976710656 := by
    have h : ((i.bytes * n : Nat) : Int) ≤ 281474976710656 := by omega
    rwa [Int.natCast_mul] at h
  have hr := run_make (P := P) w t e i z ht hi hz kl kc n n (by omega) (Int.le_refl _) hb' (by omega)
  simp only [Int.toNat_natCast] at hr
  exact hr
theorem madeCells_eq (z : List Value) (n : Nat) (hz : 0 < z.length) : madeCells z.toArray (n * z.length) = ((List.replicate n ()).flatMap fun _ => z).toArray := by
  apply Array.ext'
  apply List.ext_getElem?
  intro j
  have hg := flat_get (f := fun (_ : Unit) => z) (sz := z.length) (fun _ => rfl) (List.replicate n ()) (j / z.length) (j % z.length) (Nat.mod_lt _ hz)
  rw [Nat.mul_comm, Nat.div_add_mod] at hg
  rw [List.toList_toArray, hg]
  have hm := Nat.mod_lt j hz
  by_cases hj : j < n * z.length
  · have hd : j / z.length < n := Nat.div_lt_of_lt_mul (by rw [Nat.mul_comm]; exact hj)
    simp [madeCells, hj, hd, hm]
  · have hd : ¬ j / z.length < n := fun h => hj ((Nat.div_lt_iff_lt_mul hz).1 h)
    simp [madeCells, hj, hd]
section
variable {P : Program} (w : World)
theorem run_app (t ty e : TypeId) (z : Value) (size bytes : Nat) (ht : P.underlying t = some (.slice e)) (hinfo : (P.info? e).map (fun i => (i.zero, i.size, i.bytes)) = some (some z, size, bytes)) (hzs : z.cells.size = size) (hsz : 0 < size)
    (v : Value) (n : Nat) (xs : List Value) (hown : w.ownsRow 0 e size v n xs)
    (a : Addr) (m c : Nat) (news : List Value) (hl : news.length = m * size) (hnews : ∀ j u, news[j]? = some u → w.cell? (a.add j) = some u) (h1 : ∀ u ∈ news, u.oneCell' = true)
    (h63 : n + m ≤ maxLen) (hbytes : (n + m) * bytes ≤ 140737488355328) :
    ∃ ao cap w', (Builtin.append_ #[t, t] ty #[v, .slice (some a) m c]).run P w = .ok (.slice ao (n + m) cap) w' ∧ w'.ownsRow 0 e size (.slice ao (n + m) cap) (n + m) (xs ++ news) ∧ Only v.ownBlock.toList w w' ∧
      (∀ k, (Value.slice ao (n + m) cap).ownBlock = some k → v.ownBlock = some k ∨ w.heap.size ≤ k) := by
  obtain ⟨i, hi, hz, hsize, hby⟩ := info_parts hinfo
  obtain ⟨v', w', hr, ho, hg, hnil⟩ := run_append_own (P := P) w 0 t ty e i z size bytes ht hi hz hsize hby hzs hsz v n xs hown a m c news hl hnews h1 h63 hbytes (Nat.zero_le _)
  have honly : Only v.ownBlock.toList w w' := ⟨hg.os, hg.tape, hg.output, hg.size, fun k hk hn => hg.block k hk (fun e => hn (by simp [← e]))⟩
  obtain ⟨ao, cap, hv'⟩ := own_form' ho
  subst hv'
  refine ⟨ao, cap, w', hr, ho, honly, ?_⟩
  subst hsize
  subst hby
  rcases hown.2 with ⟨rfl, rfl⟩ | ⟨g, cap0, cur, rfl, hbg, hgc, hnc, hcm, hcs, htake⟩
  · intro k hk
    have hx : xs = [] := List.eq_nil_of_length_eq_zero (by simpa using hown.1)
    subst hx
    obtain ⟨v2, w2, hr2, ho2, -, -⟩ := run_append_own (P := P) w w.heap.size t ty e i z i.size i.bytes ht hi hz rfl rfl hzs hsz (.slice none 0 0) 0 [] (World.ownsRow_nil w w.heap.size e i.size) a m c news hl hnews h1 h63 hbytes (Nat.le_refl _)
    rw [hr] at hr2
    simp only [Result.ok.injEq] at hr2
    obtain ⟨rfl, rfl⟩ := hr2
    exact .inr (ho2.lt k hk).1
  · intro k hk
    by_cases hroom : n + m ≤ cap0
    · have hfit : n * i.size + news.length ≤ cur.size := by rw [hl, hcs, ← Nat.add_mul]; exact Nat.mul_le_mul_right _ hroom
      have hr2 := run_append_room (P := P) w t ty e i ht hi g n cap0 cur hgc a m c news hl hnews h1 hroom hfit
      rw [hr] at hr2
      simp only [Result.ok.injEq, Value.slice.injEq] at hr2
      obtain ⟨⟨rfl, -, -⟩, -⟩ := hr2
      exact .inl hk
    · have hsmall : n + m ≤ 9223372036854775807 := by simp only [maxLen] at h63; omega
      have holds : ∀ j u, xs[j]? = some u → w.cell? ((⟨g, 0, none⟩ : Addr).add j) = some u := hown.cells (g := g) rfl
      have hr2 := run_append_grow (P := P) w t ty e i z ht hi hz ⟨g, 0, none⟩ n cap0 xs hown.1 holds a m c news hl hnews (by omega) (by omega) (growslice_fits (by omega) hbytes)
      rw [hr] at hr2
      simp only [Result.ok.injEq, Value.slice.injEq] at hr2
      obtain ⟨⟨rfl, -, -⟩, -⟩ := hr2
      simp only [Value.ownBlock, Option.some.injEq] at hk
      exact .inr (by omega)
theorem wp_app {o : Oper} {a : Act} {K : Act → World → Prop} {Q : Exit → Act → World → Prop} (s x : Operand) (t : TypeId)
    (ho : o.op = .call { callee := .builtin .append, args := #[s, x], argTypes := #[t, t] })
    (e : TypeId) (z : Value) (size bytes : Nat) (ht : P.underlying t = some (.slice e)) (hinfo : (P.info? e).map (fun i => (i.zero, i.size, i.bytes)) = some (some z, size, bytes)) (hzs : z.cells.size = size) (hsz : 0 < size)
    (v : Value) (n : Nat) (xs : List Value) (hs : a.eval s = v) (hown : w.ownsRow 0 e size v n xs)
    (ad : Addr) (m c : Nat) (news : List Value) (hx : a.eval x = .slice (some ad) m c) (hl : news.length = m * size) (hnews : ∀ j u, news[j]? = some u → w.cell? (ad.add j) = some u) (h1 : ∀ u ∈ news, u.oneCell' = true)
    (h63 : n + m ≤ maxLen) (hbytes : (n + m) * bytes ≤ 140737488355328)
    (h : ∀ ao cap w', w'.ownsRow 0 e size (.slice ao (n + m) cap) (n + m) (xs ++ news) → Only v.ownBlock.toList w w' → (∀ k, (Value.slice ao (n + m) cap).ownBlock = some k → v.ownBlock = some k ∨ w.heap.size ≤ k) → K (a.put o.dst (.slice ao (n + m) cap)) w') : o.wp P a w K Q := by
  obtain ⟨ao, cap, w', hr, h2, h3, h4⟩ := run_app (P := P) w t o.type e z size bytes ht hinfo hzs hsz v n xs hown ad m c news hl hnews h1 h63 hbytes
  unfold Oper.wp execOp
  simp only [ho, resolve, invoke, builtin, Sem.run_bind, Sem.run_pure, Result.andThen_ok, List.map_toArray, List.map_cons, List.map_nil, hs, hx, hr]
  exact h ao cap w' h2 h3 h4
theorem wpList_app {ops : Array Oper} {rest : List Oper} {o : Oper} {a : Act} {Q : Exit → Act → World → Prop} (hgd : o.guard = none) (s x : Operand) (t : TypeId)
    (ho : o.op = .call { callee := .builtin .append, args := #[s, x], argTypes := #[t, t] })
    (e : TypeId) (z : Value) (size bytes : Nat) (ht : P.underlying t = some (.slice e)) (hinfo : (P.info? e).map (fun i => (i.zero, i.size, i.bytes)) = some (some z, size, bytes)) (hzs : z.cells.size = size) (hsz : 0 < size)
    (v : Value) (n : Nat) (xs : List Value) (hs : a.eval s = v) (hown : w.ownsRow 0 e size v n xs)
    (ad : Addr) (m c : Nat) (news : List Value) (hx : a.eval x = .slice (some ad) m c) (hl : news.length = m * size) (hnews : ∀ j u, news[j]? = some u → w.cell? (ad.add j) = some u) (h1 : ∀ u ∈ news, u.oneCell' = true)
    (h63 : n + m ≤ maxLen) (hbytes : (n + m) * bytes ≤ 140737488355328)
    (h : ∀ ao cap w', w'.ownsRow 0 e size (.slice ao (n + m) cap) (n + m) (xs ++ news) → Only v.ownBlock.toList w w' → (∀ k, (Value.slice ao (n + m) cap).ownBlock = some k → v.ownBlock = some k ∨ w.heap.size ≤ k) → wpList P ops Q rest (a.put o.dst (.slice ao (n + m) cap)) w') :
    wpList P ops Q (o :: rest) a w :=
  wpList_plain hgd fun _ hK => wp_app w s x t ho e z size bytes ht hinfo hzs hsz v n xs hs hown ad m c news hx hl hnews h1 h63 hbytes fun ao cap w' h2 h3 h4 => hK _ _ (h ao cap w' h2 h3 h4)
end
end Go.Proofs.YtblkkjfpggcgfaaGreatDoor
/- Slices that are only read: what each element's cells hold. A hierarchy as data. -/
namespace Go.Proofs.YtblkkjfpggcgfaaGreatDoor
open Go.ChangeShapes Go.WideShapes Go.ChangeAt Go.RowKit Go.Joins Go.Deep
structure See {α : Type} (w : World) (ao : Option Addr) (cap : Nat) (f : α → List Value) (sz : Nat) (l : List α) : Prop where
  hcap : l.length ≤ cap
  hmax : cap ≤ maxLen
  cell : ∀ i x, l[i]? = some x → ∃ b off, ao = some ⟨b, off, none⟩ ∧ ∀ j u, (f x)[j]? = some u → w.cell? ⟨b, off + i * sz + j, none⟩ = some u
def slBase (ao : Option Addr) (lo cap sz : Nat) : Option Addr := if cap = lo then ao else ao.map (·.add (lo * sz))
namespace See
variable {α : Type} {w w' : World} {ao : Option Addr} {cap sz : Nat} {f : α → List Value} {l : List α}
theorem below (h : See w ao cap f sz l) (o : Below w.heap.size w w') : See w' ao cap f sz l :=
  ⟨h.hcap, h.hmax, fun i x hx => by
    obtain ⟨b, off, e, hc⟩ := h.cell i x hx
    exact ⟨b, off, e, fun j u hu => ck o (hc j u hu)⟩⟩
theorem kept {bs : List Nat} (h : See w ao cap f sz l) (o : Only bs w w') (hn : ∀ b off, ao = some ⟨b, off, none⟩ → b ∉ bs) : See w' ao cap f sz l :=
  ⟨h.hcap, h.hmax, fun i x hx => by
    obtain ⟨b, off, e, hc⟩ := h.cell i x hx
    exact ⟨b, off, e, fun j u hu => o.cell (hc j u hu) (hn b off e)⟩⟩
theorem drew (h : See w ao cap f sz l) : See w.drew ao cap f sz l := h.below (Below.refl _ _).drew
theorem alloc (h : See w ao cap f sz l) (o : Obj) : See (w.alloc o) ao cap f sz l := h.below ((Below.refl _ _).alloc (Nat.le_refl _) o)
theorem nil (w : World) (f : α → List Value) (sz : Nat) : See w none 0 f sz [] := ⟨by simp, by simp [maxLen], fun i x h => by simp at h⟩
theorem of_own {e : TypeId} {base n : Nat} (hf : ∀ x, (f x).length = sz) (h : w.ownsRow base e sz (.slice ao n cap) n (l.flatMap f)) (hsz : 0 < sz) : See w ao cap f sz l ∧ n = l.length := by
  have hl : l.length = n := by
    have := h.1
    rw [flat_length hf] at this
    exact Nat.eq_of_mul_eq_mul_right hsz this
  subst hl
  rcases h.2 with ⟨h1, h2⟩ | ⟨g, cap', cur, e1, hb, hg, hn, hc, hcs, ht⟩
  · simp only [Value.slice.injEq] at h1
    obtain ⟨rfl, -, rfl⟩ := h1
    have : l = [] := List.eq_nil_of_length_eq_zero h2
    subst this
    exact ⟨nil w f sz, rfl⟩
  · simp only [Value.slice.injEq] at e1
    obtain ⟨rfl, -, rfl⟩ := e1
    refine ⟨⟨hn, hc, fun i x hx => ⟨g, 0, rfl, fun j u hu => ?_⟩⟩, rfl⟩
    have hi := (List.getElem?_eq_some_iff.1 hx).1
    have hj : j < sz := by rw [← hf x]; exact (List.getElem?_eq_some_iff.1 hu).1
    have hij : i * sz + j < l.length * sz := by
      have := Nat.mul_le_mul_right sz (show i + 1 ≤ l.length from hi)
      rw [Nat.add_mul, Nat.one_mul] at this
      omega
    rw [Nat.zero_add, h.cellAt _ hij, flat_get hf l i j hj, hx]
    exact hu
theorem sub (h : See w ao cap f sz l) (lo hi : Nat) (h2 : hi ≤ l.length) : See w (slBase ao lo cap sz) (cap - lo) f sz ((l.take hi).drop lo) := by
  have hc := h.hcap
  refine ⟨by simp; omega, by have := h.hmax; omega, fun i x hx => ?_⟩
  have hil := (List.getElem?_eq_some_iff.1 hx).1
  simp only [List.length_drop, List.length_take] at hil
  rw [List.getElem?_drop, List.getElem?_take, if_pos (by omega)] at hx
  obtain ⟨b, off, e, hcell⟩ := h.cell _ _ hx
  have hne : ¬ cap = lo := by omega
  have hadd : (⟨b, off, none⟩ : Addr).add (lo * sz) = ⟨b, off + lo * sz, none⟩ := by
    unfold Addr.add
    split
    · simp_all
    · rfl
  refine ⟨b, off + lo * sz, by rw [slBase, if_neg hne, e, Option.map_some, hadd], fun j u hu => ?_⟩
  have := hcell j u hu
  rw [Nat.add_mul, ← Nat.add_assoc] at this
  exact this
theorem lt (h : See w ao cap f sz l) {i : Nat} {x : α} {u : Value} (hx : l[i]? = some x) (hu : (f x)[0]? = some u) : ∃ b off, ao = some ⟨b, off, none⟩ ∧ b < w.heap.size := by
  obtain ⟨b, off, e, hc⟩ := h.cell i x hx
  exact ⟨b, off, e, block_lt (hc 0 u hu)⟩
end See
theorem run_sub {P : Program} (t e : TypeId) (sz : Nat) (ht : P.underlying t = some (.slice e)) (hs : ∀ w, (sizeOf e).run P w = .ok sz w) (ao : Option Addr) (n cap lo hi : Nat) (kl kh : IntKind) (h1 : lo ≤ hi) (h2 : hi ≤ cap) (w : World) :
    (Instr.slice t (.slice ao n cap) (some (.int kl (lo : Int))) (some (.int kh (hi : Int))) none).run P w = .ok (.slice (slBase ao lo cap sz) (hi - lo) (cap - lo)) w := by
  have he : P.elem t = e := by simp [Program.elem, ht]
  have h := run_slice_lh (P := P) (w := w) t ao n cap (by rw [ht, he]) kl kh (lo : Int) (hi : Int) (by omega) (by omega) (by omega)
  rw [h, he, hs]
  simp [Result.andThen, sliced, slBase]
structure LinkD where
  to : Nat
  wt : Nat
  left : Nat
  right : Nat
  deriving DecidableEq, Repr, Inhabited
def linkCells (l : LinkD) : List Value := [.int .u32 l.to, .int .u64 l.wt, .int .u32 l.left, .int .u32 l.right]
theorem linkCells_len (l : LinkD) : (linkCells l).length = 4 := rfl
def u32Cells (n : Nat) : List Value := [.int .u32 n]
theorem u32Cells_len (n : Nat) : (u32Cells n).length = 1 := rfl
structure HierD where
  node : List Nat
  upF : List Nat
  up : List LinkD
  dnF : List Nat
  dn : List LinkD
  deriving DecidableEq, Repr, Inhabited
structure HA where
  a0 : Option Addr
  a1 : Option Addr
  a2 : Option Addr
  a3 : Option Addr
  a4 : Option Addr
  c0 : Nat
  c1 : Nat
  c2 : Nat
  c3 : Nat
  c4 : Nat
def hierVal (A : HA) (h : HierD) : Value := .agg #[.slice A.a0 h.node.length A.c0, .slice A.a1 h.upF.length A.c1, .slice A.a2 h.up.length A.c2, .slice A.a3 h.dnF.length A.c3, .slice A.a4 h.dn.length A.c4]
def LinkD.ok (l : LinkD) : Prop := l.to < 4294967296 ∧ l.wt < 18446744073709551616 ∧ l.left < 4294967296 ∧ l.right < 4294967296
structure HSee (w : World) (A : HA) (h : HierD) : Prop where
  node : See w A.a0 A.c0 u32Cells 1 h.node
  upF : See w A.a1 A.c1 u32Cells 1 h.upF
  up : See w A.a2 A.c2 linkCells 4 h.up
  dnF : See w A.a3 A.c3 u32Cells 1 h.dnF
  dn : See w A.a4 A.c4 linkCells 4 h.dn
  bn : ∀ x ∈ h.node, x < 4294967296
  bu : ∀ x ∈ h.upF, x < 4294967296
  bd : ∀ x ∈ h.dnF, x < 4294967296
  bup : ∀ l ∈ h.up, l.ok
  bdn : ∀ l ∈ h.dn, l.ok
theorem HSee.below {w w' : World} {A : HA} {h : HierD} (s : HSee w A h) (o : Below w.heap.size w w') : HSee w' A h :=
  ⟨s.node.below o, s.upF.below o, s.up.below o, s.dnF.below o, s.dn.below o, s.bn, s.bu, s.bd, s.bup, s.bdn⟩
end Go.Proofs.YtblkkjfpggcgfaaGreatDoor
