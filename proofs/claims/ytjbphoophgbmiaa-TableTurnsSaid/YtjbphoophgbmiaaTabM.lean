/- Copy and append of whole numbers within one block; SameInts. -/
import Derived.Test.YtjbphoophgbmiaaTabL
import Derived.Laws.CopyRow
import Derived.Laws.IdiomCopy
import Derived.Laws.CopyOwn
import Derived.BigQuiet
import Derived.Deep.Upon
namespace Go.Proofs.Ytjbphoophgbmiaa
open Go.ChangeShapes Go.WideShapes Go.ChangeAt Go.RowKit Go.Joins Go.Deep

section
variable {P : Program} {w : World}
theorem wp_copyR {o : Oper} {a : Act} {K : Act → World → Prop} {Q : Exit → Act → World → Prop} (s x : Operand) (t : TypeId)
    (ho : o.op = .call { callee := .builtin .copy, args := #[s, x], argTypes := #[t, t] }) (v u r : Value) (w' : World) (hs : a.eval s = v) (hx : a.eval x = u)
    (hr : (Builtin.copy_ #[t, t] o.type #[v, u]).run P w = .ok r w') (h : K (a.put o.dst r) w') : o.wp P a w K Q := by
  unfold Oper.wp execOp
  simp only [ho, resolve, invoke, builtin, Sem.run_bind, Sem.run_pure, Result.andThen_ok, List.map_toArray, List.map_cons, List.map_nil, hs, hx, hr]
  exact h
theorem wpList_copyR {ops : Array Oper} {rest : List Oper} {o : Oper} {a : Act} {Q : Exit → Act → World → Prop} (hgd : o.guard = none) (s x : Operand) (t : TypeId)
    (ho : o.op = .call { callee := .builtin .copy, args := #[s, x], argTypes := #[t, t] }) (v u r : Value) (w' : World) (hs : a.eval s = v) (hx : a.eval x = u)
    (hr : (Builtin.copy_ #[t, t] o.type #[v, u]).run P w = .ok r w') (h : wpList P ops Q rest (a.put o.dst r) w') : wpList P ops Q (o :: rest) a w :=
  wpList_plain hgd fun _ hK => wp_copyR s x t ho v u r w' hs hx hr (hK _ _ h)
theorem wp_appR {o : Oper} {a : Act} {K : Act → World → Prop} {Q : Exit → Act → World → Prop} (s x : Operand) (t : TypeId)
    (ho : o.op = .call { callee := .builtin .append, args := #[s, x], argTypes := #[t, t] }) (v u r : Value) (w' : World) (hs : a.eval s = v) (hx : a.eval x = u)
    (hr : (Builtin.append_ #[t, t] o.type #[v, u]).run P w = .ok r w') (h : K (a.put o.dst r) w') : o.wp P a w K Q := by
  unfold Oper.wp execOp
  simp only [ho, resolve, invoke, builtin, Sem.run_bind, Sem.run_pure, Result.andThen_ok, List.map_toArray, List.map_cons, List.map_nil, hs, hx, hr]
  exact h
theorem wpList_appR {ops : Array Oper} {rest : List Oper} {o : Oper} {a : Act} {Q : Exit → Act → World → Prop} (hgd : o.guard = none) (s x : Operand) (t : TypeId)
    (ho : o.op = .call { callee := .builtin .append, args := #[s, x], argTypes := #[t, t] }) (v u r : Value) (w' : World) (hs : a.eval s = v) (hx : a.eval x = u)
    (hr : (Builtin.append_ #[t, t] o.type #[v, u]).run P w = .ok r w') (h : wpList P ops Q rest (a.put o.dst r) w') : wpList P ops Q (o :: rest) a w :=
  wpList_plain hgd fun _ hK => wp_appR s x t ho v u r w' hs hx hr (hK _ _ h)
theorem run_make_nc (t e : TypeId) (z : Value) (size bytes : Nat) (ht : P.underlying t = some (.slice e)) (hinfo : (P.info? e).map (fun i => (i.zero, i.size, i.bytes)) = some (some z, size, bytes))
    (kl kc : IntKind) (n c : Nat) (hc : n ≤ c) (hbytes : bytes * c ≤ 281474976710656) (h63 : c ≤ 9223372036854775807) (W : World) :
    (Instr.makeSlice t (.int kl (n : Int)) (.int kc (c : Int))).run P W = .ok (.slice (some ⟨W.heap.size, 0, none⟩) n c) (W.alloc (.cells (madeCells z.cells (c * size)) e)) := by
  obtain ⟨i, hi, hz, hs, hb⟩ := info_parts hinfo
  subst hs
  subst hb
  have hb' : (i.bytes : Int) * (c : Int) ≤ 281474976710656 := by
    have h : ((i.bytes * c : Nat) : Int) ≤ 281474976710656 := by omega
    rwa [Int.natCast_mul] at h
  have hr := run_make (P := P) W t e i z ht hi hz kl kc n c (by omega) (by omega) hb' (by omega)
  simp only [Int.toNat_natCast] at hr
  exact hr
theorem memInt_flat (l : List Int) : l.flatMap memInt = l.map fun x => Value.int .i64 x := by
  induction l with
  | nil => rfl
  | cons a l ih => rw [List.flatMap_cons, ih]; rfl
theorem memInt_cell {l : List Int} {j : Nat} {u : Value} (h : (l.flatMap memInt)[j]? = some u) : ∃ x, l[j]? = some x ∧ u = .int .i64 x := by
  rw [memInt_flat, List.getElem?_map] at h
  cases hx : l[j]? with
  | none => rw [hx] at h; cases h
  | some x => rw [hx] at h; exact ⟨x, rfl, (Option.some.inj h).symm⟩
/-- copy(y, l): into a fresh block. -/
theorem copy_ints {t e : TypeId} (ty : TypeId) {g rc n : Nat} {ra : Option Addr} {l : List Int} (hl : l.length = n) (hu : P.underlying t = some (.slice e)) (hs : (P.info? e).map (·.size) = some 1)
    (hg : Cells w g e (List.replicate (n + 2) (.int .i64 0))) (hs' : See w ra rc memInt 1 l) :
    ∃ w', (Builtin.copy_ #[t, t] ty #[.slice (some ⟨g, 0, none⟩) n (n + 2), .slice ra n rc]).run P w = .ok (goInt n) w' ∧ Cells w' g e (l.flatMap memInt ++ List.replicate 2 (.int .i64 0)) ∧ ∀ B w0, Below B w0 w → B ≤ g → Below B w0 w' := by
  subst hl
  cases hl : l with
  | nil =>
    subst hl
    exact ⟨w, run_copy_none w t t ty e _ _ _ _ _ _ hu hs rfl, hg, fun B w0 h _ => h⟩
  | cons x0 l0 =>
    rw [← hl]
    obtain ⟨b, o, rfl, -⟩ := hs'.cell 0 x0 (by rw [hl]; rfl)
    have hlen : (l.flatMap memInt).length = l.length := by rw [memInt_flat, List.length_map]
    have hr := run_copy_row (P := P) w t t ty e g 0 l.length (l.length + 2) ⟨b, o, none⟩ l.length rc (List.replicate (l.length + 2) (Value.int .i64 0)).toArray e (l.flatMap memInt) hu hs hg (by rw [hlen]; exact (Nat.min_self _).symm)
      (fun j v hv => by
        obtain ⟨x, hx, rfl⟩ := memInt_cell hv
        obtain ⟨b', o', e', hc⟩ := hs'.cell j x hx
        simp only [Option.some.injEq, Addr.mk.injEq, and_true] at e'
        obtain ⟨rfl, rfl⟩ := e'
        have := hc 0 _ rfl
        rw [Nat.mul_one, Nat.add_zero] at this
        have e : (⟨b, o, none⟩ : Addr).add j = ⟨b, o + j, none⟩ := by unfold Addr.add; split <;> simp_all
        rw [e]
        exact this) (by rw [hlen]; simp) (fun v hv => by
        rw [memInt_flat, List.mem_map] at hv
        obtain ⟨x, -, rfl⟩ := hv
        rfl)
    have hcs : ((List.replicate (l.length + 2) (Value.int .i64 0)).toArray.toList.take 0 ++ l.flatMap memInt ++ (List.replicate (l.length + 2) (Value.int .i64 0)).toArray.toList.drop (0 + (l.flatMap memInt).length)).toArray = (l.flatMap memInt ++ List.replicate 2 (Value.int .i64 0)).toArray := by
      rw [hlen]
      simp
    rw [hcs, hlen] at hr
    exact ⟨_, hr, setRow_heap w g _ _ e (0, 0) hg, fun B w0 h hB => below_setRow h hB _⟩
/-- append(y, a, b): within the room. -/
theorem app_ints {t e : TypeId} (ty : TypeId) {g s n : Nat} {l : List Int} (a b : Int) (hl : l.length = n) (ht : P.underlying t = some (.slice e)) (hs : (P.info? e).map (·.size) = some 1)
    (hg : Cells w g e (l.flatMap memInt ++ List.replicate 2 (.int .i64 0))) (hc : Cells w s e [.int .i64 a, .int .i64 b]) :
    ∃ w', (Builtin.append_ #[t, t] ty #[.slice (some ⟨g, 0, none⟩) n (n + 2), .slice (some ⟨s, 0, none⟩) 2 2]).run P w = .ok (.slice (some ⟨g, 0, none⟩) (n + 2) (n + 2)) w' ∧ Cells w' g e (l.flatMap memInt ++ [.int .i64 a, .int .i64 b]) ∧ ∀ B w0, Below B w0 w → B ≤ g → Below B w0 w' := by
  subst hl
  obtain ⟨i, hi, hsz⟩ : ∃ i, P.info? e = some i ∧ i.size = 1 := by
    cases h : P.info? e with
    | none => rw [h] at hs; cases hs
    | some i => rw [h] at hs; exact ⟨i, rfl, Option.some.inj hs⟩
  have hlen : (l.flatMap memInt).length = l.length := by rw [memInt_flat, List.length_map]
  have hr := run_append_room (P := P) w t ty e i ht hi g l.length (l.length + 2) _ hg ⟨s, 0, none⟩ 2 2 [.int .i64 a, .int .i64 b] (by rw [hsz]; rfl)
    (fun j u hu => by
      have e : (⟨s, 0, none⟩ : Addr).add j = ⟨s, j, none⟩ := by unfold Addr.add; split <;> simp_all
      rw [e]
      exact hc.cell hu) (fun u hu => by simp at hu; rcases hu with rfl | rfl <;> rfl) (Nat.le_refl _) (by rw [hsz]; simp [hlen])
  have hcs : ((l.flatMap memInt ++ List.replicate 2 (Value.int .i64 0)).toArray.toList.take (l.length * i.size) ++ [Value.int .i64 a, .int .i64 b] ++ (l.flatMap memInt ++ List.replicate 2 (Value.int .i64 0)).toArray.toList.drop (l.length * i.size + [Value.int .i64 a, .int .i64 b].length)).toArray = (l.flatMap memInt ++ [Value.int .i64 a, .int .i64 b]).toArray := by
    rw [hsz, Nat.mul_one, ← hlen]
    simp
  rw [hcs] at hr
  exact ⟨_, hr, setRow_heap w g _ _ e (0, 0) hg, fun B w0 h hB => below_setRow h hB _⟩
/-- append beyond the room: into a new block. -/
theorem app_grown {t e : TypeId} (ty : TypeId) {z : Value} {bytes : Nat} (ht : P.underlying t = some (.slice e)) (hinfo : (P.info? e).map (fun i => (i.zero, i.size, i.bytes)) = some (some z, 1, bytes)) {g s k : Nat} {olds : List Value} {a b : Value} (hk : olds.length = k) (hg : Cells w g e olds) (hc : Cells w s e [a, b]) (h63 : k + 2 ≤ 9223372036854775807) (hbytes : (k + 2) * bytes ≤ 140737488355328) :
    ∃ cap w', (Builtin.append_ #[t, t] ty #[.slice (some ⟨g, 0, none⟩) k k, .slice (some ⟨s, 0, none⟩) 2 2]).run P w = .ok (.slice (some ⟨w.heap.size, 0, none⟩) (k + 2) cap) w' ∧ Below w.heap.size w w' := by
  obtain ⟨i, hi, hz, hsize, hby⟩ := info_parts hinfo
  subst hk
  subst hby
  have ad : ∀ b j, (⟨b, 0, none⟩ : Addr).add j = ⟨b, j, none⟩ := by intro b j; unfold Addr.add; split <;> simp_all
  exact ⟨_, _, run_append_grow (P := P) w t ty e i z ht hi hz ⟨g, 0, none⟩ olds.length olds.length olds (by rw [hsize, Nat.mul_one]) (fun j v hv => by rw [ad]; exact hg.cell hv) ⟨s, 0, none⟩ 2 2 [a, b] (by rw [hsize]; rfl) (fun j u hu => by rw [ad]; exact hc.cell hu) (by omega) (by omega) (growslice_fits (by omega) hbytes), (Below.refl _ _).drew.alloc (Nat.le_refl _) _⟩
/-- append of a slice that is only read. -/
theorem app_see {t e : TypeId} (ty : TypeId) {bytes : Nat} {z : Value} (ht : P.underlying t = some (.slice e)) (hinfo : (P.info? e).map (fun i => (i.zero, i.size, i.bytes)) = some (some z, 1, bytes)) (hz1 : z.cells.size = 1) {n tc rc : Nat} {ta ra : Option Addr} {xs : List Value} {l : List Int} (hown : w.ownsRow 0 e 1 (.slice ta n tc) n xs) (hs : See w ra rc memInt 1 l) (h63 : n + l.length ≤ maxLen) (hbytes : (n + l.length) * bytes ≤ 140737488355328) :
    ∃ ao cap w', (Builtin.append_ #[t, t] ty #[.slice ta n tc, .slice ra l.length rc]).run P w = .ok (.slice ao (n + l.length) cap) w' ∧ w'.ownsRow 0 e 1 (.slice ao (n + l.length) cap) (n + l.length) (xs ++ l.flatMap memInt) ∧ Only (Value.slice ta n tc).ownBlock.toList w w' ∧ (∀ k, (Value.slice ao (n + l.length) cap).ownBlock = some k → (Value.slice ta n tc).ownBlock = some k ∨ w.heap.size ≤ k) := by
  cases hra : ra with
  | none =>
    subst hra
    have h0 : l = [] := by
      cases hcc : l with
      | nil => rfl
      | cons x l0 =>
        obtain ⟨b, o, e, -⟩ := hs.cell 0 x (by rw [hcc]; rfl)
        cases e
    subst h0
    obtain ⟨i, hi, -, -, -⟩ := info_parts hinfo
    have hle : n ≤ tc := by
      rcases hown.2 with ⟨h1, h2⟩ | ⟨g, c, cur, h1, -, -, h2, -⟩
      · omega
      · simp only [Value.slice.injEq] at h1
        obtain ⟨-, -, rfl⟩ := h1
        exact h2
    refine ⟨ta, tc, w, run_append_nothing (P := P) w t t ty e i ht hi ta n tc hle (.slice none 0 rc) (Src.ofNil w ht rc), ?_, Only.refl _ _, fun k hk => .inl hk⟩
    simpa using hown
  | some ad =>
    subst hra
    cases hcc : l with
    | nil =>
      have hlen0 : l.length = 0 := by rw [hcc]; rfl
      obtain ⟨ao, cap, w', h1, h2, h3, h4⟩ := run_app (P := P) w t ty e z 1 bytes ht hinfo hz1 (by omega) (.slice ta n tc) n xs hown ad 0 rc [] rfl (fun j u hu => by simp at hu) (fun u hu => by simp at hu) (by omega) (by rw [hlen0] at hbytes; exact hbytes)
      exact ⟨ao, cap, w', h1, h2, h3, h4⟩
    | cons x0 l0 =>
      rw [← hcc]
      obtain ⟨b, o, e0, -⟩ := hs.cell 0 x0 (by rw [hcc]; rfl)
      obtain rfl := Option.some.inj e0
      have hlen : (l.flatMap memInt).length = l.length := by rw [memInt_flat, List.length_map]
      exact run_app (P := P) w t ty e z 1 bytes ht hinfo hz1 (by omega) (.slice ta n tc) n xs hown ⟨b, o, none⟩ l.length rc (l.flatMap memInt) (by rw [hlen, Nat.mul_one]) (fun j v hv => by
        obtain ⟨x, hx, rfl⟩ := memInt_cell hv
        obtain ⟨b', o', e', hc⟩ := hs.cell j x hx
        simp only [Option.some.injEq, Addr.mk.injEq, and_true] at e'
        obtain ⟨rfl, rfl⟩ := e'
        have := hc 0 _ rfl
        rw [Nat.mul_one, Nat.add_zero] at this
        have e : (⟨b, o, none⟩ : Addr).add j = ⟨b, o + j, none⟩ := by unfold Addr.add; split <;> simp_all
        rw [e]
        exact this) (fun v hv => by
        rw [memInt_flat, List.mem_map] at hv
        obtain ⟨x, -, rfl⟩ := hv
        rfl) h63 hbytes
theorem slBase_zero (g c : Nat) : slBase (some ⟨g, 0, none⟩) 0 c 1 = some ⟨g, 0, none⟩ := by
  unfold slBase
  split <;> rfl
theorem See.pre {α : Type} {ao : Option Addr} {cap sz : Nat} {f : α → List Value} {l r : List α} (h : See w ao cap f sz (l ++ r)) : See w ao cap f sz l :=
  ⟨Nat.le_trans (by simp) h.hcap, h.hmax, fun i x hx => h.cell i x (by
    have : i < l.length := (List.getElem?_eq_some_iff.1 hx).1
    rw [List.getElem?_append_left this]
    exact hx)⟩
theorem run_sub_toM (t e : TypeId) (sz : Nat) (ht : P.underlying t = some (.slice e)) (hs : ∀ w, (sizeOf e).run P w = .ok sz w) (ao : Option Addr) (n cap hi : Nat) (kh : IntKind) (h2 : hi ≤ cap) (W : World) :
    (Instr.slice t (.slice ao n cap) none (some (.int kh (hi : Int))) none).run P W = .ok (.slice (slBase ao 0 cap sz) hi cap) W := by
  have he : P.elem t = e := by simp [Program.elem, ht]
  have h := run_slice_h (P := P) (w := W) t ao n cap (by rw [ht, he]) kh (hi : Int) (by omega) (by omega)
  rw [h, he, hs]
  simp [Result.andThen, sliced, slBase]
end
theorem Try.sizeInt1 : (Try.prog.info? 3).map (·.size) = some 1 := by kernel_rfl
set_option maxRecDepth 100000 in
theorem sameints_any (l : List Int) (ao bo : Option Addr) (ca cb : Nat) (w : World) (sa : See w ao ca memInt 1 l) (sb : See w bo cb memInt 1 l) :
    Calls Try.prog 17 #[.slice ao l.length ca, .slice bo l.length cb] w (BoolIs true w) := by
  have hl := Nat.le_trans sa.hcap sa.hmax
  have SA := Lib.hid sa
  have SB := Lib.hid sb
  clear sa sb
  simp only [maxLen] at hl
  go_enter Try.func17, Try.ntmps17
  go_wp2_with fail
  go_loopg [13] l.length (fun g vi wr => ∃ k : Nat, vi = .int .i64 k ∧ k ≤ l.length ∧ g = l.length - k ∧ Below w.heap.size w wr)
  case atStart => exact ⟨0, rfl, Nat.zero_le _, rfl, Below.refl _ _⟩
  case round =>
    obtain ⟨k, rfl, hk, hg, hb⟩ := hrel
    obtain ⟨wo, rfl⟩ : ∃ wo : World, wo = wr := ⟨_, rfl⟩
    have HG := Lib.hid hg
    have HB := Lib.hid hb
    clear hg hb
    by_cases hlt : k < l.length
    · obtain ⟨x, hx⟩ : ∃ x, l[k]? = some x := ⟨_, List.getElem?_eq_getElem hlt⟩
      obtain ⟨b1, o1, e1, cc1⟩ := SA.out.cell k x hx
      obtain ⟨b2, o2, e2, cc2⟩ := SB.out.cell k x hx
      have c1 := ck HB.out (cc1 0 _ rfl)
      have c2 := ck HB.out (cc2 0 _ rfl)
      rw [Nat.mul_one, Nat.add_zero] at c1 c2
      have E1 := Lib.hid e1
      have E2 := Lib.hid e2
      have t0 : (x != x) = false := by simp
      clear hx cc1 cc2 e1 e2
      rw [E1.out, E2.out]
      go_wp2_with fail
      go_quiet (fail)
      go_wp2_with fail
      rw [← E1.out, ← E2.out]
      go_roundg (l.length - (k + 1))
      case measure => rw [HG.out]; omega
      case rel => exact ⟨k + 1, by go_num, by omega, rfl, below_drewN HB.out _⟩
    · obtain rfl : k = l.length := by omega
      go_wp2
      go_returns
      exact ⟨rfl, HB.out⟩
end Go.Proofs.Ytjbphoophgbmiaa
