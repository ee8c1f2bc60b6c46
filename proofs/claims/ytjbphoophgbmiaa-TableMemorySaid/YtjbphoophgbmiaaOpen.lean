/- A hierarchy that comes in, opened: its slices read as data. -/
import Derived.Test.YtjbphoophgbmiaaLawQ1
import Derived.Lib.SmallJoins
import Derived.Deep.Slices
import Derived.Deep.Fields
namespace Go.Proofs.Ytjbphoophgbmiaa
open Go.ChangeShapes Go.WideShapes Go.ChangeAt Go.RowKit Go.Joins Go.Deep

section
variable {H : Type} {enc : TypeId × Value → H} {P : Program} {w : World}
theorem wfu32 {x : Int} (h : (Lit.int .u32 x).wf = true) : 0 ≤ x ∧ x < 4294967296 := by
  simp [Lit.wf, IntKind.min, IntKind.max, IntKind.signed, IntKind.bits] at h
  omega
theorem wfu64' {x : Int} (h : (Lit.int .u64 x).wf = true) : 0 ≤ x ∧ x < 18446744073709551616 := by
  simp [Lit.wf, IntKind.min, IntKind.max, IntKind.signed, IntKind.bits] at h
  omega
/-- What a cell that holds a slice is. -/
theorem ok_slice {t e : TypeId} {b0 : Nat} {v : Value} (ht : P.underlying t = some (.slice e)) (h : Cell.okWide P w .any b0 t v) : v = .slice none 0 0 ∨ ∃ b o n cap, v = .slice (some ⟨b, o, none⟩) n cap := by
  simp only [Cell.okWide, ht, Cell.ok] at h
  cases v <;> simp_all
  rename_i a n cap
  cases a with
  | none => exact .inl (by cases n <;> cases cap <;> simp_all)
  | some a =>
    obtain ⟨b, o, sp⟩ := a
    simp only [World.has] at h
    exact .inr ⟨b, o, by simpa using h.2.2.2.1⟩
/-- A list of words. -/
def WordsIn (w : World) (v : Value) : Prop := ∃ ao cap l, v = .slice ao l.length cap ∧ See w ao cap u32Cells 1 l ∧ SForm ao cap ∧ ∀ x ∈ l, x < 4294967296
theorem open_words {t e : TypeId} {v : Value} {b0 base n : Nat} {held : Bool} {y : DataW H × List MemPlace} (ht : P.underlying t = some (.slice e)) (he : P.underlying e = some (.int .u32)) (hce : P.cellsOf e = 1) (hok : Cell.okWide P w .any b0 t v) (h : DataW.trod enc P w base (fun _ => true) held n t [v] = some y) : WordsIn w v := by
  rcases open_ints ht he hce h with ⟨h1, -⟩ | ⟨a, len, cap, zs, h1, -, hl, hm, hz, -, hc, hw⟩
  · simp only [List.cons.injEq, and_true] at h1
    subst h1
    exact ⟨none, 0, [], rfl, See.nil _ _ _, .inl ⟨rfl, rfl⟩, by simp⟩
  · simp only [List.cons.injEq, and_true] at h1
    subst h1
    rcases ok_slice ht hok with h2 | ⟨b, o, n2, c2, h2⟩
    · cases h2
    · simp only [Value.slice.injEq, Option.some.injEq] at h2
      obtain ⟨rfl, rfl, rfl⟩ := h2
      simp only [if_true] at hz
      have hlen : ((zs.take len).map Int.toNat).length = len := by simp; omega
      have hget : ∀ (i x : Nat), ((zs.take len).map Int.toNat)[i]? = some x → i < zs.length ∧ zs.getD i 0 = (x : Int) ∧ x < 4294967296 := by
        intro i x hx
        rw [List.getElem?_map, List.getElem?_take] at hx
        split at hx
        · rename_i hi
          have hil : i < zs.length := by omega
          rw [List.getElem?_eq_getElem hil] at hx
          simp only [Option.map_some, Option.some.injEq] at hx
          have := wfu32 (hw _ (List.getElem_mem hil))
          rw [List.getD_eq_getElem?_getD, List.getElem?_eq_getElem hil]
          simp only [Option.getD_some]
          exact ⟨hil, by omega, by omega⟩
        · cases hx
      refine ⟨some ⟨b, o, none⟩, cap, (zs.take len).map Int.toNat, by rw [hlen], ⟨by omega, hm, fun i x hx => ⟨b, o, rfl, fun j u hu => ?_⟩⟩, .inr ⟨_, _, rfl⟩, fun x hx => ?_⟩
      · obtain ⟨h3, h4, -⟩ := hget i x hx
        have := hc i h3
        rw [h4] at this
        have e : (⟨b, o, none⟩ : Addr).add i = ⟨b, o + i, none⟩ := by unfold Addr.add; split <;> simp_all
        rw [e] at this
        cases j with
        | zero =>
          simp only [u32Cells, List.getElem?_cons_zero, Option.some.injEq] at hu
          rw [Nat.mul_one, Nat.add_zero, this, hu]
        | succ j => simp [u32Cells] at hu
      · obtain ⟨i, hi⟩ := List.getElem?_of_mem hx
        exact (hget i x hi).2.2
/-- A list of links. -/
def LinksIn (w : World) (v : Value) : Prop := ∃ ao cap l, v = .slice ao l.length cap ∧ See w ao cap linkCells 4 l ∧ SForm ao cap ∧ ∀ x ∈ l, x.ok
/-- A program in which u is a link: its four fields' types. -/
def LinkType (P : Program) (u a b : TypeId) : Prop := P.underlying a = some (.int .u32) ∧ P.underlying b = some (.int .u64) ∧ P.cellsOf u = 4 ∧ ∃ f0 f1 f2 f3, P.underlying u = some (.struct #[f0, f1, f2, f3]) ∧ oneCellFields P #[f0, f1, f2, f3] = true ∧ f0.type = a ∧ f1.type = b ∧ f2.type = a ∧ f3.type = a
/-- Four cells that read as a link. -/
theorem open_link {u a b : TypeId} {base n : Nat} {spare : Nat → Bool} {held : Bool} {cs : List Value} {y : DataW H × List MemPlace} (lt : LinkType P u a b) (h : DataW.trod enc P w base spare held n u cs = some y) : ∃ l : LinkD, cs = linkCells l ∧ l.ok := by
  obtain ⟨ha, hb, hcu, f0, f1, f2, f3, hu, hone, t0, t1, t2, t3⟩ := lt
  obtain ⟨xs, m, -, -, hlen, hxl, hf⟩ := DataW.trod_struct hu h
  rw [hcu] at hlen
  match cs, hlen with
  | [c0, c1, c2, c3], _ =>
    obtain ⟨o0, k0⟩ := hone_of hone 0 f0 rfl
    obtain ⟨o1, k1⟩ := hone_of hone 1 f1 rfl
    obtain ⟨o2, k2⟩ := hone_of hone 2 f2 rfl
    obtain ⟨o3, k3⟩ := hone_of hone 3 f3 rfl
    have h0 := hf 0 f0 rfl
    have h1 := hf 1 f1 rfl
    have h2 := hf 2 f2 rfl
    have h3 := hf 3 f3 rfl
    rw [o0, k0, t0] at h0
    rw [o1, k1, t1] at h1
    rw [o2, k2, t2] at h2
    rw [o3, k3, t3] at h3
    have some_of : ∀ (i : Nat) (f : Field), (#[f0, f1, f2, f3] : Array Field)[i]? = some f → ∃ z, xs[i]? = some z := by
      intro i f hi
      have hlt : i < 4 := (Array.getElem?_eq_some_iff.1 hi).1
      exact ⟨_, List.getElem?_eq_getElem (by simp at hxl; omega)⟩
    obtain ⟨z0, hz0⟩ := some_of 0 f0 rfl
    obtain ⟨z1, hz1⟩ := some_of 1 f1 rfl
    obtain ⟨z2, hz2⟩ := some_of 2 f2 rfl
    obtain ⟨z3, hz3⟩ := some_of 3 f3 rfl
    obtain ⟨n0, e0, -, w0⟩ := DataW.trod_int ha (h0.trans hz0)
    obtain ⟨n1, e1, -, w1⟩ := DataW.trod_int hb (h1.trans hz1)
    obtain ⟨n2, e2, -, w2⟩ := DataW.trod_int ha (h2.trans hz2)
    obtain ⟨n3, e3, -, w3⟩ := DataW.trod_int ha (h3.trans hz3)
    simp at e0 e1 e2 e3
    subst e0 e1 e2 e3
    have b0 := wfu32 w0
    have b1 := wfu64' w1
    have b2 := wfu32 w2
    have b3 := wfu32 w3
    refine ⟨⟨n0.toNat, n1.toNat, n2.toNat, n3.toNat⟩, ?_, ?_⟩
    · simp only [linkCells]
      rw [Int.toNat_of_nonneg b0.1, Int.toNat_of_nonneg b1.1, Int.toNat_of_nonneg b2.1, Int.toNat_of_nonneg b3.1]
    · simp only [LinkD.ok]
      omega
theorem open_links {t u a b : TypeId} {v : Value} {b0 base n : Nat} {held : Bool} {y : DataW H × List MemPlace} (hts : P.underlying t = some (.slice u)) (lt : LinkType P u a b) (hok : Cell.okWide P w .any b0 t v) (h : DataW.trod enc P w base (fun _ => true) held n t [v] = some y) : LinksIn w v := by
  rcases open_slice hts h with ⟨h1, -⟩ | ⟨a, len, cap, m, n, D, Pl, h1, -, hl, hm, hmm, -, hi⟩
  · simp only [List.cons.injEq, and_true] at h1
    subst h1
    exact ⟨none, 0, [], rfl, See.nil _ _ _, .inl ⟨rfl, rfl⟩, by simp⟩
  · simp only [List.cons.injEq, and_true] at h1
    subst h1
    rcases ok_slice hts hok with h2 | ⟨b, o, n2, c2, h2⟩
    · cases h2
    · simp only [Value.slice.injEq, Option.some.injEq] at h2
      obtain ⟨rfl, rfl, rfl⟩ := h2
      simp only [if_true] at hmm
      subst hmm
      have each : ∀ i, i < m → ∃ l : LinkD, l.ok ∧ ∀ j u, (linkCells l)[j]? = some u → w.cell? ⟨b, o + i * 4 + j, none⟩ = some u := by
        intro i him
        obtain ⟨cs, hc, ht⟩ := hi i him
        rw [lt.2.2.1] at hc
        obtain ⟨l, rfl, hlo⟩ := open_link lt ht
        obtain ⟨-, -, hat⟩ := World.cells?_some hc
        refine ⟨l, hlo, fun j u hu => ?_⟩
        have hj : j < 4 := (List.getElem?_eq_some_iff.1 hu).1
        have := hat j hj
        have e1 : (⟨b, o, none⟩ : Addr).add (i * 4) = ⟨b, o + i * 4, none⟩ := by unfold Addr.add; split <;> simp_all
        have e2 : (⟨b, o + i * 4, none⟩ : Addr).add j = ⟨b, o + i * 4 + j, none⟩ := by unfold Addr.add; split <;> simp_all
        rw [e1, e2, hu] at this
        exact this
      obtain ⟨L, hL⟩ : ∃ L : Nat → LinkD, ∀ i, i < m → (L i).ok ∧ ∀ j u, (linkCells (L i))[j]? = some u → w.cell? ⟨b, o + i * 4 + j, none⟩ = some u :=
        ⟨fun i => if h : i < m then Classical.choose (each i h) else default, fun i h => by simp only [dif_pos h]; exact Classical.choose_spec (each i h)⟩
      have hget : ∀ i x, ((List.range len).map L)[i]? = some x → i < len ∧ x = L i := by
        intro i x hx
        have hil : i < len := by have := (List.getElem?_eq_some_iff.1 hx).1; simpa using this
        rw [List.getElem?_map, List.getElem?_range hil] at hx
        simp only [Option.map_some, Option.some.injEq] at hx
        exact ⟨hil, hx.symm⟩
      refine ⟨some ⟨b, o, none⟩, m, (List.range len).map L, by simp, ⟨by simpa using hl, hm, fun i x hx => ⟨b, o, rfl, ?_⟩⟩, .inr ⟨_, _, rfl⟩, fun x hx => ?_⟩
      · obtain ⟨h3, rfl⟩ := hget i x hx
        exact (hL i (by omega)).2
      · obtain ⟨i, hi⟩ := List.getElem?_of_mem hx
        obtain ⟨h3, rfl⟩ := hget i x hi
        exact (hL i (by omega)).1
/-- A program in which u is a hierarchy. -/
def HierType (P : Program) (u a b : TypeId) : Prop := P.cellsOf u = 5 ∧ P.cellTypes P.depth u = some [a, a, b, a, b] ∧ ∃ f0 f1 f2 f3 f4, P.underlying u = some (.struct #[f0, f1, f2, f3, f4]) ∧ oneCellFields P #[f0, f1, f2, f3, f4] = true ∧ f0.type = a ∧ f1.type = a ∧ f2.type = b ∧ f3.type = a ∧ f4.type = b
/-- **A hierarchy that comes in.** -/
theorem open_hier_of {u a b x l y : TypeId} {v : Value} {b0 base : Nat} {held : Bool} {d : DataW H} {p : List MemPlace} (ht : HierType P u a b) (hta : P.underlying a = some (.slice x)) (htx : P.underlying x = some (.int .u32)) (hcx : P.cellsOf x = 1) (htb : P.underlying b = some (.slice l)) (lt : LinkType P l x y) (hv : Value.okWide P w .any b0 u v) (h : DataW.Trod enc P w base (fun _ => true) held u v d p) :
    ∃ A h, v = hierVal A h ∧ HSee w A h ∧ HForm A := by
  obtain ⟨hcs, hct, f0, f1, f2, f3, f4, hu, hone, t0, t1, t2, t3, t4⟩ := ht
  have hv' := hv
  simp only [Value.okWide, hu] at hv'
  obtain ⟨cs, rfl, hsz, ts, hts, -, hrow⟩ := hv'
  rw [hct] at hts
  simp only [Option.some.injEq] at hts
  subst hts
  obtain ⟨cs⟩ := cs
  match cs, hsz.trans hcs with
  | [c0, c1, c2, c3, c4], _ =>
    obtain ⟨fuel, hf⟩ := h
    obtain ⟨xs, n, _, hx, _, hlen, hg⟩ := DataW.trod_struct hu hf
    obtain ⟨o0, k0⟩ := hone_of hone 0 f0 rfl
    obtain ⟨o1, k1⟩ := hone_of hone 1 f1 rfl
    obtain ⟨o2, k2⟩ := hone_of hone 2 f2 rfl
    obtain ⟨o3, k3⟩ := hone_of hone 3 f3 rfl
    obtain ⟨o4, k4⟩ := hone_of hone 4 f4 rfl
    match xs, hlen with
    | [y0, y1, y2, y3, y4], _ =>
      have h0 : DataW.trod enc P w base (fun _ => true) held n f0.type [c0] = some y0 := by simpa [Value.cells, o0, k0] using hg 0 f0 rfl
      have h1 : DataW.trod enc P w base (fun _ => true) held n f1.type [c1] = some y1 := by simpa [Value.cells, o1, k1] using hg 1 f1 rfl
      have h2 : DataW.trod enc P w base (fun _ => true) held n f2.type [c2] = some y2 := by simpa [Value.cells, o2, k2] using hg 2 f2 rfl
      have h3 : DataW.trod enc P w base (fun _ => true) held n f3.type [c3] = some y3 := by simpa [Value.cells, o3, k3] using hg 3 f3 rfl
      have h4 : DataW.trod enc P w base (fun _ => true) held n f4.type [c4] = some y4 := by simpa [Value.cells, o4, k4] using hg 4 f4 rfl
      rw [t0] at h0; rw [t1] at h1; rw [t2] at h2; rw [t3] at h3; rw [t4] at h4
      have r0 : Cell.okWide P w .any b0 a c0 := by obtain ⟨u, hu', h⟩ := hrow 0 c0 rfl; simp at hu'; subst hu'; exact h
      have r1 : Cell.okWide P w .any b0 a c1 := by obtain ⟨u, hu', h⟩ := hrow 1 c1 rfl; simp at hu'; subst hu'; exact h
      have r2 : Cell.okWide P w .any b0 b c2 := by obtain ⟨u, hu', h⟩ := hrow 2 c2 rfl; simp at hu'; subst hu'; exact h
      have r3 : Cell.okWide P w .any b0 a c3 := by obtain ⟨u, hu', h⟩ := hrow 3 c3 rfl; simp at hu'; subst hu'; exact h
      have r4 : Cell.okWide P w .any b0 b c4 := by obtain ⟨u, hu', h⟩ := hrow 4 c4 rfl; simp at hu'; subst hu'; exact h
      obtain ⟨a0, q0, l0, rfl, s0, m0, b0⟩ := open_words hta htx hcx r0 h0
      obtain ⟨a1, q1, l1, rfl, s1, m1, b1⟩ := open_words hta htx hcx r1 h1
      obtain ⟨a2, q2, l2, rfl, s2, m2, b2⟩ := open_links htb lt r2 h2
      obtain ⟨a3, q3, l3, rfl, s3, m3, b3⟩ := open_words hta htx hcx r3 h3
      obtain ⟨a4, q4, l4, rfl, s4, m4, b4⟩ := open_links htb lt r4 h4
      exact ⟨⟨a0, a1, a2, a3, a4, q0, q1, q2, q3, q4⟩, ⟨l0, l1, l2, l3, l4⟩, rfl, ⟨s0, s1, s2, s3, s4, b0, b1, b3, b2, b4⟩, ⟨m0, m1, m2, m3, m4⟩⟩

set_option maxRecDepth 100000 in
theorem Try.linkType : LinkType Try.prog 60 38 33 :=
  ⟨Try.underlying38, Try.underlying33, by kernel_rfl, _, _, _, _, Try.underlying60, by kernel_rfl, rfl, rfl, rfl, rfl⟩
set_option maxRecDepth 100000 in
theorem Try.hierType : HierType Try.prog 25 22 23 :=
  ⟨by kernel_rfl, by kernel_rfl, _, _, _, _, _, Try.underlying25, by kernel_rfl, rfl, rfl, rfl, rfl, rfl⟩
set_option maxRecDepth 100000 in
theorem open_hier {v : Value} {b0 base : Nat} {held : Bool} {d : DataW H} {p : List MemPlace} (hv : Value.okWide Try.prog w .any b0 25 v) (h : DataW.Trod enc Try.prog w base (fun _ => true) held 25 v d p) :
    ∃ A h, v = hierVal A h ∧ HSee w A h ∧ HForm A :=
  open_hier_of Try.hierType Try.underlying22 Try.underlying38 (by kernel_rfl) Try.underlying23 Try.linkType hv h
end
end Go.Proofs.Ytjbphoophgbmiaa
