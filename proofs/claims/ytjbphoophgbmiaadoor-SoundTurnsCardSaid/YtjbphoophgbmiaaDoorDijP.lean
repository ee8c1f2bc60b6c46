/- Least ways in a web, and the search that finds them: as data. -/
import Derived.Test.YtjbphoophgbmiaaDoorWeaveP
import Derived.Test.YtjbphoophgbmiaaDoorClimb1
import Derived.Test.YtjbphoophgbmiaaDoorRefI
namespace Go.Proofs.YtjbphoophgbmiaaDoor
open Go.ChangeShapes Go.WideShapes Go.ChangeAt Go.RowKit Go.Joins Go.Deep

/-- A way from u over steps to what lies above r, and what it weighs. -/
inductive Wk (W : Nat → List (Nat × Nat)) (r : Int) (u : Nat) : Nat → Int → Prop
  | nil : Wk W r u u 0
  | snoc {a : Nat} {d : Int} (s : Nat × Nat) : Wk W r u a d → s ∈ W a → r < s.1 → Wk W r u s.1 (d + s.2)
theorem Wk.nonneg {W : Nat → List (Nat × Nat)} {r : Int} {u v : Nat} {d : Int} (h : Wk W r u v d) : 0 ≤ d := by
  induction h with
  | nil => omega
  | snoc s h hs hr ih => omega
/-- D tells what the least ways from u weigh. -/
structure IsS (W : Nat → List (Nat × Nat)) (r : Int) (u : Nat) (D : Nat → Option Int) : Prop where
  walk : ∀ v d, D v = some d → Wk W r u v d
  least : ∀ v d', Wk W r u v d' → ∃ d, D v = some d ∧ d ≤ d'
theorem IsS.unique {W : Nat → List (Nat × Nat)} {r : Int} {u : Nat} {D E : Nat → Option Int} (h : IsS W r u D) (k : IsS W r u E) : ∀ v, D v = E v := by
  intro v
  cases hD : D v with
  | none =>
    cases hE : E v with
    | none => rfl
    | some e =>
      obtain ⟨d, h1, -⟩ := h.least v e (k.walk v e hE)
      rw [hD] at h1; cases h1
  | some d =>
    obtain ⟨e, h1, h2⟩ := k.least v d (h.walk v d hD)
    obtain ⟨d', h3, h4⟩ := h.least v e (k.walk v e h1)
    rw [hD] at h3
    simp only [Option.some.injEq] at h3
    rw [h1]
    congr 1
    omega

def sumTo (f : Nat → Nat) : Nat → Nat
  | 0 => 0
  | n + 1 => sumTo f n + f n
theorem sumTo_congr {f g : Nat → Nat} : ∀ n, (∀ v, v < n → f v = g v) → sumTo f n = sumTo g n := by
  intro n
  induction n with
  | zero => intro _; rfl
  | succ n ih => intro h; simp only [sumTo]; rw [ih (fun v hv => h v (by omega)), h n (by omega)]
theorem sumTo_upd {f g : Nat → Nat} {b : Nat} : ∀ n, b < n → (∀ v, v ≠ b → f v = g v) → sumTo f n + g b = sumTo g n + f b := by
  intro n
  induction n with
  | zero => intro h; omega
  | succ n ih =>
    intro hb h
    simp only [sumTo]
    by_cases e : b = n
    · subst e
      rw [sumTo_congr b (fun v hv => h v (by omega))]
      omega
    · have := ih (by omega) h
      rw [h n (fun x => e x.symm)]
      omega
def one (x : Option Int) : Nat := if x.isSome then 1 else 0
/-- How many are labelled, or wait. -/
def cntS (D : Nat → Option Int) (n : Nat) : Nat := sumTo (fun v => one (D v)) n
/-- What falls with each step of the search. -/
def mu (n : Nat) (D m : Nat → Option Int) : Nat := 2 * sumTo (fun v => (farOf (D v)).toNat) n + cntS m n
def updD (D : Nat → Option Int) (b : Nat) (d : Int) : Nat → Option Int := fun v => if v = b then some d else D v

theorem cntS_le (D : Nat → Option Int) : ∀ n, cntS D n ≤ n := by
  intro n
  induction n with
  | zero => simp [cntS, sumTo]
  | succ n ih =>
    have h : one (D n) ≤ 1 := by unfold one; split <;> omega
    simp only [cntS, sumTo] at ih ⊢
    omega
theorem cntS_pos {D : Nat → Option Int} {v : Nat} {d : Int} (h : D v = some d) : ∀ n, v < n → 1 ≤ cntS D n := by
  intro n
  induction n with
  | zero => intro h; omega
  | succ n ih =>
    intro hv
    simp only [cntS, sumTo] at ih ⊢
    by_cases e : v = n
    · subst e
      rw [h]
      simp [one]
    · have := ih (by omega)
      omega

/-- What holds of the labels D and the queue m. P a s: the step s from a has been looked at. -/
structure DInv (n : Nat) (W : Nat → List (Nat × Nat)) (r : Int) (u : Nat) (D m : Nat → Option Int) (P : Nat → Nat × Nat → Prop) : Prop where
  src : D u = some 0
  walk : ∀ v d, D v = some d → Wk W r u v d
  q : ∀ v k, m v = some k → D v = some k
  fwd : ∀ a x s, D a = some x → s ∈ W a → r < s.1 → m a = none → P a s → ∃ y, D s.1 = some y ∧ y ≤ x + s.2
  bnd : ∀ v d, D v = some d → v < n ∧ d ≤ ((cntS D n : Nat) - 1 : Int) * 140737488355328
theorem DInv.start {n : Nat} {W : Nat → List (Nat × Nat)} {r : Int} {u : Nat} (hu : u < n) : DInv n W r u (startD u) (pushM (fun _ => none) u 0) (fun _ _ => True) := by
  refine ⟨by simp [startD], fun v d h => ?_, fun v k h => ?_, fun a x s h hs hr hm _ => ?_, fun v d h => ?_⟩
  · unfold startD at h
    split at h
    · rename_i e; subst e; simp only [Option.some.injEq] at h; subst h; exact .nil
    · cases h
  · unfold pushM at h
    split at h
    · rename_i e; subst e; simpa [startD] using h
    · cases h
  · unfold startD at h
    split at h
    · rename_i e; subst e; simp [pushM] at hm
    · cases h
  · unfold startD at h
    split at h
    · rename_i e
      subst e
      simp only [Option.some.injEq] at h
      subst h
      have := cntS_pos (D := startD v) (v := v) (d := 0) (by simp [startD]) n hu
      exact ⟨hu, by omega⟩
    · cases h
theorem DInv.big {n : Nat} {W : Nat → List (Nat × Nat)} {r : Int} {u : Nat} {D m : Nat → Option Int} {P : Nat → Nat × Nat → Prop} (h : DInv n W r u D m P) (hn : n ≤ 65536) {v : Nat} {d : Int} (hd : D v = some d) : 0 ≤ d ∧ d ≤ 65535 * 140737488355328 := by
  have h1 := (h.bnd v d hd).2
  have h2 := cntS_le D n
  exact ⟨(h.walk v d hd).nonneg, by omega⟩
/-- The thing with the least key is taken out. -/
theorem DInv.pop {n : Nat} {W : Nat → List (Nat × Nat)} {r : Int} {u : Nat} {D m : Nat → Option Int} (h : DInv n W r u D m (fun _ _ => True)) (id : Nat) : DInv n W r u D (eraseM m id) (fun a _ => a ≠ id) := by
  refine ⟨h.src, h.walk, fun v k hk => ?_, fun a x s ha hs hr hm hP => ?_, h.bnd⟩
  · unfold eraseM at hk
    split at hk
    · cases hk
    · exact h.q v k hk
  · unfold eraseM at hm
    rw [if_neg hP] at hm
    exact h.fwd a x s ha hs hr hm trivial
theorem mu_pop {n : Nat} {D m : Nat → Option Int} {id : Nat} {k : Int} (hk : m id = some k) (hid : id < n) : mu n D (eraseM m id) + 1 = mu n D m := by
  have h := sumTo_upd (f := fun v => one (eraseM m id v)) (g := fun v => one (m v)) (b := id) n hid (fun v hv => by simp [eraseM, hv])
  have e1 : one (m id) = 1 := by rw [hk]; rfl
  have e2 : one (eraseM m id id) = 0 := by simp [eraseM, one]
  simp only [e1, e2] at h
  unfold mu cntS
  omega
/-- A step is gone that makes a label less. -/
theorem DInv.relax {n : Nat} {W : Nat → List (Nat × Nat)} {r : Int} {u : Nat} {D m : Nat → Option Int} {id : Nat} {k : Int} {s : Nat × Nat} {Q : Nat × Nat → Prop} (h : DInv n W r u D m (fun a t => a = id → Q t)) (hn : n ≤ 65536) (hid : D id = some k) (hmid : m id = none)
    (hs : s ∈ W id) (hr : r < s.1) (hsn : s.1 < n) (hw : s.2 ≤ 140737488355328) (hlt : k + s.2 < farOf (D s.1)) :
    DInv n W r u (updD D s.1 (k + s.2)) (pushM m s.1 (k + s.2)) (fun a t => a = id → Q t ∨ t = s) ∧ pushM m s.1 (k + s.2) id = none ∧ updD D s.1 (k + s.2) id = some k ∧
    mu n (updD D s.1 (k + s.2)) (pushM m s.1 (k + s.2)) + 1 ≤ mu n D m := by
  have hk := h.big hn hid
  have hne : s.1 ≠ id := by
    intro e
    rw [e, hid] at hlt
    simp only [farOf] at hlt
    omega
  have hpm : pushM m s.1 (k + s.2) s.1 = some (k + s.2) := by
    unfold pushM
    rw [if_pos rfl]
    cases hm : m s.1 with
    | none => rfl
    | some o =>
      have := h.q _ _ hm
      rw [this] at hlt
      simp only [farOf] at hlt
      simp only
      rw [if_neg (by omega)]
  have hpo : ∀ v, v ≠ s.1 → pushM m s.1 (k + s.2) v = m v := fun v hv => by unfold pushM; rw [if_neg hv]
  have hD : updD D s.1 (k + s.2) s.1 = some (k + s.2) := if_pos rfl
  have hDo : ∀ v, v ≠ s.1 → updD D s.1 (k + s.2) v = D v := fun v hv => if_neg hv
  have hcnt := sumTo_upd (f := fun v => one (updD D s.1 (k + s.2) v)) (g := fun v => one (D v)) (b := s.1) n hsn (fun v hv => by simp [hDo v hv])
  have hcm := sumTo_upd (f := fun v => one (pushM m s.1 (k + s.2) v)) (g := fun v => one (m v)) (b := s.1) n hsn (fun v hv => by simp [hpo v hv])
  have hsum := sumTo_upd (f := fun v => (farOf (updD D s.1 (k + s.2) v)).toNat) (g := fun v => (farOf (D v)).toNat) (b := s.1) n hsn (fun v hv => by simp [hDo v hv])
  have one1 : one (some (k + (s.2 : Int))) = 1 := rfl
  have oneL : ∀ x, one x ≤ 1 := fun x => by unfold one; split <;> omega
  simp only [hD, hpm, one1] at hcnt hcm hsum
  have ff : farOf (some (k + (s.2 : Int))) = k + s.2 := rfl
  rw [ff] at hsum
  have cle : cntS D n ≤ cntS (updD D s.1 (k + s.2)) n := by have := oneL (D s.1); unfold cntS; omega
  refine ⟨⟨?_, fun v d hv => ?_, fun v o hv => ?_, fun a x t ha ht htr hm hP => ?_, fun v d hv => ?_⟩, by rw [hpo id hne.symm]; exact hmid, by rw [hDo id hne.symm]; exact hid, ?_⟩
  · by_cases e : u = s.1
    · rw [← e, h.src] at hlt
      simp only [farOf] at hlt
      omega
    · rw [hDo u e]
      exact h.src
  · by_cases e : v = s.1
    · subst e
      rw [hD] at hv
      simp only [Option.some.injEq] at hv
      subst hv
      exact (h.walk id k hid).snoc s hs hr
    · rw [hDo v e] at hv
      exact h.walk v d hv
  · by_cases e : v = s.1
    · subst e
      rw [hpm] at hv
      rw [hD]
      exact hv
    · rw [hpo v e] at hv
      rw [hDo v e]
      exact h.q v o hv
  · by_cases ea : a = s.1
    · subst ea
      rw [hpm] at hm
      cases hm
    · rw [hDo a ea] at ha
      rw [hpo a ea] at hm
      have old : (∃ y, D t.1 = some y ∧ y ≤ x + t.2) → ∃ y, updD D s.1 (k + s.2) t.1 = some y ∧ y ≤ x + t.2 := by
        rintro ⟨y, h1, h2⟩
        by_cases e : t.1 = s.1
        · rw [e] at h1 ⊢
          rw [h1] at hlt
          simp only [farOf] at hlt
          exact ⟨_, hD, by omega⟩
        · exact ⟨y, by rw [hDo _ e]; exact h1, h2⟩
      by_cases e : a = id
      · rcases hP e with h1 | h1
        · exact old (h.fwd a x t ha ht htr hm (fun _ => h1))
        · subst h1
          rw [e, hid] at ha
          simp only [Option.some.injEq] at ha
          exact ⟨_, hD, by omega⟩
      · exact old (h.fwd a x t ha ht htr hm (fun e' => absurd e' e))
  · by_cases e : v = s.1
    · subst e
      rw [hD] at hv
      simp only [Option.some.injEq] at hv
      subst hv
      refine ⟨hsn, ?_⟩
      cases hDs : D s.1 with
      | none =>
        rw [hDs] at hcnt
        have h1 := (h.bnd id k hid).2
        have h0 : one (none : Option Int) = 0 := rfl
        rw [h0] at hcnt
        have h2 : cntS (updD D s.1 (k + s.2)) n = cntS D n + 1 := by unfold cntS; omega
        rw [h2]
        omega
      | some o =>
        have h1 := (h.bnd s.1 o hDs).2
        rw [hDs] at hlt
        simp only [farOf] at hlt
        omega
    · rw [hDo v e] at hv
      have h1 := h.bnd v d hv
      exact ⟨h1.1, by omega⟩
  · have hc := oneL (m s.1)
    unfold mu cntS
    omega
/-- A step is looked at that makes no label less. -/
theorem DInv.skip {n : Nat} {W : Nat → List (Nat × Nat)} {r : Int} {u : Nat} {D m : Nat → Option Int} {id : Nat} {k : Int} {s : Nat × Nat} {Q : Nat × Nat → Prop} (h : DInv n W r u D m (fun a t => a = id → Q t)) (hn : n ≤ 65536) (hid : D id = some k)
    (hw : s.2 ≤ 140737488355328) (hno : r < s.1 → ¬ k + s.2 < farOf (D s.1)) : DInv n W r u D m (fun a t => a = id → Q t ∨ t = s) := by
  have hk := h.big hn hid
  refine ⟨h.src, h.walk, h.q, fun a x t ha ht htr hm hP => ?_, h.bnd⟩
  by_cases e : a = id
  · rcases hP e with h1 | h1
    · exact h.fwd a x t ha ht htr hm (fun _ => h1)
    · subst h1
      rw [e, hid] at ha
      simp only [Option.some.injEq] at ha
      have h2 := hno htr
      cases hD : D t.1 with
      | none => rw [hD] at h2; simp only [farOf] at h2; omega
      | some y => rw [hD] at h2; simp only [farOf] at h2; exact ⟨y, rfl, by omega⟩
  · exact h.fwd a x t ha ht htr hm (fun e' => absurd e' e)
theorem DInv.all {n : Nat} {W : Nat → List (Nat × Nat)} {r : Int} {u : Nat} {D m : Nat → Option Int} {id : Nat} {Q : Nat × Nat → Prop} (h : DInv n W r u D m (fun a t => a = id → Q t)) (hq : ∀ t ∈ W id, Q t) : DInv n W r u D m (fun _ _ => True) :=
  ⟨h.src, h.walk, h.q, fun a x t ha ht htr hm _ => h.fwd a x t ha ht htr hm (fun e => by subst e; exact hq t ht), h.bnd⟩
theorem DInv.done {n : Nat} {W : Nat → List (Nat × Nat)} {r : Int} {u : Nat} {D m : Nat → Option Int} (h : DInv n W r u D m (fun _ _ => True)) (hm : ∀ v, m v = none) : IsS W r u D := by
  refine ⟨h.walk, fun v d' hw => ?_⟩
  induction hw with
  | nil => exact ⟨0, h.src, by omega⟩
  | snoc s hw hs hr ih =>
    obtain ⟨d, h1, h2⟩ := ih
    obtain ⟨y, h3, h4⟩ := h.fwd _ d s h1 hs hr (hm _) trivial
    exact ⟨y, h3, by omega⟩
end Go.Proofs.YtjbphoophgbmiaaDoor
