/- The reference's Arcs. -/
import Derived.Test.YtjbphoophgbmiaaDoorM9
import Derived.Test.YtjbphoophgbmiaaDoorM15
import Derived.Test.YtjbphoophgbmiaaDoorM17
import Derived.Lib.MinMax
namespace Go.Proofs.YtjbphoophgbmiaaDoor
open Go.ChangeShapes Go.WideShapes Go.ChangeAt Go.RowKit Go.Joins Go.Deep

theorem rendCells_len (x : EndD) : (rendCells x).length = 3 := rfl
theorem Tryd.infoREnd : (Tryd.prog.info? 121).map (fun i => (i.zero, i.size, i.bytes)) = some (some (.agg #[.int .i64 0, .int .i64 0, .int .i64 0]), 3, 24) := by kernel_rfl
def ArcsNew (h : HierD) (w : World) (e : Ending) (w' : World) : Prop := ∃ ao cap, e = .returned (.slice ao (endsOf h).length cap) ∧ See w' ao cap rendCells 3 (endsOf h) ∧ (∀ b o, ao = some ⟨b, o, none⟩ → w.heap.size ≤ b) ∧ Below w.heap.size w w'
set_option maxRecDepth 100000 in
set_option maxHeartbeats 4000000 in
theorem arcs_any (A : HA) (h : HierD) (w : World) (see : HSee w A h) (u : FirstsOk h.node.length h.upF h.up.length) (d : FirstsOk h.node.length h.dnF h.dn.length) (hn : h.node.length ≤ 65536) (htot : h.up.length + h.dn.length ≤ 1048576) :
    Calls Tryd.prog 84 #[hierVal A h] w (ArcsNew h w) := by
  have hlen := endsOf_length u d
  have hrl : (ranksL h).length = (endsOf h).length := by unfold ranksL; simp
  have SEE := Lib.hid see
  have UOK := Lib.hid u
  have DOK := Lib.hid d
  have HX0 := Lib.hid (Cells.new w 25 (hierCells A h))
  have HB0 := Lib.hid ((Below.refl w.heap.size w).alloc (Nat.le_refl _) (.cells (hierCells A h).toArray 25))
  obtain ⟨k0, k1, k2, k3, k4⟩ := hier_five HX0.out
  have HLEN := Lib.hid hlen
  have HRL := Lib.hid hrl
  have hN : (endsOf h).length ≤ 1048576 := by omega
  clear see u d hlen hrl
  unfold hierVal
  go_enter Tryd.func84, Tryd.ntmps84
  go_wp2_with fail
  refine (rranks_any A h _ (SEE.out.below HB0.out) UOK.out DOK.out hn htot).mono ?_
  rintro e w1 ⟨ra, rc, rfl, sr, hb⟩
  rw [HRL.out]
  have SR := Lib.hid sr
  have HX := Lib.hid (HX0.out.below hb HX0.out.lt)
  have lz := HX.out.lt
  have HB := Lib.hid (HB0.out.trans (hb.mono HB0.out.size))
  clear sr hb HX0 HB0 k0 k1 k2 k3 k4
  obtain ⟨N, hNN⟩ : ∃ N, (endsOf h).length = N := ⟨_, rfl⟩
  rw [hNN]
  rw [hNN] at hN
  have HNN := Lib.hid hNN
  clear hNN
  go_wp2_with fail
  go_loopg [4, 10] N (fun g vm vi wr => ∃ (k : Nat) (ao2 : Option Addr) (cap2 : Nat), vi = .int .i64 k ∧ k ≤ N ∧ g = N - k ∧ vm = .slice ao2 k cap2 ∧
    wr.ownsRow 0 121 3 (.slice ao2 k cap2) k (((endsOf h).take k).flatMap rendCells) ∧ (∀ b, (Value.slice ao2 k cap2).ownBlock = some b → w1.heap.size ≤ b) ∧ Cells wr w.heap.size 25 (hierCells A h) ∧ Below w1.heap.size w1 wr)
  case atStart => exact ⟨0, none, 0, rfl, Nat.zero_le _, rfl, rfl, World.ownsRow_nil _ _ _ _, by simp [Value.ownBlock], HX.out, Below.refl _ _⟩
  case round =>
    obtain ⟨k, ao2, cap2, rfl, hk, hg, rfl, hown, hnew, hx, hbl⟩ := hrel
    obtain ⟨wo, rfl⟩ : ∃ wo : World, wo = wr := ⟨_, rfl⟩
    have HG := Lib.hid hg
    have HOWN := Lib.hid hown
    have HNEW := Lib.hid hnew
    have HX2 := Lib.hid hx
    have HBL := Lib.hid hbl
    clear hg hown hnew hx hbl HX
    by_cases hkl : k < N
    · obtain ⟨x, hx⟩ : ∃ x, (endsOf h)[k]? = some x := ⟨_, List.getElem?_eq_getElem (by rw [HNN.out]; exact hkl)⟩
      have hxd : (endsOf h).getD k default = x := by rw [List.getD_eq_getElem?_getD, hx]; rfl
      have HX := Lib.hid hx
      have HBW := Lib.hid (HB.out.trans (HBL.out.mono HB.out.size))
      obtain ⟨k0, k1, k2, k3, k4⟩ := hier_five HX2.out
      clear hx
      go_wp2_with fail
      have hrd := rendof_any A h k ra rc wo (SEE.out.below HBW.out) (SR.out.below HBL.out) UOK.out DOK.out htot (by have := HLEN.out; have := HNN.out; omega)
      rw [HRL.out, HNN.out, hxd] at hrd
      refine hrd.mono ?_
      rintro e w2 ⟨rfl, hb⟩
      have HB2 := Lib.hid hb
      have hbs := hb.size
      have hwo := HBL.out.size
      unfold rendVal
      clear hb hrd hxd k0 k1 k2 k3 k4
      have how := HOWN.out
      go_wp2_with (at_builtin; refine wpList_app _ rfl _ _ 149 rfl 121 (.agg #[.int .i64 0, .int .i64 0, .int .i64 0]) 3 24 Tryd.underlying149 Tryd.infoREnd rfl (by decide) (.slice ao2 k cap2) k (((endsOf h).take k).flatMap rendCells) rfl ?own ⟨w2.heap.size, 0, none⟩ 1 1 (rendCells x) rfl rfl ?c1 ?c2 ?c3 ?c4 ?_)
      case own => exact own_kept (bs := []) how ((Only.of_below HB2.out).alloc _) (fun q _ => by simp)
      case c1 => exact cells_new w2 121 (rendCells x)
      case c2 => intro u hu; simp [rendCells] at hu; rcases hu with rfl | rfl | rfl <;> rfl
      case c3 => unfold maxLen; omega
      case c4 => omega
      intro ao5 cap5 w5 hown5 ho5 hk5
      have hb1 := HBL.out.trans (HB2.out.mono HBL.out.size)
      have hbw := hb1.alloc hb1.size (.cells (rendCells x).toArray 121)
      have hnew5 : ∀ x, (Value.slice ao5 (k + 1) cap5).ownBlock = some x → w1.heap.size ≤ x := by
        intro x hx
        rcases hk5 x hx with h1 | h1
        · exact HNEW.out x h1
        · have := hbw.size; omega
      have hbl5 : Below w1.heap.size w1 w5 := hbw.trans (ho5.below hbw.size (fun q hq => HNEW.out q (by simpa using hq)))
      have hf5 : ((endsOf h).take k).flatMap rendCells ++ rendCells x = ((endsOf h).take (k + 1)).flatMap rendCells := by
        rw [List.take_add_one, HX.out, List.flatMap_append]
        simp
      rw [hf5] at hown5
      have hx5 := ((HX2.out.below HB2.out HX2.out.lt).alloc (.cells (rendCells x).toArray 121)).kept ho5 (by
        intro hm
        have h1 := HNEW.out _ (by simpa using hm)
        omega)
      have O5 := Lib.hid hown5
      have N5 := Lib.hid hnew5
      have B5 := Lib.hid hbl5
      have X5 := Lib.hid hx5
      clear hown5 ho5 hk5 hnew5 hbl5 hf5 hbw how hb1 hx5
      go_wp2_with fail
      go_roundg (N - (k + 1))
      case measure => rw [HG.out]; omega
      case rel => exact ⟨k + 1, ao5, cap5, by go_num, by omega, rfl, rfl, O5.out, N5.out, X5.out, B5.out⟩
    · obtain rfl : k = N := by omega
      go_wp2
      go_returns
      have hO := HOWN.out
      rw [List.take_of_length_le (by rw [HNN.out]; exact Nat.le_refl _)] at hO
      have hf := (See.of_own rendCells_len hO (by have := HNN.out; omega)).1
      exact ⟨ao2, cap2, congrArg (fun m => Ending.returned (.slice ao2 m cap2)) HNN.out.symm, hf, fun b o e => Nat.le_trans HB.out.size (HNEW.out b (by rw [e]; rfl)), HB.out.trans (HBL.out.mono HB.out.size)⟩
end Go.Proofs.YtjbphoophgbmiaaDoor

/- All ways at once, as a plain law: the reference's Above, without a program. -/
namespace Go.Proofs.YtjbphoophgbmiaaDoor
open Go.ChangeShapes Go.WideShapes Go.ChangeAt Go.RowKit Go.Joins Go.Deep

def minO : Option Int → Option Int → Option Int
  | some a, some b => some (if a ≤ b then a else b)
  | some a, none => some a
  | none, y => y
def addO : Option Int → Option Int → Option Int
  | some a, some b => some (a + b)
  | _, _ => none
def leO (a b : Option Int) : Prop := ∀ y, b = some y → ∃ x, a = some x ∧ x ≤ y
theorem leO.refl (a : Option Int) : leO a a := fun y h => ⟨y, h, Int.le_refl _⟩
theorem leO.trans {a b c : Option Int} (h : leO a b) (k : leO b c) : leO a c := fun y hy => by
  obtain ⟨x, hx, hl⟩ := k y hy
  obtain ⟨z, hz, hm⟩ := h x hx
  exact ⟨z, hz, Int.le_trans hm hl⟩
theorem leO_min_left (a b : Option Int) : leO (minO a b) a := by
  intro y hy
  subst hy
  cases b with
  | none => exact ⟨y, rfl, Int.le_refl _⟩
  | some b =>
    refine ⟨_, rfl, ?_⟩
    split <;> omega
theorem leO_min_right (a b : Option Int) : leO (minO a b) b := by
  intro y hy
  subst hy
  cases a with
  | none => exact ⟨y, rfl, Int.le_refl _⟩
  | some a =>
    refine ⟨_, rfl, ?_⟩
    split <;> omega
theorem minO_cases {a b : Option Int} {x : Int} (h : minO a b = some x) : a = some x ∨ b = some x := by
  cases a with
  | none => exact .inr h
  | some a =>
    cases b with
    | none => exact .inl h
    | some b =>
      simp only [minO, Option.some.injEq] at h
      split at h
      · exact .inl (by rw [h])
      · exact .inr (by rw [h])
theorem addO_some {a b : Option Int} {x : Int} (h : addO a b = some x) : ∃ y z, a = some y ∧ b = some z ∧ x = y + z := by
  cases a with
  | none => simp [addO] at h
  | some a =>
    cases b with
    | none => simp [addO] at h
    | some b =>
      simp only [addO, Option.some.injEq] at h
      exact ⟨a, b, rfl, rfl, h.symm⟩
/-- Each node is at nought from itself, and no distance is below. -/
structure GoodM (D : Nat → Nat → Option Int) : Prop where
  dg : ∀ i, D i i = some 0
  nn : ∀ i j d, D i j = some d → 0 ≤ d
def phase (lo k : Nat) (D : Nat → Nat → Option Int) : Nat → Nat → Option Int := fun i j => if lo ≤ i ∧ lo ≤ j then minO (D i j) (addO (D i k) (D k j)) else D i j
def mixM (lo k : Nat) (D : Nat → Nat → Option Int) (i j : Nat) : Nat → Nat → Option Int := fun a b => if lo ≤ a ∧ lo ≤ b ∧ (a < i ∨ (a = i ∧ b < j)) then minO (D a b) (addO (D a k) (D k b)) else D a b
theorem minO_self_left {x : Option Int} : minO x (addO (some 0) x) = x := by
  cases x with
  | none => rfl
  | some x => simp [minO, addO]
theorem minO_self_right {x : Option Int} : minO x (addO x (some 0)) = x := by
  cases x with
  | none => rfl
  | some x => simp [minO, addO]
theorem mix_col {lo k : Nat} {D : Nat → Nat → Option Int} (g : GoodM D) (i j a : Nat) : mixM lo k D i j a k = D a k := by
  unfold mixM
  split
  · rw [g.dg k, minO_self_right]
  · rfl
theorem mix_row {lo k : Nat} {D : Nat → Nat → Option Int} (g : GoodM D) (i j b : Nat) : mixM lo k D i j k b = D k b := by
  unfold mixM
  split
  · rw [g.dg k, minO_self_left]
  · rfl
theorem mix_start (lo k : Nat) (D : Nat → Nat → Option Int) : mixM lo k D lo lo = D := by
  funext a b
  unfold mixM
  rw [if_neg (by omega)]
theorem mix_row_end (lo k : Nat) (D : Nat → Nat → Option Int) (i n : Nat) {a b : Nat} (hb : b < n) : mixM lo k D i n a b = mixM lo k D (i + 1) lo a b := by
  unfold mixM
  by_cases h : lo ≤ a ∧ lo ≤ b ∧ (a < i ∨ (a = i ∧ b < n))
  · rw [if_pos h, if_pos (by omega)]
  · rw [if_neg h, if_neg (by omega)]
theorem mix_end (lo k : Nat) (D : Nat → Nat → Option Int) (n : Nat) {a b : Nat} (ha : a < n) : mixM lo k D n lo a b = phase lo k D a b := by
  unfold mixM phase
  by_cases h : lo ≤ a ∧ lo ≤ b
  · rw [if_pos h, if_pos (by omega)]
  · rw [if_neg h, if_neg (by omega)]
theorem mix_step {lo k : Nat} {D : Nat → Nat → Option Int} (i j : Nat) (hi : lo ≤ i) (hj : lo ≤ j) (a b : Nat) : mixM lo k D i (j + 1) a b = if a = i ∧ b = j then minO (D i j) (addO (D i k) (D k j)) else mixM lo k D i j a b := by
  unfold mixM
  by_cases h : a = i ∧ b = j
  · obtain ⟨rfl, rfl⟩ := h
    rw [if_pos (by omega), if_pos ⟨rfl, rfl⟩]
  · rw [if_neg h]
    by_cases h2 : lo ≤ a ∧ lo ≤ b ∧ (a < i ∨ (a = i ∧ b < j))
    · rw [if_pos h2, if_pos (by omega)]
    · rw [if_neg h2, if_neg (by omega)]
theorem mix_here {lo k : Nat} {D : Nat → Nat → Option Int} (i j : Nat) : mixM lo k D i j i j = D i j := by
  unfold mixM
  rw [if_neg (by omega)]
theorem phase_good {lo k : Nat} {D : Nat → Nat → Option Int} (g : GoodM D) : GoodM (phase lo k D) := by
  refine ⟨fun i => ?_, fun i j d h => ?_⟩
  · unfold phase
    split
    · rw [g.dg i]
      cases h : addO (D i k) (D k i) with
      | none => rfl
      | some x =>
        obtain ⟨y, z, hy, hz, rfl⟩ := addO_some h
        have := g.nn _ _ _ hy
        have := g.nn _ _ _ hz
        simp only [minO]
        rw [if_pos (by omega)]
    · exact g.dg i
  · unfold phase at h
    split at h
    · rcases minO_cases h with h | h
      · exact g.nn _ _ _ h
      · obtain ⟨y, z, hy, hz, rfl⟩ := addO_some h
        have := g.nn _ _ _ hy
        have := g.nn _ _ _ hz
        omega
    · exact g.nn _ _ _ h
def BdM (B : Int) (D : Nat → Nat → Option Int) : Prop := ∀ i j d, D i j = some d → d ≤ B
theorem phase_bd {lo k : Nat} {B : Int} {D : Nat → Nat → Option Int} (h0 : 0 ≤ B) (b : BdM B D) : BdM (2 * B) (phase lo k D) := by
  intro i j d h
  unfold phase at h
  split at h
  · rcases minO_cases h with h | h
    · have := b _ _ _ h; omega
    · obtain ⟨y, z, hy, hz, rfl⟩ := addO_some h
      have := b _ _ _ hy
      have := b _ _ _ hz
      omega
  · have := b _ _ _ h; omega
theorem mix_bd {lo k : Nat} {B : Int} {D : Nat → Nat → Option Int} (h0 : 0 ≤ B) (b : BdM B D) (i j : Nat) : BdM (2 * B) (mixM lo k D i j) := by
  intro a c d h
  unfold mixM at h
  split at h
  · rcases minO_cases h with h | h
    · have := b _ _ _ h; omega
    · obtain ⟨y, z, hy, hz, rfl⟩ := addO_some h
      have := b _ _ _ hy
      have := b _ _ _ hz
      omega
  · have := b _ _ _ h; omega
theorem mix_nn {lo k : Nat} {D : Nat → Nat → Option Int} (g : GoodM D) (i j : Nat) : ∀ a b d, mixM lo k D i j a b = some d → 0 ≤ d := by
  intro a b d h
  unfold mixM at h
  split at h
  · rcases minO_cases h with h | h
    · exact g.nn _ _ _ h
    · obtain ⟨y, z, hy, hz, rfl⟩ := addO_some h
      have := g.nn _ _ _ hy
      have := g.nn _ _ _ hz
      omega
  · exact g.nn _ _ _ h
/-- No way by a node below m is shorter. -/
def ClM (lo m : Nat) (D : Nat → Nat → Option Int) : Prop := ∀ k, lo ≤ k → k < m → ∀ i j, lo ≤ i → lo ≤ j → leO (D i j) (addO (D i k) (D k j))
theorem phase_row {lo k : Nat} {D : Nat → Nat → Option Int} (g : GoodM D) (b : Nat) : phase lo k D k b = D k b := by
  unfold phase
  split
  · rw [g.dg k, minO_self_left]
  · rfl
theorem phase_col {lo k : Nat} {D : Nat → Nat → Option Int} (g : GoodM D) (a : Nat) : phase lo k D a k = D a k := by
  unfold phase
  split
  · rw [g.dg k, minO_self_right]
  · rfl
theorem phase_le_left {lo k : Nat} {D : Nat → Nat → Option Int} (i j : Nat) : leO (phase lo k D i j) (D i j) := by
  unfold phase
  split
  · exact leO_min_left _ _
  · exact leO.refl _
theorem phase_le_right {lo k : Nat} {D : Nat → Nat → Option Int} {i j : Nat} (hi : lo ≤ i) (hj : lo ≤ j) : leO (phase lo k D i j) (addO (D i k) (D k j)) := by
  unfold phase
  rw [if_pos ⟨hi, hj⟩]
  exact leO_min_right _ _
theorem phase_cl {lo m : Nat} {D : Nat → Nat → Option Int} (g : GoodM D) (hm : lo ≤ m) (c : ClM lo m D) : ClM lo (m + 1) (phase lo m D) := by
  intro k hk1 hk2 i j hi hj
  by_cases hkm : k = m
  · subst hkm
    rw [phase_row g, phase_col g]
    exact phase_le_right hi hj
  · intro y hy
    obtain ⟨a, b, ha, hb, rfl⟩ := addO_some hy
    have c' := c k hk1 (by omega)
    have hL := phase_le_left (lo := lo) (k := m) (D := D) i j
    have hR := phase_le_right (lo := lo) (k := m) (D := D) hi hj
    simp only [phase, if_pos (And.intro hi hk1)] at ha
    simp only [phase, if_pos (And.intro hk1 hj)] at hb
    rcases minO_cases ha with ha | ha <;> rcases minO_cases hb with hb | hb
    · exact (hL.trans (c' i j hi hj)) (a + b) (by rw [ha, hb]; rfl)
    · obtain ⟨e, f, he, hf, rfl⟩ := addO_some hb
      obtain ⟨x, hx, hle⟩ := c' i m hi hm (a + e) (by rw [ha, he]; rfl)
      obtain ⟨z, hz, hlz⟩ := hR (x + f) (by rw [hx, hf]; rfl)
      exact ⟨z, hz, by omega⟩
    · obtain ⟨e, f, he, hf, rfl⟩ := addO_some ha
      obtain ⟨x, hx, hle⟩ := c' m j hm hj (f + b) (by rw [hf, hb]; rfl)
      obtain ⟨z, hz, hlz⟩ := hR (e + x) (by rw [he, hx]; rfl)
      exact ⟨z, hz, by omega⟩
    · obtain ⟨e, f, he, hf, rfl⟩ := addO_some ha
      obtain ⟨p, q, hp, hq, rfl⟩ := addO_some hb
      have h1 := g.nn _ _ _ hf
      have h2 := g.nn _ _ _ hp
      obtain ⟨z, hz, hlz⟩ := hR (e + q) (by rw [he, hq]; rfl)
      exact ⟨z, hz, by omega⟩
def fwN (lo : Nat) (D : Nat → Nat → Option Int) : Nat → Nat → Nat → Option Int
  | 0 => D
  | c + 1 => phase lo (lo + c) (fwN lo D c)
theorem fwN_good {lo : Nat} {D : Nat → Nat → Option Int} (g : GoodM D) : ∀ c, GoodM (fwN lo D c)
  | 0 => g
  | c + 1 => phase_good (fwN_good g c)
theorem fwN_cl {lo : Nat} {D : Nat → Nat → Option Int} (g : GoodM D) : ∀ c, ClM lo (lo + c) (fwN lo D c)
  | 0 => fun k h1 h2 => absurd h2 (by omega)
  | c + 1 => phase_cl (fwN_good g c) (Nat.le_add_right lo c) (fwN_cl g c)
theorem fwN_le {lo : Nat} {D : Nat → Nat → Option Int} (i j : Nat) : ∀ c, leO (fwN lo D c i j) (D i j)
  | 0 => leO.refl _
  | c + 1 => (phase_le_left i j).trans (fwN_le i j c)
theorem fwN_bd {lo : Nat} {D : Nat → Nat → Option Int} {B : Int} (h0 : 0 ≤ B) (b : BdM B D) : ∀ c : Nat, BdM (2 ^ c * B) (fwN lo D c)
  | 0 => by simpa [fwN] using b
  | c + 1 => by
    have := phase_bd (lo := lo) (k := lo + c) (Int.mul_nonneg (Int.le_of_lt (Int.pow_pos (by decide))) h0) (fwN_bd (lo := lo) (D := D) h0 b c)
    rw [Int.pow_succ, show (2 : Int) ^ c * 2 * B = 2 * (2 ^ c * B) from by rw [Int.mul_comm (2 ^ c) 2, Int.mul_assoc]]
    exact this
theorem Wk.trans {W : Nat → List (Nat × Nat)} {r : Int} {u v x : Nat} {d e : Int} (h : Wk W r u v d) (k : Wk W r v x e) : Wk W r u x (d + e) := by
  induction k with
  | nil => simpa using h
  | snoc s k hs hr ih =>
    rw [← Int.add_assoc]
    exact ih.snoc s hs hr
def WkM (W : Nat → List (Nat × Nat)) (r : Int) (D : Nat → Nat → Option Int) : Prop := ∀ i j d, D i j = some d → Wk W r i j d
theorem fwN_wk {W : Nat → List (Nat × Nat)} {r : Int} {lo : Nat} {D : Nat → Nat → Option Int} (h : WkM W r D) : ∀ c, WkM W r (fwN lo D c)
  | 0 => h
  | c + 1 => by
    intro i j d hd
    simp only [fwN, phase] at hd
    split at hd
    · rcases minO_cases hd with hd | hd
      · exact fwN_wk h c _ _ _ hd
      · obtain ⟨y, z, hy, hz, rfl⟩ := addO_some hd
        exact (fwN_wk h c _ _ _ hy).trans (fwN_wk h c _ _ _ hz)
    · exact fwN_wk h c _ _ _ hd
def D0 : Nat → Nat → Option Int := fun i j => if i = j then some 0 else none
def addArc (lo : Nat) (D : Nat → Nat → Option Int) (x : EndD) : Nat → Nat → Option Int := fun i j => if lo ≤ x.rank ∧ i = x.tail ∧ j = x.head then minO (D i j) (some (x.link.wt : Int)) else D i j
def arcsM (lo : Nat) (l : List EndD) : Nat → Nat → Option Int := l.foldl (addArc lo) D0
theorem d0_good : GoodM D0 := ⟨fun i => by simp [D0], fun i j d h => by unfold D0 at h; split at h <;> simp_all⟩
theorem addArc_good {lo : Nat} {D : Nat → Nat → Option Int} {x : EndD} (g : GoodM D) : GoodM (addArc lo D x) := by
  refine ⟨fun i => ?_, fun i j d h => ?_⟩
  · unfold addArc
    split
    · rw [g.dg i]
      simp only [minO]
      rw [if_pos (by omega)]
    · exact g.dg i
  · unfold addArc at h
    split at h
    · rcases minO_cases h with h | h
      · exact g.nn _ _ _ h
      · simp only [Option.some.injEq] at h; omega
    · exact g.nn _ _ _ h
theorem foldl_good {lo : Nat} : ∀ (l : List EndD) {D : Nat → Nat → Option Int}, GoodM D → GoodM (l.foldl (addArc lo) D)
  | [], _, g => g
  | _ :: l, _, g => foldl_good l (addArc_good g)
theorem addArc_bd {lo : Nat} {B : Int} {D : Nat → Nat → Option Int} {x : EndD} (hx : (x.link.wt : Int) ≤ B) (b : BdM B D) : BdM B (addArc lo D x) := by
  intro i j d h
  unfold addArc at h
  split at h
  · rcases minO_cases h with h | h
    · exact b _ _ _ h
    · simp only [Option.some.injEq] at h; omega
  · exact b _ _ _ h
theorem foldl_bd {lo : Nat} {B : Int} : ∀ (l : List EndD) {D : Nat → Nat → Option Int}, (∀ x ∈ l, (x.link.wt : Int) ≤ B) → BdM B D → BdM B (l.foldl (addArc lo) D)
  | [], _, _, b => b
  | x :: l, _, hx, b => foldl_bd l (fun y hy => hx y (List.mem_cons_of_mem _ hy)) (addArc_bd (hx x (List.mem_cons_self ..)) b)
theorem addArc_wk {W : Nat → List (Nat × Nat)} {r : Int} {lo : Nat} {D : Nat → Nat → Option Int} {x : EndD} (hx : lo ≤ x.rank → (x.head, x.link.wt) ∈ W x.tail ∧ r < x.head) (b : WkM W r D) : WkM W r (addArc lo D x) := by
  intro i j d h
  unfold addArc at h
  split at h
  · rename_i hh
    obtain ⟨h1, rfl, rfl⟩ := hh
    rcases minO_cases h with h | h
    · exact b _ _ _ h
    · simp only [Option.some.injEq] at h
      subst h
      have := Wk.snoc (W := W) (r := r) (u := x.tail) (x.head, x.link.wt) .nil (hx h1).1 (hx h1).2
      simpa using this
  · exact b _ _ _ h
theorem foldl_wk {W : Nat → List (Nat × Nat)} {r : Int} {lo : Nat} : ∀ (l : List EndD) {D : Nat → Nat → Option Int}, (∀ x ∈ l, lo ≤ x.rank → (x.head, x.link.wt) ∈ W x.tail ∧ r < x.head) → WkM W r D → WkM W r (l.foldl (addArc lo) D)
  | [], _, _, b => b
  | x :: l, _, hx, b => foldl_wk l (fun y hy => hx y (List.mem_cons_of_mem _ hy)) (addArc_wk (hx x (List.mem_cons_self ..)) b)
theorem addArc_le {lo : Nat} {D : Nat → Nat → Option Int} {x : EndD} (i j : Nat) : leO (addArc lo D x i j) (D i j) := by
  unfold addArc
  split
  · exact leO_min_left _ _
  · exact leO.refl _
theorem foldl_le {lo : Nat} (i j : Nat) : ∀ (l : List EndD) {D : Nat → Nat → Option Int}, leO (l.foldl (addArc lo) D i j) (D i j)
  | [], _ => leO.refl _
  | _ :: l, _ => (foldl_le i j l).trans (addArc_le i j)
theorem foldl_arc {lo : Nat} : ∀ (l : List EndD) {D : Nat → Nat → Option Int} {x : EndD}, x ∈ l → lo ≤ x.rank → leO (l.foldl (addArc lo) D x.tail x.head) (some (x.link.wt : Int))
  | y :: l, D, x, hx, hr => by
    rw [List.foldl_cons]
    rcases List.mem_cons.1 hx with rfl | hx
    · refine (foldl_le _ _ l).trans ?_
      unfold addArc
      rw [if_pos ⟨hr, rfl, rfl⟩]
      exact leO_min_right _ _
    · exact foldl_arc l hx hr
/-- What the reference's Above tells of a hierarchy in form. -/
def aboveM (h : HierD) (lo : Nat) : Nat → Nat → Option Int := fwN lo (arcsM lo (endsOf h)) (h.node.length - lo)
theorem ends_web {h : HierD} (hc : checkErr h = .nil) {x : EndD} (hx : x ∈ endsOf h) : (x.head, x.link.wt) ∈ webD h x.tail ∧ x.rank ≤ x.head ∧ x.rank ≤ x.tail ∧ x.link.wt ≤ 140737488355328 ∧ x.tail < h.node.length ∧ x.head < h.node.length := by
  have ok := half_up hc
  have okd := half_dn hc
  unfold endsOf at hx
  rw [List.mem_append, List.mem_flatMap, List.mem_flatMap] at hx
  rcases hx with ⟨a, ha, hx⟩ | ⟨a, ha, hx⟩
  · simp only [endsUp, List.mem_map] at hx
    obtain ⟨l, hl, rfl⟩ := hx
    have ha := List.mem_range.1 ha
    have hu := ok.up a ha l hl
    refine ⟨?_, Nat.le_of_lt hu.1, Nat.le_refl _, hu.2.2, ha, hu.2.1⟩
    unfold webD
    rw [webTo_mem]
    exact .inl ⟨ha, l, hl, rfl⟩
  · simp only [endsDn, List.mem_map] at hx
    obtain ⟨l, hl, rfl⟩ := hx
    have ha := List.mem_range.1 ha
    have hu := okd.up a ha l hl
    refine ⟨?_, Nat.le_refl _, Nat.le_of_lt hu.1, hu.2.2, hu.2.1, ha⟩
    unfold webD
    rw [webTo_mem]
    exact .inr ⟨ha, l, hl, rfl, rfl⟩
theorem web_ends {h : HierD} {a : Nat} {s : Nat × Nat} (hs : s ∈ webD h a) : ∃ x ∈ endsOf h, x.tail = a ∧ x.head = s.1 ∧ x.link.wt = s.2 ∧ (x.rank = a ∨ x.rank = s.1) := by
  unfold webD at hs
  rw [webTo_mem] at hs
  rcases hs with ⟨h1, l, hl, rfl⟩ | ⟨h1, l, hl, h2, h3⟩
  · exact ⟨⟨l, a, l.to, a⟩, by unfold endsOf; rw [List.mem_append, List.mem_flatMap]; exact .inl ⟨a, List.mem_range.2 h1, List.mem_map.2 ⟨l, hl, rfl⟩⟩, rfl, rfl, rfl, .inl rfl⟩
  · exact ⟨⟨l, l.to, s.1, s.1⟩, by unfold endsOf; rw [List.mem_append, List.mem_flatMap, List.mem_flatMap]; exact .inr ⟨s.1, List.mem_range.2 h1, List.mem_map.2 ⟨l, hl, rfl⟩⟩, h2.symm, rfl, h3.symm, .inr rfl⟩
theorem aboveM_isS {h : HierD} (hc : checkErr h = .nil) {lo u : Nat} {r : Int} (hr : (lo : Int) = r + 1) (hu : lo ≤ u) (hun : u < h.node.length) : IsS (webD h) r u (aboveM h lo u) := by
  have g : GoodM (arcsM lo (endsOf h)) := foldl_good _ d0_good
  have gf := fwN_good (lo := lo) g (h.node.length - lo)
  have cl := fwN_cl (lo := lo) g (h.node.length - lo)
  have wok := web_ok (half_up hc) (half_dn hc)
  refine ⟨fun v d hd => ?_, fun v d' hw => ?_⟩
  · refine fwN_wk (foldl_wk _ (fun x hx hl => ?_) (fun i j e he => ?_)) _ _ _ _ hd
    · obtain ⟨h1, h2, h3, -⟩ := ends_web hc hx
      exact ⟨h1, by omega⟩
    · unfold D0 at he
      split at he
      · rename_i e1; subst e1; simp only [Option.some.injEq] at he; subst he; exact .nil
      · cases he
  · have key : lo ≤ v ∧ v < h.node.length ∧ ∃ y, aboveM h lo u v = some y ∧ y ≤ d' := by
      induction hw with
      | nil => exact ⟨hu, hun, 0, gf.dg u, Int.le_refl _⟩
      | @snoc a d s hw hs hr2 ih =>
        obtain ⟨ha, han, x, hx, hxd⟩ := ih
        have hsn := (wok a s han hs).1
        refine ⟨by omega, hsn, ?_⟩
        obtain ⟨z, hz, hz1, hz2, hz3, hz4⟩ := web_ends hs
        have hze : leO (aboveM h lo a s.1) (some (s.2 : Int)) := by
          refine (fwN_le _ _ _).trans ?_
          rw [← hz1, ← hz2, ← hz3]
          exact foldl_arc _ hz (by omega)
        obtain ⟨e, he, hle⟩ := hze _ rfl
        obtain ⟨y, hy, hyl⟩ := cl a ha (by omega) u s.1 hu (by omega) (x + e) (by
          have hx' : fwN lo (arcsM lo (endsOf h)) (h.node.length - lo) u a = some x := hx
          have he' : fwN lo (arcsM lo (endsOf h)) (h.node.length - lo) a s.1 = some e := he
          rw [hx', he']; rfl)
        exact ⟨y, hy, by omega⟩
    exact key.2.2
end Go.Proofs.YtjbphoophgbmiaaDoor

/- The reference's Above: squares that are written. -/
namespace Go.Proofs.YtjbphoophgbmiaaDoor
open Go.ChangeShapes Go.WideShapes Go.ChangeAt Go.RowKit Go.Joins Go.Deep

/-- A square whose rows lie each in a block of its own, none below base. -/
structure MOwn (n : Nat) (X : Nat → Nat → Int) (bm base : Nat) (rb : Nat → Nat) (w : World) : Prop where
  rep : MRep n X bm rb w
  bb : base ≤ bm
  lo : ∀ v, v < n → base ≤ rb v
  ne : ∀ v, v < n → rb v ≠ bm
  inj : ∀ u v, u < n → v < n → rb u = rb v → u = v
theorem MOwn.below {n : Nat} {X : Nat → Nat → Int} {bm base : Nat} {rb : Nat → Nat} {w w' : World} (k : MOwn n X bm base rb w) (o : Below w.heap.size w w') : MOwn n X bm base rb w' := ⟨k.rep.below o, k.bb, k.lo, k.ne, k.inj⟩
theorem MOwn.congr {n : Nat} {X Y : Nat → Nat → Int} {bm base : Nat} {rb : Nat → Nat} {w : World} (k : MOwn n X bm base rb w) (h : ∀ a b, a < n → b < n → X a b = Y a b) : MOwn n Y bm base rb w :=
  ⟨⟨k.rep.m, fun v hv => by rw [← rowCells_congr (fun x hx => h v x hv hx)]; exact k.rep.r v hv⟩, k.bb, k.lo, k.ne, k.inj⟩
theorem MOwn.set {n : Nat} {X : Nat → Nat → Int} {bm base : Nat} {rb : Nat → Nat} {w : World} (k : MOwn n X bm base rb w) {a b : Nat} (ha : a < n) (x : Int) : MOwn n (fun u v => if u = a ∧ v = b then x else X u v) bm base rb (w.setCell ⟨rb a, b, none⟩ (.int .u64 x)) := by
  refine ⟨⟨k.rep.m.other (a := ⟨rb a, b, none⟩) (fun e => k.ne a ha e.symm) _, fun v hv => ?_⟩, k.bb, k.lo, k.ne, k.inj⟩
  by_cases c : v = a
  · subst c
    have h := (k.rep.r v hv).set b (.int .u64 x)
    rw [rowCells_set] at h
    rw [rowCells_congr (g := fun y => if y = b then x else X v y) (fun y _ => by simp)]
    exact h
  · have h := (k.rep.r v hv).other (a := ⟨rb a, b, none⟩) (fun e => c (k.inj v a hv ha e)) (.int .u64 x)
    rw [rowCells_congr (g := X v) (fun y _ => by simp [c])]
    exact h
theorem MOwn.ptr {n : Nat} {X : Nat → Nat → Int} {bm base : Nat} {rb : Nat → Nat} {w : World} (k : MOwn n X bm base rb w) {a : Nat} (ha : a < n) : w.cell? ⟨bm, a, none⟩ = some (.slice (some ⟨rb a, 0, none⟩) n n) := k.rep.m.cell (ptrRow_get ha)
theorem MOwn.get {n : Nat} {X : Nat → Nat → Int} {bm base : Nat} {rb : Nat → Nat} {w : World} (k : MOwn n X bm base rb w) {a b : Nat} (ha : a < n) (hb : b < n) : w.cell? ⟨rb a, b, none⟩ = some (.int .u64 (X a b)) := (k.rep.r a ha).cell (rowCells_get hb)
theorem far_min {a : Option Int} {s : Int} (hs : s ≤ 18446744073709551615) : farOf (minO a (some s)) = min (farOf a) s := by
  cases a with
  | none => simp only [minO, farOf]; omega
  | some a => simp only [minO, farOf]; split <;> omega
end Go.Proofs.YtjbphoophgbmiaaDoor
