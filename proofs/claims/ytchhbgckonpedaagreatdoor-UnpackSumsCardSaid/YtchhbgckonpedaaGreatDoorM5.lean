/- The contract of hier's ends. -/
import Derived.Test.YtchhbgckonpedaaGreatDoorM4
import Derived.Laws.ResultCell
import Derived.Laws.Rows
namespace Go.Proofs.YtchhbgckonpedaaGreatDoor
open Go.ChangeShapes Go.WideShapes Go.ChangeAt Go.RowKit Go.Joins Go.Deep Go.Shelf

attribute [local go_sem] Oper.semAt_some

/-- The law of a loop over an iterator whose (second) loop variable is boxed, with the frame of a round written as the loop's own, turned. -/
def RoundAct (a : Act) (ps : Array Tmp) (enc : Array Value) (slot : Nat) (p : Addr) : Act :=
  { tmps := ((ps.zip enc).foldl (fun t (q, v) => t.setIfInBounds q v) a.tmps).setIfInBounds slot (.pointer (some p)), defers := [] }
theorem rangeFunc_boxed {F : Fence} {n : Nat} {P : Program} {α : Type} {g : Operand} {ps : Array Tmp} {assign body : Code} {Q : Exit → Act → World → Prop} {a : Act} {w : World}
    (hro : F.round = none) (h1 : 1 ≤ n) {gf : Nat} {lb : Array Value} (hg : a.eval g = .func (.func gf) #[] lb) (hFg : F.fn gf) (eg : ∀ args w, (callFunc gf args).run P w = .ok (.enter gf args) w)
    {encs : α → Array Value} {Kp : World → World → Prop} {S Sp : List α → Prop} {N : Nat} {w0 : World} (hseq : SeqStopsK F (n - 1) P gf lb encs Kp S Sp N w0)
    (hKt : ∀ {A B C : World}, Kp A B → Kp B C → Kp A C) (hKb : ∀ (W : World) (l : Nat) (o o' : Obj), w.heap.size ≤ l → W.heap[l]? = some o → o.isCells = false → o.isWalk = false → Kp W (W.putObj l o')) (hb0 : Below w0.heap.size w0 w) (hps : ∀ x, (encs x).size = ps.size)
    (I : List α → World → Prop) (hI : OwnFrom w.heap.size I) (h0 : I [] w) (slot : Nat) (t : TypeId) (cs : α → List Value)
    (hassign : ∀ (l : Nat) (pre : List α) (x : α) (W : World) (K : Act → World → Prop), I pre W → (∀ a' W', KeepsFrom w.heap.size W W' → Kp W W' → I pre W' → (∃ Bx, w.heap.size ≤ Bx ∧ Cells W' Bx t (cs x) ∧ a' = RoundAct a ps (encs x) slot ⟨Bx, 0, none⟩) → K a' W') →
      assign.wpIn (F.inRound l) (n - 1 - 1) P (Exit.then K (fun _ _ _ => False)) { tmps := (ps.zip (encs x)).foldl (fun t (p, v) => t.setIfInBounds p v) a.tmps, defers := [] } W)
    (hbody : ∀ (l : Nat) (pre : List α) (x : α) (Bx : Nat) (W : World), I pre W → w.heap.size ≤ Bx → Cells W Bx t (cs x) → pre.length < N → body.wpIn (F.inRound l) (n - 1 - 1) P (ownPostG w.heap.size Kp I (fun _ _ _ => False) (pre ++ [x]) W) (RoundAct a ps (encs x) slot ⟨Bx, 0, none⟩) W)
    (hdone : ∀ (D : Nat) (xs : List α) (W : World), w.heap.size ≤ D → S xs → I xs W → W.heap[D]? = some (.deferred (some [])) → Q .normal { a with defers := { target := .collected D, args := #[] } :: a.defers } W) :
    (Code.rangeFunc g ps assign body).wpIn F n P Q a w :=
  wpIn_rangeFunc_ownH hro h1 hg hFg eg hseq hKt hKb hb0 hps I (fun _ _ _ => False) hI (fun _ _ _ _ _ hs _ _ => hs) h0
    (fun x a' W => ∃ Bx, w.heap.size ≤ Bx ∧ Cells W Bx t (cs x) ∧ a' = RoundAct a ps (encs x) slot ⟨Bx, 0, none⟩)
    (fun x a' _ X Y row hs hg' hr => by
      obtain ⟨Bx, hB, hc, ha⟩ := hs
      refine ⟨Bx, hB, (hg'.block Bx hc.lt (fun e => ?_)).trans hc, ha⟩
      obtain ⟨-, o, ho, hoc⟩ := hr Bx e.symm
      rw [show X.heap[Bx]? = _ from hc] at ho
      cases ho
      cases hoc)
    hassign (fun l pre x a' W _ _ hi ha hlt => by
      obtain ⟨Bx, hB, hc, rfl⟩ := ha
      exact hbody l pre x Bx W hi hB hc hlt)
    hdone (fun _ _ _ _ _ _ h _ => h.elim)

/-- What has been collected: the variable's box, and the slice in it. -/
def Held (B₀ Bx : Nat) (pre : List (Nat × EndD)) (W : World) : Prop :=
  ∃ v, Boxed W Bx 119 v ∧ W.ownsRow B₀ 162 7 v pre.length ((pre.map Prod.snd).flatMap endCells) ∧ ∃ ao cap, v = .slice ao pre.length cap
theorem held_own (B₀ Bx : Nat) : Own (Held B₀ Bx) :=
  holdsRow_own B₀ Bx 119 162 7 (fun pre : List (Nat × EndD) => pre.length) (fun pre => (pre.map Prod.snd).flatMap endCells) (fun pre v => ∃ ao cap, v = .slice ao pre.length cap)
theorem Tryz.infoEnd : (Tryz.prog.info? 162).map (fun i => (i.zero, i.size, i.bytes)) = some (some (.agg #[.int .u32 0, .int .u64 0, .int .u32 0, .int .u32 0, .int .i64 0, .int .i64 0, .int .i64 0]), 7, 48) := by kernel_rfl
/-- A block of other cells is no slice's row. -/
theorem row_ne {W : World} {B : Nat} {t e : TypeId} {c : Array Value} {m : Nat × Nat} (h : W.heap[B]? = some (.cells c t m)) (hte : t ≠ e) {base size k : Nat} {v : Value} {xs : List Value} (hr : W.ownsRow base e size v k xs) : some B ≠ v.ownBlock := by
  rcases hr.2 with ⟨rfl, _⟩ | ⟨g, cap, cur, rfl, _, hgb, _⟩
  · simp [Value.ownBlock]
  · intro e'
    obtain rfl : B = g := by simpa [Value.ownBlock] using e'
    have := h.symm.trans hgb
    simp at this
    exact hte this.2.1
theorem ownFrom_block {β : Type} {B Bh : Nat} {o : Obj} (hb : Bh < B) : OwnFrom B (fun (_ : β) W => W.heap[Bh]? = some o) :=
  fun _ X _ row hs hg hr => (hg.block Bh (Array.getElem?_eq_some_iff.1 hs).1 (fun e => by have := (hr Bh e.symm).1; omega)).trans hs
theorem Fits.total {w : World} {A : HA} {h : HierD} (f : Fits h) (see : HSee w A h) (u : FirstsOk h.node.length h.upF h.up.length) (d : FirstsOk h.node.length h.dnF h.dn.length) : h.up.length + h.dn.length ≤ 1048576 := by
  have key : ∀ (l : List Nat) (k : Nat), FirstsOk h.node.length l k → (∀ x ∈ l, x < 4294967296) → k < 4294967296 := by
    intro l k hk hl
    have hlt : h.node.length < l.length := by rw [hk.len]; omega
    have := hl _ (List.getElem_mem hlt)
    have hg := hk.last
    rw [List.getD_eq_getElem?_getD, List.getElem?_eq_getElem hlt] at hg
    simp only [Option.getD_some] at hg
    omega
  have h1 := key _ _ u see.bu
  have h2 := key _ _ d see.bd
  have h3 := f.s
  unfold wrap64 at h3
  omega

theorem linksGo_stop {n ups : Nat} {all : List EndD} {k m : Nat} {x : EV} (hk : k < m) (h0 : linksGo n ups all k = .nil) (hx : (if shapeB n ups all k = false then EV.at 4 k 14 else if weightB all k = false then .at 4 k 8 else .nil) = x) (hne : x ≠ .nil) : linksGo n ups all m = x := by
  obtain ⟨j, rfl⟩ : ∃ j, m = k + 1 + j := ⟨m - (k + 1), by omega⟩
  clear hk
  induction j with
  | zero => unfold linksGo; rw [h0]; exact hx
  | succ j ih =>
    rw [← Nat.add_assoc]
    unfold linksGo
    rw [ih]
    cases x <;> first | exact absurd rfl hne | rfl
theorem shapeB_kids {n ups : Nat} {all : List EndD} {i : Nat} (h : shapeB n ups all i = true) : (all.getD i default).link.plain = false → (all.getD i default).link.left < all.length ∧ (all.getD i default).link.right < all.length := by
  intro hp
  rw [shapeB_eq n ups all i _ _ rfl rfl] at h
  split at h
  · cases h
  split at h
  · cases h
  split at h
  · rename_i hq; rw [hp] at hq; cases hq
  split at h
  · cases h
  · omega
theorem endsOf_ok {w : World} {A : HA} {h : HierD} (see : HSee w A h) (hn : h.node.length ≤ 65536) : ∀ x ∈ endsOf h, x.ok := by
  intro x hx
  unfold endsOf at hx
  rw [List.mem_append, List.mem_flatMap, List.mem_flatMap] at hx
  rcases hx with ⟨r, hr, hx⟩ | ⟨r, hr, hx⟩
  · rw [List.mem_range] at hr
    simp only [endsUp, seg, List.mem_map] at hx
    obtain ⟨l, hl, rfl⟩ := hx
    have := see.bup l (List.mem_of_mem_take (List.mem_of_mem_drop hl))
    exact ⟨this, by simp only; omega, by simp only; exact this.1, by simp only; omega⟩
  · rw [List.mem_range] at hr
    simp only [endsDn, seg, List.mem_map] at hx
    obtain ⟨l, hl, rfl⟩ := hx
    have := see.bdn l (List.mem_of_mem_take (List.mem_of_mem_drop hl))
    exact ⟨this, by simp only; exact this.1, by simp only; omega, by simp only; omega⟩
theorem ErrIs.putObj {W : World} {v : Value} {x : EV} {D : Nat} {y : Option (List Deferred)} (o : Obj) (h : ErrIs W v x) (hD : W.heap[D]? = some (.deferred y)) : ErrIs (W.putObj D o) v x := by
  cases x with
  | nil => exact h
  | code n => exact h
  | «at» k i n =>
    obtain ⟨b, e, hc⟩ := h
    refine ⟨b, e, (World.putObj_heap_other (fun e => ?_)).trans hc⟩
    subst e
    rw [show W.heap[b]? = _ from hc] at hD
    cases hD

set_option maxRecDepth 100000 in
set_option maxHeartbeats 4000000 in
theorem ends_main (A : HA) (h : HierD) (w : World) (see : HSee w A h) (f : Fits h) (hx0 : firstsErr h.upF h.up.length = .nil) (hx1 : firstsErr h.dnF h.dn.length = .nil) (hx2 : orderErr h.node = .nil) : Calls Tryz.prog 60 #[hierVal A h] w (EndsPost h w) := by
  have h1 := f.n
  have F := Lib.hid f
  have hd : decide (65536 < h.node.length) = false := by simpa using h1
  have hd2 : decide (1048576 < wrap64 ((h.up.length : Int) + (h.dn.length : Int))) = false := by simpa using f.s
  have g1 : ((h.upF.length : Int) != (h.node.length : Int) + 1) = false := by simp; have := f.u; omega
  have g2 : ((h.dnF.length : Int) != (h.node.length : Int) + 1) = false := by simp; have := f.d; omega
  have SEE := Lib.hid see
  have HX0 := Lib.hid hx0
  have HX1 := Lib.hid hx1
  have HX2 := Lib.hid hx2
  clear see f hx0 hx1 hx2
  unfold hierVal
  refine (callsIn_wide (n := 8)).1 ?_
  refine callsIn_of_wp_marks Tryz.func60 rfl trivial ?_ rfl
  simp only [Tryz.ntmps60, List.size_toArray, List.length_cons, List.length_nil, Nat.reduceAdd, Nat.reduceSub, Array.replicate_succ, Array.replicate_zero, List.push_toArray, List.append_toArray, List.nil_append, List.cons_append]
  gi_wp2_with fail
  refine ⟨trivial, ?_⟩
  refine (callsIn_wide.2 (firsts_any h.upF A.a1 A.c1 h.up.length _ (SEE.out.upF.alloc _) SEE.out.bu (by have := F.out.u; omega) (by have := F.out.u; omega))).mono ?_
  rintro e w1 ⟨v, rfl, hv, hb⟩
  obtain rfl := hv.nilv HX0.out
  have hcs := (Cells.new w 25 (hierCells A h)).below hb (by simp)
  have c3 : w1.cell? ⟨w.heap.size, 3, none⟩ = some (.slice A.a3 h.dnF.length A.c3) := hcs.cell rfl
  have c4 : w1.cell? ⟨w.heap.size, 4, none⟩ = some (.slice A.a4 h.dn.length A.c4) := hcs.cell rfl
  have HCS := Lib.hid hcs
  have HB := Lib.hid (((Below.refl w.heap.size w).alloc (Nat.le_refl _) _).trans (hb.mono (by simp)))
  have hsz := hcs.lt
  clear hv hb hcs
  gi_wp2_with fail
  refine ⟨trivial, ?_⟩
  refine (callsIn_wide.2 (firsts_any h.dnF A.a3 A.c3 h.dn.length _ (SEE.out.dnF.below HB.out) SEE.out.bd (by have := F.out.d; omega) (by have := F.out.d; omega))).mono ?_
  rintro e w2 ⟨v, rfl, hv, hb⟩
  obtain rfl := hv.nilv HX1.out
  have hcs2 := HCS.out.below hb hsz
  have c0 : w2.cell? ⟨w.heap.size, 0, none⟩ = some (.slice A.a0 h.node.length A.c0) := hcs2.cell rfl
  have HCS2 := Lib.hid hcs2
  have HB2 := Lib.hid (HB.out.trans (hb.mono HB.out.size))
  have hsz2 := hcs2.lt
  clear hv hb hcs2 c3 c4
  gi_wp2_with fail
  refine ⟨trivial, ?_⟩
  refine (callsIn_wide.2 (order_any h.node A.a0 A.c0 _ (SEE.out.node.below HB2.out) SEE.out.bn (by omega))).mono ?_
  rintro e w3 ⟨v, rfl, hv, hb⟩
  obtain rfl := hv.nilv HX2.out
  have hcs3 := HCS2.out.below hb hsz2
  have HB3 := Lib.hid (HB2.out.trans (hb.mono HB2.out.size))
  have hsz3 := hcs3.lt
  have d0 : w3.cell? ⟨w.heap.size, 0, none⟩ = some (.slice A.a0 h.node.length A.c0) := hcs3.cell rfl
  have d1 : w3.cell? ⟨w.heap.size, 1, none⟩ = some (.slice A.a1 h.upF.length A.c1) := hcs3.cell rfl
  have d2 : w3.cell? ⟨w.heap.size, 2, none⟩ = some (.slice A.a2 h.up.length A.c2) := hcs3.cell rfl
  have d3 : w3.cell? ⟨w.heap.size, 3, none⟩ = some (.slice A.a3 h.dnF.length A.c3) := hcs3.cell rfl
  have d4 : w3.cell? ⟨w.heap.size, 4, none⟩ = some (.slice A.a4 h.dn.length A.c4) := hcs3.cell rfl
  have HCS3 := Lib.hid hcs3
  clear hv hb hcs3 c0
  gi_wp2_with fail
  refine ⟨trivial, ?_⟩
  refine (callsIn_wide.2 (links_any A h _)).mono ?_
  rintro e w4 ⟨rfl, hw4⟩
  subst hw4
  gi_wp2_with fail
  have bA := (Boxed.new w3 119 (.slice none 0 0)).alloc (.cells (hierCells A h).toArray 25)
  have bH := Cells.new (w3.alloc (.cells #[.slice none 0 0] 119)) 25 (hierCells A h)
  have hB0 : Below w.heap.size w ((w3.alloc (.cells #[.slice none 0 0] 119)).alloc (.cells (hierCells A h).toArray 25)) := (HB3.out.alloc HB3.out.size _).alloc (by have := HB3.out.size; simp; omega) _
  have hs0 : ((w3.alloc (.cells #[.slice none 0 0] 119)).alloc (.cells (hierCells A h).toArray 25)).heap.size = w3.heap.size + 2 := by simp
  have hcs5 := (HCS3.out.alloc (.cells #[.slice none 0 0] 119)).alloc (.cells (hierCells A h).toArray 25)
  rw [World.size_alloc] at bH
  obtain ⟨W0, hW0⟩ : ∃ W0, (w3.alloc (.cells #[.slice none 0 0] 119)).alloc (.cells (hierCells A h).toArray 25) = W0 := ⟨_, rfl⟩
  rw [hW0] at bA bH hB0 hs0 hcs5 ⊢
  clear hW0 d0 d1 d2 d3 d4 HCS3
  have hw3 := HB3.out.size
  have hu := firsts_nil F.out.u HX0.out
  have hdn := firsts_nil F.out.d HX1.out
  have htot := F.out.total SEE.out hu hdn
  have hel := endsOf_length hu hdn
  have HU := Lib.hid hu
  have HD := Lib.hid hdn
  have HEL := Lib.hid hel
  have HBH := Lib.hid bH
  have HC5 := Lib.hid hcs5
  obtain ⟨i0, hi, hz0, hz1, hz2⟩ := info_parts Tryz.infoEnd
  clear hu hdn hel hcs5
  refine rangeFunc_boxed (n := 8) rfl (by omega) (gf := 101) (lb := #[.pointer (some ⟨w3.heap.size + 1, 0, none⟩)]) rfl trivial (enters_of Tryz.func101 (by kernel_rfl) rfl)
    (encs := fun x : Nat × EndD => #[.int .i64 (x.1 : Int), endVal x.2]) (Kp := KpH w.heap.size (w3.heap.size + 1)) (S := fun ys => ys.map Prod.snd = endsOf h) (Sp := fun _ => True) (N := (endsOf h).length) (w0 := W0)
    (fun l J Jx W hW hJ _ hY hj0 => links1_in 7 (by omega) l (w3.heap.size + 1) h A w W J Jx hJ hY (HBH.out.below hW (by omega)) SEE.out (hB0.trans (hW.mono (by omega))) HU.out HD.out h1 htot hj0)
    KpH.trans (kpH_b (by omega) (by omega)) (Below.refl _ _) (fun _ => rfl)
    (fun pre W => Held w.heap.size w3.heap.size pre W ∧ (Below w.heap.size w W ∧ W.heap[w3.heap.size + 1]? = some (.cells (hierCells A h).toArray 25 (0, 0)) ∧ W.heap[w.heap.size]? = some (.cells (hierCells A h).toArray 25 (0, 0))))
    (OwnFrom.and (Own.from (held_own _ _) _) (OwnFrom.and (ownFrom_below (Nat.le_refl _) (by omega)) (OwnFrom.and (ownFrom_block (by omega)) (ownFrom_block (by omega)))))
    ⟨⟨_, bA, World.ownsRow_nil _ _ _ _, none, 0, rfl⟩, hB0, HBH.out, HC5.out⟩ 10 162 (fun x => endCells x.2) ?assign ?body ?done
  case assign =>
    rintro l pre x W K ⟨⟨v, hv, hrow, hvv⟩, hB, hH, hG⟩ hK
    have hlt : w3.heap.size + 1 < W.heap.size := (Array.getElem?_eq_some_iff.1 hH).1
    unfold endVal
    gi_wp2
    exact hK _ _ ((KeepsOthers.alloc _ _).from _) ⟨(Below.refl _ W).alloc hB.size _, Below.heap_alloc W _ _ hlt⟩ ⟨⟨v, hv.alloc _, hrow.alloc _, hvv⟩, hB.alloc hB.size _, (Below.heap_alloc W _ _ hlt).trans hH, (Below.heap_alloc W _ _ (by omega)).trans hG⟩ ⟨W.heap.size, by omega, Cells.new W 162 (endCells x.2), (by unfold RoundAct endVal; simp)⟩
  case body =>
    rintro l pre x Bx W ⟨⟨v, hv, hrow, ao, cap, rfl⟩, hB, hH, hG⟩ hBx hc hlt
    rw [HEL.out] at hlt
    have q0 := hv.cell
    have e0 : W.cell? ⟨Bx, 0, none⟩ = some (.int .u32 x.2.link.to) := hc.cell rfl
    have e1 : W.cell? ⟨Bx, 1, none⟩ = some (.int .u64 x.2.link.wt) := hc.cell rfl
    have e2 : W.cell? ⟨Bx, 2, none⟩ = some (.int .u32 x.2.link.left) := hc.cell rfl
    have e3 : W.cell? ⟨Bx, 3, none⟩ = some (.int .u32 x.2.link.right) := hc.cell rfl
    have e4 : W.cell? ⟨Bx, 4, none⟩ = some (.int .i64 x.2.tail) := hc.cell rfl
    have e5 : W.cell? ⟨Bx, 5, none⟩ = some (.int .i64 x.2.head) := hc.cell rfl
    have e6 : W.cell? ⟨Bx, 6, none⟩ = some (.int .i64 x.2.rank) := hc.cell rfl
    unfold RoundAct endVal
    gi_wp2_with (gi_at_builtin; refine wpListIn_append_own _ rfl _ _ 119 rfl w.heap.size 162 i0 (.agg #[.int .u32 0, .int .u64 0, .int .u32 0, .int .u32 0, .int .i64 0, .int .i64 0, .int .i64 0]) 7 48 Tryz.underlying119 hi hz0 hz1 hz2 rfl (by decide) _ _ _ rfl (hrow.alloc _) ⟨W.heap.size, 0, none⟩ 1 1 (endCells x.2) rfl rfl (cells_new W _ _) (by intro u hu; simp [endCells] at hu; rcases hu with rfl | rfl | rfl | rfl | rfl | rfl | rfl <;> rfl) (by unfold maxLen; omega) (by omega) (by have := hB.size; simp; omega) ?_; intro v' w1 hown' hgrow _; obtain ⟨g', cap', rfl⟩ := ownsRow_succ hown'; obtain ⟨hv1, hv2, hr2, hk2, hb2⟩ := hv.appended (by decide) hrow hB.size (by omega) hown' hgrow; have hc1 := hv1.cell; have hf1 := hv1.frozen)
    have hkeep : ∀ k c t m, W.heap[k]? = some (.cells c t m) → t ≠ 162 → k ≠ w3.heap.size → (w1.setCell ⟨w3.heap.size, 0, none⟩ (.slice (some ⟨g', 0, none⟩) (pre.length + 1) cap')).heap[k]? = W.heap[k]? := by
      intro k c t m hk ht hne
      have hkl := (Array.getElem?_eq_some_iff.1 hk).1
      refine (Below.heap_setCell _ _ _ k hne).trans ((hgrow.block k (by simp; omega) (row_ne hk ht hrow)).trans (Below.heap_alloc W _ _ hkl))
    refine ⟨hk2.from _, ⟨hb2, hkeep _ _ _ _ hH (by decide) (by omega)⟩, ⟨_, hv2, ?_, _, _, by rw [List.length_append]; rfl⟩, hB.trans hb2, (hkeep _ _ _ _ hH (by decide) (by omega)).trans hH, (hkeep _ _ _ _ hG (by decide) (by omega)).trans hG⟩
    rw [List.map_append, List.flatMap_append, List.length_append]
    simpa using hr2
  case done =>
    rintro D ys W hD hys ⟨⟨v, hv, hrow, ao, cap, rfl⟩, hB, hH, hG⟩ hK
    have hyl : ys.length = (endsOf h).length := by rw [← hys, List.length_map]
    rw [hys] at hrow
    rw [hyl] at hrow hv
    have q0 := hv.cell
    have RA := Lib.hid hrow
    have HW := Lib.hid hB
    have HDK := Lib.hid hK
    have HV := Lib.hid hv
    have HGC := Lib.hid hG
    have hDlt := (Array.getElem?_eq_some_iff.1 hK).1
    have hBx := hv.lt
    have hEO := Lib.hid (endsOf_ok SEE.out h1)
    clear hB hK hv hrow hH hG hys hyl
    gi_wp2_with fail
    gi_loopg [79] (endsOf h).length (fun g vi wr => ∃ k : Nat, vi = .int .i64 k ∧ k ≤ (endsOf h).length ∧ g = (endsOf h).length - k ∧ linksGo h.node.length h.up.length (endsOf h) k = .nil ∧ Below W.heap.size W wr)
    case atStart => exact ⟨0, rfl, Nat.zero_le _, rfl, rfl, Below.refl _ _⟩
    case round =>
      obtain ⟨k, rfl, hk, hg, hn, hbl⟩ := hrel
      have HN := Lib.hid hn
      have HBL := Lib.hid hbl
      have HG := Lib.hid hg
      have hzz := hbl.size
      have k0 : wr.cell? ⟨w.heap.size, 0, none⟩ = some (.slice A.a0 h.node.length A.c0) := ck hbl (Cells.cell (show Cells W _ _ _ from HGC.out) rfl)
      have k1 : wr.cell? ⟨w.heap.size, 1, none⟩ = some (.slice A.a1 h.upF.length A.c1) := ck hbl (Cells.cell (show Cells W _ _ _ from HGC.out) rfl)
      have k2 : wr.cell? ⟨w.heap.size, 2, none⟩ = some (.slice A.a2 h.up.length A.c2) := ck hbl (Cells.cell (show Cells W _ _ _ from HGC.out) rfl)
      have k3 : wr.cell? ⟨w.heap.size, 3, none⟩ = some (.slice A.a3 h.dnF.length A.c3) := ck hbl (Cells.cell (show Cells W _ _ _ from HGC.out) rfl)
      have k4 : wr.cell? ⟨w.heap.size, 4, none⟩ = some (.slice A.a4 h.dn.length A.c4) := ck hbl (Cells.cell (show Cells W _ _ _ from HGC.out) rfl)
      have k5 : wr.cell? ⟨w3.heap.size, 0, none⟩ = some (.slice ao (endsOf h).length cap) := ck hbl HV.out.cell
      clear hn hbl hg q0
      by_cases hlt : k < (endsOf h).length
      · have hkb : k < 1048576 := by have := HEL.out; omega
        gi_wp2_with fail
        refine ⟨trivial, ?_⟩
        have hsa := (See.of_own endCells_len (own_kept (bs := []) RA.out (Only.of_below HBL.out) (fun _ _ => by simp)) (by omega)).1
        refine (callsIn_wide.2 (shape_any h A (endsOf h) ao cap k wr hsa hEO.out (by rw [HEL.out]; exact htot) hlt (by rw [HEL.out]; omega))).mono ?_
        rintro e w5 ⟨rfl, hb5⟩
        have HB5 := Lib.hid (HBL.out.trans (hb5.mono hzz))
        have hz5 := HB5.out.size
        have k6 : w5.cell? ⟨w3.heap.size, 0, none⟩ = some (.slice ao (endsOf h).length cap) := ck HB5.out HV.out.cell
        have HSA := Lib.hid hsa
        clear hsa hb5 k0 k1 k2 k3 k4 k5
        cases hsh : shapeB h.node.length h.up.length (endsOf h) k with
        | false =>
          have HSH := Lib.hid hsh
          clear hsh
          gi_wp2_with fail
          refine ⟨trivial, ?_⟩
          refine (callsIn_wide.2 (at_any 4 k 14 _)).mono ?_
          rintro e w6 ⟨v, rfl, hv, hb6⟩
          have HB6 := HB5.out.trans (hb6.mono hz5)
          have hdk : w6.heap[D]? = some (.deferred (some [])) := (HB6.block D hDlt).trans HDK.out
          have HVE := Lib.hid hv
          clear hv hb6
          gi_wp2
          refine ⟨by simp, .inl ⟨_, _, rfl, run_takeDeferred hdk, ?_⟩⟩
          refine ⟨_, results_tmp2 rfl _ _ _, EndsPost.bad (x := .at 4 k 14) ?_ (by simp) (HVE.out.putObj _ hdk) ?_⟩
          · rw [F.out.err, HX0.out, HX1.out, HX2.out]
            exact linksGo_stop hlt HN.out (if_pos HSH.out) (by simp)
          · exact (HW.out.trans (HB6.mono HW.out.size)).trans (belowK_b (w := w) (Nat.le_refl _) w6 D _ _ (by omega) hdk rfl rfl)
        | true =>
          have hkids := shapeB_kids hsh
          have HSH := Lib.hid hsh
          have HKIDS := Lib.hid hkids
          clear hsh hkids
          gi_wp2_with fail
          refine ⟨trivial, ?_⟩
          have hsa := (See.of_own endCells_len (own_kept (bs := []) RA.out (Only.of_below HB5.out) (fun _ _ => by simp)) (by omega)).1
          refine (callsIn_wide.2 (weight_any (endsOf h) ao cap k _ hsa hEO.out (by rw [HEL.out]; exact htot) hlt HKIDS.out)).mono ?_
          rintro e w6 ⟨rfl, hb6⟩
          have HB6 := Lib.hid (HB5.out.trans (hb6.mono hz5))
          have hz6 := HB6.out.size
          clear hsa hb6
          cases hwt : weightB (endsOf h) k with
          | false =>
            have HWT := Lib.hid hwt
            clear hwt
            gi_wp2_with fail
            refine ⟨trivial, ?_⟩
            refine (callsIn_wide.2 (at_any 4 k 8 _)).mono ?_
            rintro e w7 ⟨v, rfl, hv, hb7⟩
            have HB7 := HB6.out.trans (hb7.mono hz6)
            have hdk : w7.heap[D]? = some (.deferred (some [])) := (HB7.block D hDlt).trans HDK.out
            have HVE := Lib.hid hv
            clear hv hb7
            gi_wp2
            refine ⟨by simp, .inl ⟨_, _, rfl, run_takeDeferred hdk, ?_⟩⟩
            refine ⟨_, results_tmp2 rfl _ _ _, EndsPost.bad (x := .at 4 k 8) ?_ (by simp) (HVE.out.putObj _ hdk) ?_⟩
            · rw [F.out.err, HX0.out, HX1.out, HX2.out]
              exact linksGo_stop hlt HN.out ((if_neg (by rw [HSH.out]; simp)).trans (if_pos HWT.out)) (by simp)
            · exact (HW.out.trans (HB7.mono HW.out.size)).trans (belowK_b (w := w) (Nat.le_refl _) w7 D _ _ (by omega) hdk rfl rfl)
          | true =>
            have HWT := Lib.hid hwt
            clear hwt
            gi_wp2_with fail
            gi_roundg ((endsOf h).length - (k + 1))
            case measure => have := HG.out; omega
            case rel =>
              refine ⟨k + 1, by go_num, by omega, rfl, ?_, HB6.out⟩
              unfold linksGo
              rw [HN.out]
              simp only
              rw [if_neg (by rw [HSH.out]; simp), if_neg (by rw [HWT.out]; simp)]
      · obtain rfl : k = (endsOf h).length := by omega
        have hdk : wr.heap[D]? = some (.deferred (some [])) := (HBL.out.block D hDlt).trans HDK.out
        gi_wp2
        refine ⟨by simp, .inl ⟨_, _, rfl, run_takeDeferred hdk, ?_⟩⟩
        have hro := ownsRow_putObj (own_kept (bs := []) RA.out (Only.of_below HBL.out) (fun _ _ => by simp)) (.deferred none) hdk rfl
        refine ⟨_, results_tmp2 rfl _ _ _, .inr ⟨ao, cap, rfl, ?_, (See.of_own endCells_len hro (by omega)).1, ?_⟩⟩
        · rw [F.out.err, HX0.out, HX1.out, HX2.out]
          exact HN.out
        · exact (HW.out.trans (HBL.out.mono HW.out.size)).trans (belowK_b (w := w) (Nat.le_refl _) wr D _ _ (by omega) hdk rfl rfl)

/-- **hier's ends: the list of the links, or the error.** -/
theorem ends_any (A : HA) (h : HierD) (w : World) (see : HSee w A h) : Calls Tryz.prog 60 #[hierVal A h] w (EndsPost h w) := by
  by_cases h1 : h.node.length ≤ 65536
  · by_cases h2 : wrap64 ((h.up.length : Int) + (h.dn.length : Int)) ≤ 1048576
    · by_cases h3 : h.upF.length = h.node.length + 1
      · by_cases h4 : h.dnF.length = h.node.length + 1
        · have f : Fits h := ⟨h1, h2, h3, h4⟩
          by_cases e1 : firstsErr h.upF h.up.length = .nil
          · by_cases e2 : firstsErr h.dnF h.dn.length = .nil
            · by_cases e3 : orderErr h.node = .nil
              · exact ends_main A h w see f e1 e2 e3
              · exact ends_order A h w see f e1 e2 e3
            · exact ends_first2 A h w see f e1 e2
          · exact ends_first1 A h w see f e1
        · exact ends_shape1 A h w h1 h2 (.inr h4)
      · exact ends_shape1 A h w h1 h2 (.inl h3)
    · exact ends_limit2 A h w h1 (by omega)
  · exact ends_limit1 A h w see (by omega)
end Go.Proofs.YtchhbgckonpedaaGreatDoor

/- The contracts of hier's Check and Ranks. -/
namespace Go.Proofs.YtchhbgckonpedaaGreatDoor
open Go.ChangeShapes Go.WideShapes Go.ChangeAt Go.RowKit Go.Joins Go.Deep

/-! ### a list that has each number once -/
theorem pigeon (n : Nat) : ∀ l : List Nat, l.Nodup → (∀ x ∈ l, x < n) → l.length ≤ n := by
  induction n with
  | zero =>
    intro l _ h
    cases l with
    | nil => simp
    | cons a l => exact absurd (h a (by simp)) (by omega)
  | succ n ih =>
    intro l hn h
    by_cases hm : n ∈ l
    · have h1 := List.length_erase_of_mem hm
      have h2 := ih (l.erase n) (hn.erase n) (fun x hx => by
        have h3 := h x (List.mem_of_mem_erase hx)
        have h4 : x ≠ n := fun e => by subst e; exact hn.not_mem_erase hx
        omega)
      omega
    · have h2 := ih l hn (fun x hx => by
        have h3 := h x hx
        have h4 : x ≠ n := fun e => by subst e; exact hm hx
        omega)
      omega
structure OrderOk (l : List Nat) : Prop where
  nodup : l.Nodup
  lt : ∀ x ∈ l, x < l.length
  mem : ∀ v, v < l.length → v ∈ l
theorem orderGo_nil {l : List Nat} : ∀ k, k ≤ l.length → orderGo l k = .nil → (l.take k).Nodup ∧ ∀ x ∈ l.take k, x < l.length := by
  intro k
  induction k with
  | zero => intro _ _; simp
  | succ k ih =>
    intro hk h
    unfold orderGo at h
    split at h
    · rename_i h0
      obtain ⟨h1, h2⟩ := ih (by omega) h0
      split at h
      · cases h
      · rename_i h3
        have hx : l[k]? = some l[k] := List.getElem?_eq_getElem (by omega)
        rw [List.getD_eq_getElem?_getD, hx] at h3
        simp only [Option.getD_some, not_or] at h3
        rw [List.take_add_one, hx]
        simp only [Option.toList_some]
        refine ⟨List.nodup_append.2 ⟨h1, by simp, fun a ha b hb => ?_⟩, fun x hxm => ?_⟩
        · simp only [List.mem_singleton] at hb
          subst hb
          intro e
          subst e
          exact h3.2 ha
        · rw [List.mem_append, List.mem_singleton] at hxm
          rcases hxm with hxm | rfl
          · exact h2 x hxm
          · omega
    · rename_i e he; exact absurd h he
theorem order_nil {l : List Nat} (h : orderErr l = .nil) : OrderOk l := by
  obtain ⟨h1, h2⟩ := orderGo_nil l.length (Nat.le_refl _) h
  rw [List.take_length] at h1 h2
  refine ⟨h1, h2, fun v hv => ?_⟩
  apply Classical.byContradiction
  intro hm
  have := pigeon l.length (v :: l) (List.nodup_cons.2 ⟨hm, h1⟩) (fun x hx => by
    rw [List.mem_cons] at hx
    rcases hx with rfl | hx
    · exact hv
    · exact h2 x hx)
  simp only [List.length_cons] at this
  omega
theorem idxOf_getElem {l : List Nat} (h : l.Nodup) {k x : Nat} (hx : l[k]? = some x) : l.idxOf x = k := by
  obtain ⟨hk, rfl⟩ := List.getElem?_eq_some_iff.1 hx
  exact h.idxOf_getElem k hk
def rankPart (l : List Nat) (k : Nat) : List Value := (List.range l.length).map fun v => .int .i64 ((if v ∈ l.take k then l.idxOf v else 0 : Nat) : Int)
def rankCells (l : List Nat) : List Value := (List.range l.length).map fun v => .int .i64 (l.idxOf v : Int)
theorem rankPart_zero (l : List Nat) : rankPart l 0 = marksOf [] l.length := by simp [rankPart, marksOf]
theorem rankPart_full {l : List Nat} (ok : OrderOk l) : rankPart l l.length = rankCells l := by
  unfold rankPart rankCells
  apply List.map_congr_left
  intro v hv
  rw [List.take_length, if_pos (ok.mem v (List.mem_range.1 hv))]
theorem rankPart_set {l : List Nat} (ok : OrderOk l) {k x : Nat} (hx : l[k]? = some x) : (rankPart l k).set x (.int .i64 (k : Int)) = rankPart l (k + 1) := by
  have hlt := ok.lt x (List.mem_of_getElem? hx)
  have hi := idxOf_getElem ok.nodup hx
  apply List.ext_getElem?
  intro j
  rw [List.getElem?_set]
  simp only [rankPart, List.getElem?_map, List.length_map, List.length_range]
  by_cases hj : x = j
  · subst hj
    rw [if_pos rfl, if_pos hlt, List.getElem?_range hlt]
    simp only [Option.map_some, List.take_add_one, hx, Option.toList_some, List.mem_append, List.mem_singleton, or_true, if_true, hi]
  · rw [if_neg hj]
    rcases Nat.lt_or_ge j l.length with h1 | h1
    · rw [List.getElem?_range h1]
      have : ¬ j = x := fun e => hj e.symm
      simp only [Option.map_some, List.take_add_one, hx, Option.toList_some, List.mem_append, List.mem_singleton, this, or_false]
    · rw [List.getElem?_eq_none (by simpa using h1)]; rfl

theorem checkErr_parts {h : HierD} (hc : checkErr h = .nil) : Fits h ∧ firstsErr h.upF h.up.length = .nil ∧ firstsErr h.dnF h.dn.length = .nil ∧ orderErr h.node = .nil ∧ linksGo h.node.length h.up.length (endsOf h) (endsOf h).length = .nil := by
  have hc' := hc
  unfold checkErr at hc
  split at hc
  · cases hc
  rename_i h1
  split at hc
  · cases hc
  rename_i h2
  have f : Fits h := ⟨by omega, by omega, by omega, by omega⟩
  rw [f.err] at hc'
  split at hc'
  · rename_i e1
    split at hc'
    · rename_i e2
      split at hc'
      · rename_i e3
        exact ⟨f, e1, e2, e3, hc'⟩
      · rename_i e he; exact absurd hc' he
    · rename_i e he; exact absurd hc' he
  · rename_i e he; exact absurd hc' he

set_option maxRecDepth 100000 in
theorem hcheck_any (A : HA) (h : HierD) (w : World) (see : HSee w A h) : Calls Tryz.prog 36 #[hierVal A h] w (ErrPost (checkErr h) w) := by
  have SEE := Lib.hid see
  clear see
  unfold hierVal
  go_enter Tryz.func36, Tryz.ntmps36
  go_wp2_with fail
  refine (ends_any A h _ (SEE.out.below ((Below.refl _ _).alloc (Nat.le_refl _) _))).mono ?_
  rintro e w1 (⟨v, rfl, hv, -, hb⟩ | ⟨ao, cap, rfl, hc, -, hb⟩)
  · have HV := Lib.hid hv
    have HB := Lib.hid (((Below.refl w.heap.size w).alloc (Nat.le_refl _) _).trans (hb.mono (by simp)))
    clear hv hb
    go_wp2
    go_returns
    exact ⟨_, rfl, HV.out, HB.out⟩
  · have HC := Lib.hid hc
    have HB := Lib.hid (((Below.refl w.heap.size w).alloc (Nat.le_refl _) _).trans (hb.mono (by simp)))
    clear hc hb
    go_wp2
    go_returns
    exact ⟨_, rfl, by rw [HC.out]; rfl, HB.out⟩

def RanksPost (h : HierD) (w : World) (e : Ending) (w' : World) : Prop :=
  (∃ v, e = .returned (.tuple #[.slice none 0 0, v]) ∧ ErrIs w' v (checkErr h) ∧ checkErr h ≠ .nil ∧ Below w.heap.size w w') ∨
  (∃ b, e = .returned (.tuple #[.slice (some ⟨b, 0, none⟩) h.node.length h.node.length, .nilIface]) ∧ checkErr h = .nil ∧ w.heap.size ≤ b ∧ Cells w' b 3 (rankCells h.node) ∧ Below w.heap.size w w')

set_option maxRecDepth 100000 in
theorem ranks_any (A : HA) (h : HierD) (w : World) (see : HSee w A h) : Calls Tryz.prog 45 #[hierVal A h] w (RanksPost h w) := by
  have SEE := Lib.hid see
  clear see
  unfold hierVal
  go_enter Tryz.func45, Tryz.ntmps45
  go_wp2_with fail
  refine (hcheck_any A h _ (SEE.out.below ((Below.refl _ _).alloc (Nat.le_refl _) _))).mono ?_
  rintro e w1 ⟨v, rfl, hv, hb⟩
  have hB := ((Below.refl w.heap.size w).alloc (Nat.le_refl _) _).trans (hb.mono (by simp))
  by_cases hc : checkErr h = .nil
  · obtain rfl := hv.nilv hc
    have hcs := (Cells.new w 25 (hierCells A h)).below hb (by simp)
    have c0 : w1.cell? ⟨w.heap.size, 0, none⟩ = some (.slice A.a0 h.node.length A.c0) := hcs.cell rfl
    obtain ⟨f, -, -, ho, -⟩ := checkErr_parts hc
    have hnl := f.n
    have ok := order_nil ho
    have hmk := run_make_n (P := Tryz.prog) 28 3 (.int .i64 0) 1 8 Tryz.underlying28 Tryz.infoInt .i64 .i64 h.node.length (by omega) (by omega)
    rw [marks_made, ← rankPart_zero] at hmk
    have OK := Lib.hid ok
    have HB := Lib.hid hB
    have HC := Lib.hid hc
    have lb0 := hcs.lt
    clear hv hb hcs ho ok hB hc f
    go_wp2_with fail
    go_loopg [20] h.node.length (fun g vi wr => ∃ k : Nat, vi = .int .i64 k ∧ k ≤ h.node.length ∧ g = h.node.length - k ∧ Cells wr w1.heap.size 3 (rankPart h.node k) ∧ Below w1.heap.size w1 wr)
    case atStart => exact ⟨0, rfl, Nat.zero_le _, rfl, Cells.new w1 3 (rankPart h.node 0), (Below.refl _ _).alloc (Nat.le_refl _) _⟩
    case round =>
      obtain ⟨k, rfl, hk, hg, hcs, hbl⟩ := hrel
      have HBL := Lib.hid hbl
      have HG := Lib.hid hg
      have HCS := Lib.hid hcs
      have hsz := hcs.lt
      clear hbl hg hcs
      by_cases hkl : k < h.node.length
      · obtain ⟨x, hx⟩ : ∃ x, h.node[k]? = some x := ⟨_, List.getElem?_eq_getElem (by omega)⟩
        obtain ⟨b, o, ea, cc⟩ := ((SEE.out.below HB.out).below HBL.out).node.cell k x hx
        have e0 := cc 0 _ rfl
        rw [Nat.mul_one, Nat.add_zero] at e0
        have lb := block_lt e0
        have hx32 : x < 4294967296 := SEE.out.bn x (List.mem_of_getElem? hx)
        have hxl : x < h.node.length := OK.out.lt x (List.mem_of_getElem? hx)
        have hf := HCS.out.frozen x
        have hm : wr.cell? ⟨w1.heap.size, x, none⟩ = some (.int .i64 ((if x ∈ h.node.take k then h.node.idxOf x else 0 : Nat) : Int)) := HCS.out.cell (by simp [rankPart, hxl])
        have EA := Lib.hid ea
        have HX := Lib.hid hx
        have HM2 := Lib.hid (HCS.out.set x (.int .i64 (k : Int)))
        clear hx cc ea
        generalize ((if x ∈ h.node.take k then h.node.idxOf x else 0 : Nat) : Int) = old at hm
        rw [EA.out]
        go_wp2_with fail
        rw [← EA.out]
        go_roundg (h.node.length - (k + 1))
        case measure => rw [HG.out]; omega
        case rel =>
          refine ⟨k + 1, by go_num, by omega, rfl, ?_, HBL.out.setCell (p := ⟨w1.heap.size, x, none⟩) (Nat.le_refl _) _⟩
          rw [← rankPart_set OK.out HX.out]
          exact HM2.out
      · obtain rfl : k = h.node.length := by omega
        go_wp2
        go_returns
        refine .inr ⟨w1.heap.size, rfl, HC.out, HB.out.size, ?_, HB.out.trans (HBL.out.mono HB.out.size)⟩
        rw [← rankPart_full OK.out]
        exact HCS.out
  · obtain ⟨t, u, rfl⟩ := hv.iface hc
    have HV := Lib.hid hv
    have HB := Lib.hid hB
    have HC := Lib.hid hc
    clear hv hb hB hc
    go_wp2
    go_returns
    exact .inl ⟨_, rfl, HV.out, HC.out, HB.out⟩
end Go.Proofs.YtchhbgckonpedaaGreatDoor

/- Where two searches meet, as data; a hierarchy in form has sides in form. No program here. -/
namespace Go.Proofs.YtchhbgckonpedaaGreatDoor

/-! ### a hierarchy in form -/
theorem linksGo_nil {n ups : Nat} {all : List EndD} {m : Nat} (h : linksGo n ups all m = .nil) : ∀ k, k < m → shapeB n ups all k = true ∧ weightB all k = true := by
  induction m with
  | zero => intro k hk; omega
  | succ m ih =>
    intro k hk
    unfold linksGo at h
    split at h
    · rename_i h0
      rcases Nat.lt_or_ge k m with h1 | h1
      · exact ih h0 k h1
      · obtain rfl : k = m := by omega
        split at h
        · cases h
        · rename_i h2
          split at h
          · cases h
          · rename_i h3
            exact ⟨by simpa using h2, by simpa using h3⟩
    · rename_i e he; exact absurd h he
theorem end_facts {n ups : Nat} {all : List EndD} (h : linksGo n ups all all.length = .nil) : ∀ x ∈ all, x.rank < x.link.to ∧ x.link.to < n ∧ x.link.wt ≤ 140737488355328 := by
  intro x hx
  obtain ⟨k, hk, rfl⟩ := List.mem_iff_getElem.1 hx
  obtain ⟨hs, hw⟩ := linksGo_nil h k hk
  have hg : all.getD k default = all[k] := by rw [List.getD_eq_getElem?_getD, List.getElem?_eq_getElem hk]; rfl
  rw [shapeB_eq n ups all k _ _ hg rfl] at hs
  split at hs
  · cases hs
  rename_i h1
  refine ⟨by omega, by omega, ?_⟩
  unfold weightB at hw
  simp only [hg] at hw
  split at hw
  · have := of_decide_eq_true hw; omega
  · exact (of_decide_eq_true hw).1
def upSide (h : HierD) : SideD := ⟨h.node.length, h.upF, h.up, h.dnF, h.dn⟩
def dnSide (h : HierD) : SideD := ⟨h.node.length, h.dnF, h.dn, h.upF, h.up⟩
theorem half_up {h : HierD} (hc : checkErr h = .nil) : HalfOk h.node.length h.upF h.up := by
  obtain ⟨f, e1, -, -, e4⟩ := checkErr_parts hc
  have u := firsts_nil f.u e1
  refine ⟨u.len, u.mono, fun r hr => u.le r hr, fun r hr l hl => ?_⟩
  have := end_facts e4 ⟨l, r, l.to, r⟩ (by
    unfold endsOf
    rw [List.mem_append, List.mem_flatMap]
    exact .inl ⟨r, List.mem_range.2 hr, by simp only [endsUp, List.mem_map]; exact ⟨l, hl, rfl⟩⟩)
  exact this
theorem half_dn {h : HierD} (hc : checkErr h = .nil) : HalfOk h.node.length h.dnF h.dn := by
  obtain ⟨f, -, e2, -, e4⟩ := checkErr_parts hc
  have u := firsts_nil f.d e2
  refine ⟨u.len, u.mono, fun r hr => u.le r hr, fun r hr l hl => ?_⟩
  have := end_facts e4 ⟨l, l.to, r, r⟩ (by
    unfold endsOf
    rw [List.mem_append, List.mem_flatMap, List.mem_flatMap]
    exact .inr ⟨r, List.mem_range.2 hr, by simp only [endsDn, List.mem_map]; exact ⟨l, hl, rfl⟩⟩)
  exact this
theorem side_up {h : HierD} (hc : checkErr h = .nil) : SideOk (upSide h) := ⟨(checkErr_parts hc).1.n, half_up hc, half_dn hc⟩
theorem side_dn {h : HierD} (hc : checkErr h = .nil) : SideOk (dnSide h) := ⟨(checkErr_parts hc).1.n, half_dn hc, half_up hc⟩
theorem IsD.bnd {n : Nat} {first : List Nat} {links : List LinkD} {s : Nat} {D : Nat → Option Int} (ok : HalfOk n first links) (h : IsD n first links s D) : ∀ r e, D r = some e → 0 ≤ e ∧ e ≤ r * 140737488355328 := by
  intro r
  induction r using Nat.strongRecOn with
  | _ r ih =>
    intro e he
    by_cases hr : r = s
    · subst hr
      rw [h.src] at he
      simp at he
      subst he
      exact ⟨by omega, by omega⟩
    · obtain ⟨x, d, l, hx, hd, hl, hto, rfl⟩ := h.bwd r e hr he
      obtain ⟨h1, h2, h3⟩ := ok.up x hx l hl
      rw [hto] at h1
      obtain ⟨h4, h5⟩ := ih x h1 d hd
      refine ⟨by omega, ?_⟩
      have : (x : Int) * 140737488355328 + 140737488355328 ≤ r * 140737488355328 := by omega
      omega

/-! ### where two searches meet -/
/-- Of the ranks below k the first one of least sum, and the sum. -/
def meetTo (D E : Nat → Option Int) : Nat → Nat × Int
  | 0 => (0, 18446744073709551615)
  | k + 1 => match D k, E k with
    | some x, some y => if x + y < (meetTo D E k).2 then (k, x + y) else meetTo D E k
    | _, _ => meetTo D E k
/-- What is seen from a rank on. -/
def seenFrom (n : Nat) (D : Nat → Option Int) (m : Nat) : List (Nat × Int) := (List.range' m (n - m)).filterMap fun r => (D r).map fun d => (r, d)
theorem seenFrom_zero (n : Nat) (D : Nat → Option Int) : seenFrom n D 0 = seenOf n D := by
  unfold seenFrom seenOf
  rw [Nat.sub_zero, List.range_eq_range']
theorem seenFrom_step (n : Nat) (D : Nat → Option Int) (m : Nat) (hm : m < n) : seenFrom n D m = (match D m with | some d => [(m, d)] | none => []) ++ seenFrom n D (m + 1) := by
  unfold seenFrom
  have e : n - m = (n - (m + 1)) + 1 := by omega
  rw [e, List.range'_succ, List.filterMap_cons]
  cases D m <;> rfl
theorem seenFrom_end (n : Nat) (D : Nat → Option Int) (m : Nat) (hm : n ≤ m) : seenFrom n D m = [] := by
  unfold seenFrom
  rw [show n - m = 0 by omega]
  rfl
theorem seenFrom_nil {n : Nat} {D : Nat → Option Int} : ∀ k m, n - m = k → seenFrom n D m = [] → ∀ r, m ≤ r → r < n → D r = none := by
  intro k
  induction k with
  | zero => intro m hk _ r h1 h2; omega
  | succ k ih =>
    intro m hk h r h1 h2
    rw [seenFrom_step n D m (by omega)] at h
    cases hD : D m with
    | some d => rw [hD] at h; cases h
    | none =>
      rw [hD] at h
      rcases Nat.eq_or_lt_of_le h1 with rfl | h3
      · exact hD
      · exact ih (m + 1) (by omega) h r h3 h2
theorem seenFrom_cons {n : Nat} {D : Nat → Option Int} {r : Nat} {d : Int} {t : List (Nat × Int)} : ∀ k m, n - m = k → seenFrom n D m = (r, d) :: t → m ≤ r ∧ r < n ∧ D r = some d ∧ t = seenFrom n D (r + 1) ∧ ∀ q, m ≤ q → q < r → D q = none := by
  intro k
  induction k with
  | zero =>
    intro m hk h
    rw [seenFrom_end n D m (by omega)] at h
    cases h
  | succ k ih =>
    intro m hk h
    rw [seenFrom_step n D m (by omega)] at h
    cases hD : D m with
    | some e =>
      rw [hD] at h
      simp only [List.cons_append, List.nil_append, List.cons.injEq, Prod.mk.injEq] at h
      obtain ⟨⟨rfl, rfl⟩, rfl⟩ := h
      exact ⟨Nat.le_refl _, by omega, hD, rfl, fun q h1 h2 => by omega⟩
    | none =>
      rw [hD] at h
      obtain ⟨h1, h2, h3, h4, h5⟩ := ih (m + 1) (by omega) h
      refine ⟨by omega, h2, h3, h4, fun q hq1 hq2 => ?_⟩
      rcases Nat.eq_or_lt_of_le hq1 with rfl | hq3
      · exact hD
      · exact h5 q hq3 hq2
theorem seenFrom_skip {n : Nat} {D : Nat → Option Int} {m : Nat} : ∀ k, m + k ≤ n → (∀ q, m ≤ q → q < m + k → D q = none) → seenFrom n D m = seenFrom n D (m + k) := by
  intro k
  induction k with
  | zero => intro _ _; rfl
  | succ k ih =>
    intro hk h
    rw [ih (by omega) (fun q h1 h2 => h q h1 (by omega)), seenFrom_step n D (m + k) (by omega), h (m + k) (by omega) (by omega)]
    rfl
/-- Ranks that only one side sees change nothing. -/
theorem meetTo_skip {D E : Nat → Option Int} {m : Nat} : ∀ k, (∀ q, m ≤ q → q < m + k → D q = none ∨ E q = none) → meetTo D E (m + k) = meetTo D E m := by
  intro k
  induction k with
  | zero => intro _; rfl
  | succ k ih =>
    intro h
    rw [← ih (fun q h1 h2 => h q h1 (by omega)), ← Nat.add_assoc]
    rcases h (m + k) (by omega) (by omega) with h1 | h1
    · conv => lhs; unfold meetTo
      rw [h1]
    · conv => lhs; unfold meetTo
      rw [h1]
      cases D (m + k) <;> rfl
theorem meetTo_swap (D E : Nat → Option Int) (k : Nat) : meetTo D E k = meetTo E D k := by
  induction k with
  | zero => rfl
  | succ k ih =>
    unfold meetTo
    rw [ih]
    cases D k <;> cases E k <;> simp only [Int.add_comm]
theorem meetTo_step {D E : Nat → Option Int} {k : Nat} {x y : Int} (hx : D k = some x) (hy : E k = some y) : meetTo D E (k + 1) = if x + y < (meetTo D E k).2 then (k, x + y) else meetTo D E k := by
  conv => lhs; unfold meetTo
  rw [hx, hy]
theorem meetTo_bnd {D E : Nat → Option Int} (hD : ∀ r d, D r = some d → 0 ≤ d) (hE : ∀ r d, E r = some d → 0 ≤ d) (k : Nat) : (meetTo D E k).1 ≤ k ∧ 0 ≤ (meetTo D E k).2 ∧ (meetTo D E k).2 ≤ 18446744073709551615 := by
  induction k with
  | zero => exact ⟨Nat.le_refl _, by show (0 : Int) ≤ 18446744073709551615; omega, by show (18446744073709551615 : Int) ≤ 18446744073709551615; omega⟩
  | succ k ih =>
    unfold meetTo
    split
    · rename_i x y hx hy
      have := hD k x hx
      have := hE k y hy
      split
      · exact ⟨by simp only; omega, by simp only; omega, by simp only; omega⟩
      · exact ⟨by omega, ih.2⟩
    · exact ⟨by omega, ih.2⟩
end Go.Proofs.YtchhbgckonpedaaGreatDoor

/- The contracts of climb's Up and Down, at a hierarchy in form. -/
namespace Go.Proofs.YtchhbgckonpedaaGreatDoor
open Go.ChangeShapes Go.WideShapes Go.ChangeAt Go.RowKit Go.Joins Go.Deep

set_option maxRecDepth 100000 in
theorem cup_any (A : HA) (h : HierD) (s : Nat) (w : World) (see : HSee w A h) (hc : checkErr h = .nil) (hs : s < h.node.length) :
    Calls Tryz.prog 68 #[hierVal A h, .int .i64 s] w (ClimbPost h.node.length h.upF h.up s w) := by
  have SEE := Lib.hid see
  have HC := Lib.hid hc
  have hs' : s < (upSide h).n := hs
  have hn := (checkErr_parts hc).1.n
  clear see hc
  unfold hierVal
  go_enter Tryz.func68, Tryz.ntmps68
  go_wp2_with fail
  refine (hcheck_any A h _ (SEE.out.below ((Below.refl _ _).alloc (Nat.le_refl _) _))).mono ?_
  rintro e w1 ⟨v, rfl, hv, hb⟩
  obtain rfl := hv.nilv HC.out
  have hcs := (Cells.new w 25 (hierCells A h)).below hb (by simp)
  have c0 : w1.cell? ⟨w.heap.size, 0, none⟩ = some (.slice A.a0 h.node.length A.c0) := hcs.cell rfl
  have c1 : w1.cell? ⟨w.heap.size, 1, none⟩ = some (.slice A.a1 h.upF.length A.c1) := hcs.cell rfl
  have c2 : w1.cell? ⟨w.heap.size, 2, none⟩ = some (.slice A.a2 h.up.length A.c2) := hcs.cell rfl
  have c3 : w1.cell? ⟨w.heap.size, 3, none⟩ = some (.slice A.a3 h.dnF.length A.c3) := hcs.cell rfl
  have c4 : w1.cell? ⟨w.heap.size, 4, none⟩ = some (.slice A.a4 h.dn.length A.c4) := hcs.cell rfl
  have HB := Lib.hid (((Below.refl w.heap.size w).alloc (Nat.le_refl _) _).trans (hb.mono (by simp)))
  have lb := hcs.lt
  clear hv hb hcs
  go_wp2_with fail
  have S1 := SEE.out.below HB.out
  refine (climb_any (upSide h) ⟨A.a1, A.a2, A.a3, A.a4, A.c1, A.c2, A.c3, A.c4⟩ s _ ⟨S1.upF, S1.up, S1.dnF, S1.dn, S1.bu, S1.bup, S1.bd, S1.bdn⟩ (side_up HC.out) hs').mono ?_
  rintro e w2 ⟨ao, cap, L, D, rfl, hown, hnew, hd, hm, hb2⟩
  have POST := Lib.hid (show ClimbPost h.node.length h.upF h.up s w (.returned (.tuple #[.slice ao L.length cap, .nilIface])) w2 from
    ⟨ao, cap, L, D, rfl, hown, (fun k hk => Nat.le_trans HB.out.size (hnew k hk)), hd, hm, HB.out.trans (hb2.mono HB.out.size)⟩)
  clear hown hnew hd hm hb2 S1
  go_wp2
  go_returns
  exact POST.out

set_option maxRecDepth 100000 in
theorem cdown_any (A : HA) (h : HierD) (s : Nat) (w : World) (see : HSee w A h) (hc : checkErr h = .nil) (hs : s < h.node.length) :
    Calls Tryz.prog 69 #[hierVal A h, .int .i64 s] w (ClimbPost h.node.length h.dnF h.dn s w) := by
  have SEE := Lib.hid see
  have HC := Lib.hid hc
  have hs' : s < (dnSide h).n := hs
  have hn := (checkErr_parts hc).1.n
  clear see hc
  unfold hierVal
  go_enter Tryz.func69, Tryz.ntmps69
  go_wp2_with fail
  refine (hcheck_any A h _ (SEE.out.below ((Below.refl _ _).alloc (Nat.le_refl _) _))).mono ?_
  rintro e w1 ⟨v, rfl, hv, hb⟩
  obtain rfl := hv.nilv HC.out
  have hcs := (Cells.new w 25 (hierCells A h)).below hb (by simp)
  have c0 : w1.cell? ⟨w.heap.size, 0, none⟩ = some (.slice A.a0 h.node.length A.c0) := hcs.cell rfl
  have c1 : w1.cell? ⟨w.heap.size, 1, none⟩ = some (.slice A.a1 h.upF.length A.c1) := hcs.cell rfl
  have c2 : w1.cell? ⟨w.heap.size, 2, none⟩ = some (.slice A.a2 h.up.length A.c2) := hcs.cell rfl
  have c3 : w1.cell? ⟨w.heap.size, 3, none⟩ = some (.slice A.a3 h.dnF.length A.c3) := hcs.cell rfl
  have c4 : w1.cell? ⟨w.heap.size, 4, none⟩ = some (.slice A.a4 h.dn.length A.c4) := hcs.cell rfl
  have HB := Lib.hid (((Below.refl w.heap.size w).alloc (Nat.le_refl _) _).trans (hb.mono (by simp)))
  have lb := hcs.lt
  clear hv hb hcs
  go_wp2_with fail
  have S1 := SEE.out.below HB.out
  refine (climb_any (dnSide h) ⟨A.a3, A.a4, A.a1, A.a2, A.c3, A.c4, A.c1, A.c2⟩ s _ ⟨S1.dnF, S1.dn, S1.upF, S1.up, S1.bd, S1.bdn, S1.bu, S1.bup⟩ (side_dn HC.out) hs').mono ?_
  rintro e w2 ⟨ao, cap, L, D, rfl, hown, hnew, hd, hm, hb2⟩
  have POST := Lib.hid (show ClimbPost h.node.length h.dnF h.dn s w (.returned (.tuple #[.slice ao L.length cap, .nilIface])) w2 from
    ⟨ao, cap, L, D, rfl, hown, (fun k hk => Nat.le_trans HB.out.size (hnew k hk)), hd, hm, HB.out.trans (hb2.mono HB.out.size)⟩)
  clear hown hnew hd hm hb2 S1
  go_wp2
  go_returns
  exact POST.out
end Go.Proofs.YtchhbgckonpedaaGreatDoor

/- The contract of query's meet. -/
namespace Go.Proofs.YtchhbgckonpedaaGreatDoor
open Go.ChangeShapes Go.WideShapes Go.ChangeAt Go.RowKit Go.Joins Go.Deep

/-- Results, the first of which lies in a block of its own. -/
theorem results_ct {P : Program} {fn : Func} {p u : Tmp} {ty : TypeId} (h : fn.results = #[.cell p ty, .tmp u]) (tmps : Array Value) (w : World) (g : Nat) (t : TypeId) (cs : List Value) (d : TypeDesc)
    (hp : tmps.getD p undef = .pointer (some ⟨g, 0, none⟩)) (hg : Cells w g t cs)
    (hu : P.underlying ty = some d) (hd : (match d with | .struct _ | .array _ _ => true | _ => false) = true) (hi : (P.info? ty).map (·.size) = some cs.length) :
    (results fn tmps).run P w = .ok (.tuple #[.agg cs.toArray, tmps.getD u undef]) w := by
  have hp' : tmps[p]?.getD undef = .pointer (some ⟨g, 0, none⟩) := by simpa using hp
  have hr := run_loadVar_row (P := P) w g t ty cs.toArray (0, 0) d hg hu hd (by simpa using hi)
  simp [results, h, hp', asAddr, hr]

def nodesErr (n : Nat) (s t : Int) : EV := if s < 0 ∨ (n : Int) ≤ s then .at 3 0 7 else if t < 0 ∨ (n : Int) ≤ t then .at 3 1 7 else .nil
/-- What meet answers. -/
inductive MeetIs (h : HierD) (s t : Int) : Nat → Int → EV → Prop
  | form (e : checkErr h ≠ .nil) : MeetIs h s t 0 0 (checkErr h)
  | nodes (e : checkErr h = .nil) (k : nodesErr h.node.length s t ≠ .nil) : MeetIs h s t 0 0 (nodesErr h.node.length s t)
  | walk (D E : Nat → Option Int) (r : Nat) (d : Int) (e : checkErr h = .nil) (k : nodesErr h.node.length s t = .nil) (hD : IsD h.node.length h.upF h.up (h.node.idxOf s.toNat) D) (hE : IsD h.node.length h.dnF h.dn (h.node.idxOf t.toNat) E)
      (hm : meetTo D E h.node.length = (r, d)) (hd : d ≠ 18446744073709551615) : MeetIs h s t r d .nil
  | none (D E : Nat → Option Int) (e : checkErr h = .nil) (k : nodesErr h.node.length s t = .nil) (hD : IsD h.node.length h.upF h.up (h.node.idxOf s.toNat) D) (hE : IsD h.node.length h.dnF h.dn (h.node.idxOf t.toNat) E)
      (hd : (meetTo D E h.node.length).2 = 18446744073709551615) : MeetIs h s t 0 0 (.code 16)
def bestVal (r : Nat) (d : Int) : Value := .agg #[.int .i64 r, .int .u64 d]
def MeetPost (h : HierD) (s t : Int) (w : World) (e : Ending) (w' : World) : Prop :=
  ∃ r d x v, e = .returned (.tuple #[bestVal r d, v]) ∧ ErrIs w' v x ∧ MeetIs h s t r d x ∧ Below w.heap.size w w'
theorem Tryz.sizeBest : (Tryz.prog.info? 116).map (·.size) = some 2 := by kernel_rfl

theorem ErrIs.set2 {w : World} {v : Value} {x : EV} {B : Nat} {l : List Value} {a b : Value} (h : ErrIs w v x) (hc : Cells w B 116 l) : ErrIs ((w.setCell ⟨B, 0, none⟩ a).setCell ⟨B, 1, none⟩ b) v x := by
  cases x with
  | nil => exact h
  | code n => exact h
  | «at» k i n =>
    obtain ⟨g, e, hg⟩ := h
    have hne : g ≠ B := by
      rintro rfl
      have := (show w.heap[g]? = _ from hg).symm.trans hc
      simp at this
    exact ⟨g, e, (hg.other (a := ⟨B, 0, none⟩) hne _).other (a := ⟨B, 1, none⟩) hne _⟩

set_option maxRecDepth 100000 in
theorem meet_form (A : HA) (h : HierD) (s t : Int) (w : World) (see : HSee w A h) (hc : checkErr h ≠ .nil) : Calls Tryz.prog 59 #[hierVal A h, .int .i64 s, .int .i64 t] w (MeetPost h s t w) := by
  have SEE := Lib.hid see
  have HC := Lib.hid hc
  clear see hc
  unfold hierVal
  go_enter Tryz.func59, Tryz.ntmps59
  go_wp2_with fail
  refine (ranks_any A h _ (SEE.out.below (((Below.refl _ _).alloc (Nat.le_refl _) _).alloc (by simp) _))).mono ?_
  rintro e w1 (⟨v, rfl, hv, -, hb⟩ | ⟨b, rfl, hc, -⟩)
  · obtain ⟨tt, u, rfl⟩ := hv.iface HC.out
    have hcs := (Cells.new (w.alloc (.cells (hierCells A h).toArray 25)) 116 [.int .i64 0, .int .u64 0]).below hb (by simp)
    rw [World.size_alloc] at hcs
    have c0 : w1.cell? ⟨w.heap.size + 1, 0, none⟩ = some (.int .i64 0) := hcs.cell rfl
    have c1 : w1.cell? ⟨w.heap.size + 1, 1, none⟩ = some (.int .u64 0) := hcs.cell rfl
    have f0 := hcs.frozen 0
    have f1 := hcs.frozen 1
    have lb := hcs.lt
    have HV := Lib.hid hv
    have HCS := Lib.hid hcs
    have HB := Lib.hid ((((Below.refl w.heap.size w).alloc (Nat.le_refl _) _).alloc (by simp) _).trans (hb.mono (by simp; omega)))
    clear hv hb hcs
    go_wp2_with fail
    refine bodyPost_ret (results_ct rfl _ _ (w.heap.size + 1) 116 [.int .i64 0, .int .u64 0] _ rfl ((HCS.out.set 0 _).set 1 _) Tryz.underlying116 rfl (by rw [Tryz.sizeBest]; rfl)) rfl ?_
    exact ⟨0, 0, _, _, rfl, HV.out.set2 HCS.out, .form HC.out, (HB.out.setCell (p := ⟨w.heap.size + 1, 0, none⟩) (by simp) _).setCell (p := ⟨w.heap.size + 1, 1, none⟩) (by simp) _⟩
  · exact absurd hc HC.out

set_option maxRecDepth 100000 in
theorem meet_nodes (A : HA) (h : HierD) (s t : Int) (w : World) (see : HSee w A h) (hc : checkErr h = .nil) (hk : nodesErr h.node.length s t ≠ .nil) (hs64 : s ≤ 9223372036854775807) (ht64 : t ≤ 9223372036854775807) : Calls Tryz.prog 59 #[hierVal A h, .int .i64 s, .int .i64 t] w (MeetPost h s t w) := by
  have SEE := Lib.hid see
  have HC := Lib.hid hc
  have hn := (checkErr_parts hc).1.n
  have HK := Lib.hid hk
  clear see hc hk
  unfold hierVal
  go_enter Tryz.func59, Tryz.ntmps59
  go_wp2_with fail
  refine (ranks_any A h _ (SEE.out.below (((Below.refl _ _).alloc (Nat.le_refl _) _).alloc (by simp) _))).mono ?_
  rintro e w1 (⟨v, rfl, hv, hcc, hb⟩ | ⟨b, rfl, -, hbb, hrk, hb⟩)
  · exact absurd HC.out hcc
  have hcs := (Cells.new (w.alloc (.cells (hierCells A h).toArray 25)) 116 [.int .i64 0, .int .u64 0]).below hb (by simp)
  rw [World.size_alloc] at hcs
  have lb := hcs.lt
  have HCS := Lib.hid hcs
  have HB := Lib.hid ((((Below.refl w.heap.size w).alloc (Nat.le_refl _) _).alloc (by simp) _).trans (hb.mono (by simp; omega)))
  clear hb hcs hrk hbb
  by_cases h0 : s < 0 ∨ (h.node.length : Int) ≤ s
  · have hans : nodesErr h.node.length s t = .at 3 0 7 := if_pos h0
    have HANS := Lib.hid hans
    clear hans
    have hd : (decide (s < 0) = true) ∨ (decide (s < 0) = false ∧ decide ((h.node.length : Int) ≤ s) = true) := by
      by_cases h1 : s < 0
      · exact .inl (by simpa using h1)
      · exact .inr ⟨by simpa using h1, by simp; omega⟩
    clear h0
    rcases hd with d1 | ⟨d1, d2⟩
    all_goals
      go_wp2_with fail
      go_loopg [30] 2 (fun g vi wr => vi = .int .i64 0 ∧ g = 2 ∧ wr = w1.alloc (.cells #[.int .i64 s, .int .i64 t] 3))
      case atStart => exact ⟨rfl, rfl, rfl⟩
      case round =>
        obtain ⟨rfl, hg, rfl⟩ := hrel
        go_wp2_with fail
        refine (at_any 3 0 7 _).mono ?_
        rintro e w2 ⟨v, rfl, hv, hb2⟩
        have hcs2 := (HCS.out.alloc (.cells #[.int .i64 s, .int .i64 t] 3)).below hb2 (by simp; omega)
        have c0 : w2.cell? ⟨w.heap.size + 1, 0, none⟩ = some (.int .i64 0) := hcs2.cell rfl
        have c1 : w2.cell? ⟨w.heap.size + 1, 1, none⟩ = some (.int .u64 0) := hcs2.cell rfl
        have f0 := hcs2.frozen 0
        have f1 := hcs2.frozen 1
        have lb2 := hcs2.lt
        have HCS2 := Lib.hid hcs2
        have HV := Lib.hid hv
        have HB2 := Lib.hid ((HB.out.alloc HB.out.size _).trans (hb2.mono (by have := HB.out.size; simp; omega)))
        clear hb2 hv hcs2
        go_wp2
        refine bodyPost_ret (results_ct rfl _ _ (w.heap.size + 1) 116 [.int .i64 0, .int .u64 0] _ rfl ((HCS2.out.set 0 _).set 1 _) Tryz.underlying116 rfl (by rw [Tryz.sizeBest]; rfl)) rfl ?_
        refine ⟨0, 0, nodesErr h.node.length s t, _, rfl, ?_, .nodes HC.out HK.out, (HB2.out.setCell (p := ⟨w.heap.size + 1, 0, none⟩) (by simp) _).setCell (p := ⟨w.heap.size + 1, 1, none⟩) (by simp) _⟩
        rw [HANS.out]
        exact HV.out.set2 HCS2.out
  · have e1 : decide (s < 0) = false := by simp; omega
    have e2 : decide ((h.node.length : Int) ≤ s) = false := by simp; omega
    have ht : t < 0 ∨ (h.node.length : Int) ≤ t := by
      have := HK.out
      unfold nodesErr at this
      rw [if_neg h0] at this
      apply Classical.byContradiction
      intro hnt
      rw [if_neg hnt] at this
      exact this rfl
    have hans : nodesErr h.node.length s t = .at 3 1 7 := (if_neg h0).trans (if_pos ht)
    have HANS := Lib.hid hans
    clear hans
    have hd : (decide (t < 0) = true) ∨ (decide (t < 0) = false ∧ decide ((h.node.length : Int) ≤ t) = true) := by
      by_cases h1 : t < 0
      · exact .inl (by simpa using h1)
      · exact .inr ⟨by simpa using h1, by simp; omega⟩
    clear h0 ht
    rcases hd with d1 | ⟨d1, d2⟩
    all_goals
      go_wp2_with fail
      go_loopg [30] 2 (fun g vi wr => ∃ k : Nat, vi = .int .i64 k ∧ k ≤ 1 ∧ g = 2 - k ∧ wr = w1.alloc (.cells #[.int .i64 s, .int .i64 t] 3))
      case atStart => exact ⟨0, rfl, by omega, rfl, rfl⟩
      case round =>
        obtain ⟨k, rfl, hk, hg, rfl⟩ := hrel
        rcases (by omega : k = 0 ∨ k = 1) with rfl | rfl
        · go_wp2_with fail
          go_roundg 1
          case measure => omega
          case rel => exact ⟨1, rfl, by omega, rfl, rfl⟩
        · go_wp2_with fail
          refine (at_any 3 1 7 _).mono ?_
          rintro e w2 ⟨v, rfl, hv, hb2⟩
          have hcs2 := (HCS.out.alloc (.cells #[.int .i64 s, .int .i64 t] 3)).below hb2 (by simp; omega)
          have c0 : w2.cell? ⟨w.heap.size + 1, 0, none⟩ = some (.int .i64 0) := hcs2.cell rfl
          have c1 : w2.cell? ⟨w.heap.size + 1, 1, none⟩ = some (.int .u64 0) := hcs2.cell rfl
          have f0 := hcs2.frozen 0
          have f1 := hcs2.frozen 1
          have lb2 := hcs2.lt
          have HCS2 := Lib.hid hcs2
          have HV := Lib.hid hv
          have HB2 := Lib.hid ((HB.out.alloc HB.out.size _).trans (hb2.mono (by have := HB.out.size; simp; omega)))
          clear hb2 hv hcs2
          go_wp2
          refine bodyPost_ret (results_ct rfl _ _ (w.heap.size + 1) 116 [.int .i64 0, .int .u64 0] _ rfl ((HCS2.out.set 0 _).set 1 _) Tryz.underlying116 rfl (by rw [Tryz.sizeBest]; rfl)) rfl ?_
          refine ⟨0, 0, nodesErr h.node.length s t, _, rfl, ?_, .nodes HC.out HK.out, (HB2.out.setCell (p := ⟨w.heap.size + 1, 0, none⟩) (by simp) _).setCell (p := ⟨w.heap.size + 1, 1, none⟩) (by simp) _⟩
          rw [HANS.out]
          exact HV.out.set2 HCS2.out
end Go.Proofs.YtchhbgckonpedaaGreatDoor

/- The contract of query's meet, where both nodes are there. -/
namespace Go.Proofs.YtchhbgckonpedaaGreatDoor
open Go.ChangeShapes Go.WideShapes Go.ChangeAt Go.RowKit Go.Joins Go.Deep

theorem Tryz.sizeSeen (w : World) : (sizeOf 155).run Tryz.prog w = .ok 3 w := by kernel_rfl
/-- The rest of a slice but its first element. -/
theorem run_tail {P : Program} (t e : TypeId) (sz : Nat) (ht : P.underlying t = some (.slice e)) (hs : ∀ w, (sizeOf e).run P w = .ok sz w) (ao : Option Addr) (n cap : Nat) (h1 : 1 ≤ n) (w : World) :
    (Instr.slice t (.slice ao n cap) (some (.int .i64 1)) none none).run P w = .ok (.slice (slBase ao 1 cap sz) (n - 1) (cap - 1)) w := by
  have he : P.elem t = e := by simp [Program.elem, ht]
  have h := run_slice_l (P := P) (w := w) t ao n cap (by rw [ht, he]) .i64 1 (by omega) (by omega)
  rw [h, he, hs]
  simp [Result.andThen, sliced, slBase]

theorem see_tail {α : Type} {w : World} {ao : Option Addr} {cap sz : Nat} {f : α → List Value} {x : α} {l : List α} (h : See w ao cap f sz (x :: l)) : See w (slBase ao 1 cap sz) (cap - 1) f sz l := by
  have := h.sub 1 (x :: l).length (Nat.le_refl _)
  rw [List.take_length] at this
  exact this
/-- The loop that merges two lists: so many ranks have been looked at. -/
structure MInv (n : Nat) (D E : Nat → Option Int) (m : Nat) (L M : List SeenD) (r : Nat) (d : Int) : Prop where
  le : m ≤ n
  up : L.map (fun x => (x.rank, x.dist)) = seenFrom n D m
  dn : M.map (fun x => (x.rank, x.dist)) = seenFrom n E m
  best : meetTo D E m = (r, d)
theorem MInv.done {n : Nat} {D E : Nat → Option Int} {m : Nat} {L M : List SeenD} {r : Nat} {d : Int} (h : MInv n D E m L M r d) (he : L = [] ∨ M = []) : meetTo D E n = (r, d) := by
  rw [← h.best, show n = m + (n - m) from by have := h.le; omega]
  apply meetTo_skip
  intro q h1 h2
  rcases he with rfl | rfl
  · exact .inl (seenFrom_nil _ m rfl h.up.symm q h1 (by have := h.le; omega))
  · exact .inr (seenFrom_nil _ m rfl h.dn.symm q h1 (by have := h.le; omega))
theorem MInv.same {n : Nat} {D E : Nat → Option Int} {m : Nat} {x y : SeenD} {L M : List SeenD} {r : Nat} {d : Int} (h : MInv n D E m (x :: L) (y :: M) r d) (hxy : x.rank = y.rank) :
    MInv n D E (x.rank + 1) L M (if x.dist + y.dist < d then x.rank else r) (if x.dist + y.dist < d then x.dist + y.dist else d) := by
  obtain ⟨h1, h2, h3, h4, h5⟩ := seenFrom_cons _ m rfl h.up.symm
  obtain ⟨k1, k2, k3, k4, k5⟩ := seenFrom_cons _ m rfl h.dn.symm
  refine ⟨h2, h4, by rw [hxy]; exact k4, ?_⟩
  rw [← hxy] at k3
  rw [meetTo_step h3 k3]
  have hs := meetTo_skip (D := D) (E := E) (m := m) (x.rank - m) (fun q q1 q2 => .inl (h5 q q1 (by omega)))
  rw [show m + (x.rank - m) = x.rank from by omega, h.best] at hs
  rw [hs]
  split <;> rfl
theorem MInv.left {n : Nat} {D E : Nat → Option Int} {m : Nat} {x y : SeenD} {L M : List SeenD} {r : Nat} {d : Int} (h : MInv n D E m (x :: L) (y :: M) r d) (hxy : x.rank < y.rank) : MInv n D E (x.rank + 1) L (y :: M) r d := by
  obtain ⟨h1, h2, h3, h4, h5⟩ := seenFrom_cons _ m rfl h.up.symm
  obtain ⟨k1, k2, k3, k4, k5⟩ := seenFrom_cons _ m rfl h.dn.symm
  refine ⟨h2, h4, ?_, ?_⟩
  · rw [h.dn, show x.rank + 1 = m + (x.rank + 1 - m) from by omega]
    exact seenFrom_skip _ (by omega) (fun q q1 q2 => k5 q q1 (by omega))
  · rw [← h.best, show x.rank + 1 = m + (x.rank + 1 - m) from by omega]
    exact meetTo_skip _ (fun q q1 q2 => .inr (k5 q q1 (by omega)))
theorem MInv.right {n : Nat} {D E : Nat → Option Int} {m : Nat} {x y : SeenD} {L M : List SeenD} {r : Nat} {d : Int} (h : MInv n D E m (x :: L) (y :: M) r d) (hxy : y.rank < x.rank) : MInv n D E (y.rank + 1) (x :: L) M r d := by
  obtain ⟨h1, h2, h3, h4, h5⟩ := seenFrom_cons _ m rfl h.up.symm
  obtain ⟨k1, k2, k3, k4, k5⟩ := seenFrom_cons _ m rfl h.dn.symm
  refine ⟨k2, ?_, k4, ?_⟩
  · rw [h.up, show y.rank + 1 = m + (y.rank + 1 - m) from by omega]
    exact seenFrom_skip _ (by omega) (fun q q1 q2 => h5 q q1 (by omega))
  · rw [← h.best, show y.rank + 1 = m + (y.rank + 1 - m) from by omega]
    exact meetTo_skip _ (fun q q1 q2 => .inl (h5 q q1 (by omega)))
/-- What the heads of the lists are. -/
theorem MInv.heads {n : Nat} {D E : Nat → Option Int} {m : Nat} {x y : SeenD} {L M : List SeenD} {r : Nat} {d : Int} (h : MInv n D E m (x :: L) (y :: M) r d) : x.rank < n ∧ y.rank < n ∧ D x.rank = some x.dist ∧ E y.rank = some y.dist := by
  obtain ⟨h1, h2, h3, h4, h5⟩ := seenFrom_cons _ m rfl h.up.symm
  obtain ⟨k1, k2, k3, k4, k5⟩ := seenFrom_cons _ m rfl h.dn.symm
  exact ⟨h2, k2, h3, k3⟩

set_option maxRecDepth 100000 in
set_option maxHeartbeats 4000000 in
theorem meet_walk (A : HA) (h : HierD) (s t : Nat) (w : World) (see : HSee w A h) (hc : checkErr h = .nil) (hs : s < h.node.length) (ht : t < h.node.length) : Calls Tryz.prog 59 #[hierVal A h, .int .i64 s, .int .i64 t] w (MeetPost h s t w) := by
  have SEE := Lib.hid see
  have HC := Lib.hid hc
  obtain ⟨f, -, -, ho, -⟩ := checkErr_parts hc
  have hn := f.n
  have ok := order_nil ho
  have hk : nodesErr h.node.length s t = .nil := by unfold nodesErr; rw [if_neg (by omega), if_neg (by omega)]
  have HK := Lib.hid hk
  have his : h.node.idxOf s < h.node.length := List.idxOf_lt_length_of_mem (ok.mem s hs)
  have hit : h.node.idxOf t < h.node.length := List.idxOf_lt_length_of_mem (ok.mem t ht)
  have e1 : decide (h.node.length ≤ s) = false := by simp; omega
  have e2 : decide (h.node.length ≤ t) = false := by simp; omega
  clear see hc hk f ho ok
  unfold hierVal
  go_enter Tryz.func59, Tryz.ntmps59
  go_wp2_with fail
  refine (ranks_any A h _ (SEE.out.below (((Below.refl _ _).alloc (Nat.le_refl _) _).alloc (by simp) _))).mono ?_
  rintro e w1 (⟨v, rfl, hv, hcc, hb⟩ | ⟨b, rfl, -, hbb, hrk, hb⟩)
  · exact absurd HC.out hcc
  have hcs0 := ((Cells.new w 25 (hierCells A h)).alloc (.cells #[.int .i64 0, .int .u64 0] 116)).below hb (by simp; omega)
  have hcs := (Cells.new (w.alloc (.cells (hierCells A h).toArray 25)) 116 [.int .i64 0, .int .u64 0]).below hb (by simp)
  rw [World.size_alloc] at hcs
  have lb := hcs.lt
  have HCS0 := Lib.hid hcs0
  have HCS := Lib.hid hcs
  have HRK := Lib.hid hrk
  have lbb := hrk.lt
  have HB := Lib.hid ((((Below.refl w.heap.size w).alloc (Nat.le_refl _) _).alloc (by simp) _).trans (hb.mono (by simp; omega)))
  clear hb hcs hcs0 hrk hbb
  go_wp2_with fail
  go_loopg [30] 2 (fun g vi wr => ∃ k : Nat, vi = .int .i64 k ∧ k ≤ 2 ∧ g = 2 - k ∧ wr = w1.alloc (.cells #[.int .i64 s, .int .i64 t] 3))
  case atStart => exact ⟨0, rfl, by omega, rfl, rfl⟩
  case round =>
    obtain ⟨k, rfl, hk, hg, rfl⟩ := hrel
    rcases (by omega : k = 0 ∨ k = 1 ∨ k = 2) with rfl | rfl | rfl
    · go_wp2_with fail
      go_roundg 1
      case measure => omega
      case rel => exact ⟨1, rfl, by omega, rfl, rfl⟩
    · go_wp2_with fail
      go_roundg 0
      case measure => omega
      case rel => exact ⟨2, rfl, by omega, rfl, rfl⟩
    · have HB1 := Lib.hid (HB.out.alloc HB.out.size (.cells #[.int .i64 s, .int .i64 t] 3))
      have HRK1 := Lib.hid (HRK.out.alloc (.cells #[.int .i64 s, .int .i64 t] 3))
      have HCS1 := Lib.hid (HCS.out.alloc (.cells #[.int .i64 s, .int .i64 t] 3))
      have HCS01 := Lib.hid (HCS0.out.alloc (.cells #[.int .i64 s, .int .i64 t] 3))
      have hz1 : w1.heap.size < (w1.alloc (.cells #[.int .i64 s, .int .i64 t] 3)).heap.size := by simp
      obtain ⟨wo, hwo⟩ : ∃ wo, w1.alloc (.cells #[.int .i64 s, .int .i64 t] 3) = wo := ⟨_, rfl⟩
      rw [hwo] at HB1 HRK1 HCS1 HCS01 hz1 ⊢
      clear hwo HB HRK HCS HCS0 hg hk
      have k0 : wo.cell? ⟨w.heap.size, 0, none⟩ = some (.slice A.a0 h.node.length A.c0) := HCS01.out.cell rfl
      have k1 : wo.cell? ⟨w.heap.size, 1, none⟩ = some (.slice A.a1 h.upF.length A.c1) := HCS01.out.cell rfl
      have k2 : wo.cell? ⟨w.heap.size, 2, none⟩ = some (.slice A.a2 h.up.length A.c2) := HCS01.out.cell rfl
      have k3 : wo.cell? ⟨w.heap.size, 3, none⟩ = some (.slice A.a3 h.dnF.length A.c3) := HCS01.out.cell rfl
      have k4 : wo.cell? ⟨w.heap.size, 4, none⟩ = some (.slice A.a4 h.dn.length A.c4) := HCS01.out.cell rfl
      have k5 : wo.cell? ⟨b, s, none⟩ = some (.int .i64 (h.node.idxOf s : Int)) := HRK1.out.cell (by simp [rankCells, hs])
      go_wp2_with fail
      go_region_held3 (fun W => W.cell? ⟨w.heap.size, 0, none⟩ = some (.slice A.a0 h.node.length A.c0) ∧ W.cell? ⟨w.heap.size, 1, none⟩ = some (.slice A.a1 h.upF.length A.c1) ∧ W.cell? ⟨w.heap.size, 2, none⟩ = some (.slice A.a2 h.up.length A.c2) ∧ W.cell? ⟨w.heap.size, 3, none⟩ = some (.slice A.a3 h.dnF.length A.c3) ∧ W.cell? ⟨w.heap.size, 4, none⟩ = some (.slice A.a4 h.dn.length A.c4) ∧ W.cell? ⟨b, s, none⟩ = some (.int .i64 (h.node.idxOf s : Int))) (go_keep)
        (first | (go_at_call 68; refine (cup_any A h (h.node.idxOf s) _ ((SEE.out.below HB1.out).below (Below.refl _ _).drew) HC.out his).mono ?_; rintro e w2 ⟨ao, cap, L, D, rfl, hown, hnew, hd, hm, hb2⟩; (have j0 := ck hb2 k0); (have j1 := ck hb2 k1); (have j2 := ck hb2 k2); (have j3 := ck hb2 k3); (have j4 := ck hb2 k4); (have j5 := ck hb2 k5)))
      have hB2 : Below wo.heap.size wo w2 := (Below.refl wo.heap.size wo).drew.trans hb2
      have HB2 := Lib.hid (HB1.out.trans (hB2.mono HB1.out.size))
      have HOWN := Lib.hid hown
      have HNEW := Lib.hid hnew
      have HD := Lib.hid hd
      have HM := Lib.hid hm
      have HRK2 := Lib.hid (HRK1.out.below hB2 (by omega))
      have HCS2 := Lib.hid (HCS1.out.below hB2 (by omega))
      have HCS02 := Lib.hid (HCS01.out.below hB2 (by omega))
      have hz2 := hB2.size
      have k6 : w2.cell? ⟨b, t, none⟩ = some (.int .i64 (h.node.idxOf t : Int)) := HRK2.out.cell (by simp [rankCells, ht])
      clear hown hnew hd hm hb2 hB2 k0 k1 k2 k3 k4 k5 j5
      go_wp2_with fail
      go_region_held3 (fun W => W.cell? ⟨w.heap.size, 0, none⟩ = some (.slice A.a0 h.node.length A.c0) ∧ W.cell? ⟨w.heap.size, 1, none⟩ = some (.slice A.a1 h.upF.length A.c1) ∧ W.cell? ⟨w.heap.size, 2, none⟩ = some (.slice A.a2 h.up.length A.c2) ∧ W.cell? ⟨w.heap.size, 3, none⟩ = some (.slice A.a3 h.dnF.length A.c3) ∧ W.cell? ⟨w.heap.size, 4, none⟩ = some (.slice A.a4 h.dn.length A.c4) ∧ W.cell? ⟨b, t, none⟩ = some (.int .i64 (h.node.idxOf t : Int))) (go_keep)
        (first | (go_at_call 69; refine (cdown_any A h (h.node.idxOf t) _ ((SEE.out.below HB2.out).below (Below.refl _ _).drew) HC.out hit).mono ?_; rintro e w3 ⟨ao2, cap2, M, E, rfl, hown2, hnew2, hd2, hm2, hb3⟩; (have i0 := ck hb3 j0); (have i1 := ck hb3 j1); (have i2 := ck hb3 j2); (have i3 := ck hb3 j3); (have i4 := ck hb3 j4); (have i5 := ck hb3 k6)))
      have hB3 : Below w2.heap.size w2 w3 := (Below.refl w2.heap.size w2).drew.trans hb3
      have HB3 := Lib.hid (HB2.out.trans (hB3.mono HB2.out.size))
      have hz3 := hB3.size
      have HCS3 := Lib.hid (HCS2.out.below hB3 (by omega))
      have hsL := (See.of_own seenCells_len (own_kept (bs := []) HOWN.out (Only.of_below hB3) (fun _ _ => by simp)) (by omega)).1
      have hsM := (See.of_own seenCells_len hown2 (by omega)).1
      have HSL := Lib.hid hsL
      have HSM := Lib.hid hsM
      have HE := Lib.hid hd2
      have HM2 := Lib.hid hm2
      clear hown2 hnew2 hd2 hm2 hb3 hB3 i0 i1 i2 i3 i4 i5 j0 j1 j2 j3 j4 k6 hsL hsM
      go_wp2_with fail
      go_loopg [12, 13] (L.length + M.length) (fun g vl vm wr => ∃ (a1 : Option Addr) (c1 l1 : Nat) (L1 : List SeenD) (a2 : Option Addr) (c2 l2 : Nat) (M1 : List SeenD) (m r : Nat) (d : Int), vl = .slice a1 l1 c1 ∧ vm = .slice a2 l2 c2 ∧ L1.length = l1 ∧ M1.length = l2 ∧ g = l1 + l2 ∧
        See w3 a1 c1 seenCells 3 L1 ∧ See w3 a2 c2 seenCells 3 M1 ∧ MInv h.node.length D E m L1 M1 r d ∧ Cells wr w3.heap.size 116 [.int .i64 r, .int .u64 d] ∧ Below w3.heap.size w3 wr)
      case atStart =>
        exact ⟨ao, cap, _, L, ao2, cap2, _, M, 0, 0, 18446744073709551615, rfl, rfl, rfl, rfl, rfl, HSL.out, HSM.out, ⟨Nat.zero_le _, by rw [HM.out, seenFrom_zero], by rw [HM2.out, seenFrom_zero], rfl⟩,
          Cells.new w3 116 [.int .i64 0, .int .u64 18446744073709551615], (Below.refl _ _).alloc (Nat.le_refl _) _⟩
      case round =>
        obtain ⟨a1, c1, l1, L1, a2, c2, l2, M1, m, r, d, rfl, rfl, hl1, hl2, hg, hs1, hs2, hmi, hcb, hbl⟩ := hrel
        have hbD := HD.out.bnd (half_up HC.out)
        have hbE := HE.out.bnd (half_dn HC.out)
        have hmb : 0 ≤ d ∧ d ≤ 18446744073709551615 ∧ r ≤ 65536 := by
          have h1 := meetTo_bnd (fun r d h => (hbD r d h).1) (fun r d h => (hbE r d h).1) m
          rw [hmi.best] at h1
          have := hmi.le
          exact ⟨h1.2.1, h1.2.2, by have := h1.1; simp only at this; omega⟩
        obtain ⟨hd0, hd1, hr0⟩ := hmb
        have q0 : wr.cell? ⟨w3.heap.size, 0, none⟩ = some (.int .i64 r) := hcb.cell rfl
        have q1 : wr.cell? ⟨w3.heap.size, 1, none⟩ = some (.int .u64 d) := hcb.cell rfl
        have f0 := hcb.frozen 0
        have f1 := hcb.frozen 1
        have lbq := hcb.lt
        have hbz := hbl.size
        have HG := Lib.hid hg
        have HS1 := Lib.hid hs1
        have HS2 := Lib.hid hs2
        have HMI := Lib.hid hmi
        have HCB := Lib.hid hcb
        have HBL := Lib.hid hbl
        have HBD := Lib.hid hbD
        have HBE := Lib.hid hbE
        have HL1 := Lib.hid hl1
        have HL2 := Lib.hid hl2
        clear hg hs1 hs2 hmi hcb hbl hbD hbE hl1 hl2
        by_cases hz : l1 = 0 ∨ l2 = 0
        · have hfin : meetTo D E h.node.length = (r, d) := HMI.out.done (by
            rcases hz with h0 | h0
            · exact .inl (List.eq_nil_of_length_eq_zero (HL1.out.trans h0))
            · exact .inr (List.eq_nil_of_length_eq_zero (HL2.out.trans h0)))
          have HFIN := Lib.hid hfin
          have hcs4 := HCS3.out.below HBL.out (by omega)
          have p0 : wr.cell? ⟨w.heap.size + 1, 0, none⟩ = some (.int .i64 0) := hcs4.cell rfl
          have p1 : wr.cell? ⟨w.heap.size + 1, 1, none⟩ = some (.int .u64 0) := hcs4.cell rfl
          have g0 := hcs4.frozen 0
          have g1 := hcs4.frozen 1
          have HCS4 := Lib.hid hcs4
          have lb4 := hcs4.lt
          have HB4 := Lib.hid (HB3.out.trans (HBL.out.mono HB3.out.size))
          have hz2 : decide (0 < l1) = false ∨ (decide (0 < l1) = true ∧ decide (0 < l2) = false) := by
            by_cases h0 : 0 < l1
            · exact .inr ⟨by simpa using h0, by simp; omega⟩
            · exact .inl (by simpa using h0)
          clear hfin hcs4 hz
          by_cases hu : d = 18446744073709551615
          · have hu2 : (d == 18446744073709551615) = true := by simpa using hu
            rcases hz2 with z1 | ⟨z1, z2⟩
            all_goals
              go_wp2
              refine bodyPost_ret (results_ct rfl _ _ (w.heap.size + 1) 116 [.int .i64 0, .int .u64 0] _ rfl ((HCS4.out.set 0 _).set 1 _) Tryz.underlying116 rfl (by rw [Tryz.sizeBest]; rfl)) rfl ?_
              exact ⟨0, 0, .code 16, _, rfl, rfl, .none D E HC.out HK.out HD.out HE.out (by rw [HFIN.out]; first | exact hu | rfl), (HB4.out.setCell (p := ⟨w.heap.size + 1, 0, none⟩) (by simp) _).setCell (p := ⟨w.heap.size + 1, 1, none⟩) (by simp) _⟩
          · have hu2 : (d == 18446744073709551615) = false := by simpa using hu
            rcases hz2 with z1 | ⟨z1, z2⟩
            all_goals
              go_wp2
              refine bodyPost_ret (results_ct rfl _ _ (w.heap.size + 1) 116 [.int .i64 r, .int .u64 d] _ rfl ((HCS4.out.set 0 _).set 1 _) Tryz.underlying116 rfl (by rw [Tryz.sizeBest]; rfl)) rfl ?_
              exact ⟨r, d, .nil, _, rfl, rfl, .walk D E r d HC.out HK.out HD.out HE.out HFIN.out hu, (HB4.out.setCell (p := ⟨w.heap.size + 1, 0, none⟩) (by simp) _).setCell (p := ⟨w.heap.size + 1, 1, none⟩) (by simp) _⟩
        · obtain ⟨z1, z2⟩ : 0 < l1 ∧ 0 < l2 := by omega
          have w1' : decide (0 < l1) = true := by simpa using z1
          have w2' : decide (0 < l2) = true := by simpa using z2
          cases L1 with
          | nil => exact absurd HL1.out (by simp; omega)
          | cons x L1 =>
          cases M1 with
          | nil => exact absurd HL2.out (by simp; omega)
          | cons y M1 =>
          obtain ⟨b1, o1, rfl, lb1, cc1⟩ := see_base HS1.out (by simp) seenCells_len (by omega)
          obtain ⟨b2, o2, rfl, lb2, cc2⟩ := see_base HS2.out (by simp) seenCells_len (by omega)
          have x0 := ck HBL.out (cc1 0 x rfl 0 _ rfl)
          have x1 := ck HBL.out (cc1 0 x rfl 1 _ rfl)
          have x2 := ck HBL.out (cc1 0 x rfl 2 _ rfl)
          have y0 := ck HBL.out (cc2 0 y rfl 0 _ rfl)
          have y1 := ck HBL.out (cc2 0 y rfl 1 _ rfl)
          have y2 := ck HBL.out (cc2 0 y rfl 2 _ rfl)
          simp only [Nat.zero_mul, Nat.add_zero] at x0 x1 x2 y0 y1 y2
          have htl1 := run_tail (P := Tryz.prog) 137 155 3 Tryz.underlying137 Tryz.sizeSeen (some ⟨b1, o1, none⟩) l1 c1 (by omega)
          have htl2 := run_tail (P := Tryz.prog) 137 155 3 Tryz.underlying137 Tryz.sizeSeen (some ⟨b2, o2, none⟩) l2 c2 (by omega)
          obtain ⟨hxr, hyr, hxd, hyd⟩ := HMI.out.heads
          obtain ⟨hx0, hx1⟩ := HBD.out _ _ hxd
          obtain ⟨hy0, hy1⟩ := HBE.out _ _ hyd
          have hx2 : x.dist ≤ 9223231299366420480 := by omega
          have hy2 : y.dist ≤ 9223231299366420480 := by omega
          have lw1 : b1 < wr.heap.size := by omega
          have lw2 : b2 < wr.heap.size := by omega
          clear cc1 cc2 hz hxd hyd hx1 hy1
          rcases Nat.lt_trichotomy x.rank y.rank with hxy | hxy | hxy
          · have t1 : ((x.rank : Int) == (y.rank : Int)) = false := by simp; omega
            have t2 : decide (x.rank ≤ y.rank) = true := by simp; omega
            have t3 : decide (y.rank ≤ x.rank) = false := by simp; omega
            have HI := Lib.hid (HMI.out.left hxy)
            clear hxy
            go_wp2_with fail
            go_region
            all_goals
              dsimp only [Exit.then]
              go_wp2_with fail
              go_roundg (l1 - 1 + l2)
              case measure => rw [HG.out]; omega
              case rel =>
                have hbb := HBL.out
                refine ⟨slBase (some ⟨b1, o1, none⟩) 1 c1 3, c1 - 1, l1 - 1, L1, _, _, _, (y :: M1), _, r, d, rfl, rfl, by have := HL1.out; simp at this; omega, HL2.out, rfl, see_tail HS1.out, HS2.out, HI.out, ?_, ?_⟩
                · exact ((HCB.out.alloc _).alloc _)
                · go_grown
          · have t1 : ((x.rank : Int) == (y.rank : Int)) = true := by simp; omega
            have t2 : decide (x.rank ≤ y.rank) = true := by simp; omega
            have t3 : decide (y.rank ≤ x.rank) = true := by simp; omega
            have hi := HMI.out.same hxy
            clear hxy
            by_cases hlt : x.dist + y.dist < d
            · have t4 : decide (x.dist + y.dist < d) = true := by simpa using hlt
              rw [if_pos hlt, if_pos hlt] at hi
              have HI := Lib.hid hi
              clear hi hlt
              go_wp2_with fail
              go_region
              all_goals
                dsimp only [Exit.then]
                go_wp2_with fail
                go_roundg (l1 - 1 + (l2 - 1))
                case measure => rw [HG.out]; omega
                case rel =>
                  have hbb := HBL.out
                  refine ⟨slBase (some ⟨b1, o1, none⟩) 1 c1 3, c1 - 1, l1 - 1, L1, slBase (some ⟨b2, o2, none⟩) 1 c2 3, c2 - 1, l2 - 1, M1, _, x.rank, (x.dist + y.dist), rfl, rfl, by have := HL1.out; simp at this; omega, by have := HL2.out; simp at this; omega, rfl, see_tail HS1.out, see_tail HS2.out, HI.out, ?_, ?_⟩
                  · exact (((HCB.out.set 0 _).set 1 _).alloc _).alloc _
                  · go_grown
            · have t4 : decide (x.dist + y.dist < d) = false := by simpa using hlt
              rw [if_neg hlt, if_neg hlt] at hi
              have HI := Lib.hid hi
              clear hi hlt
              go_wp2_with fail
              go_region
              all_goals
                dsimp only [Exit.then]
                go_wp2_with fail
                go_roundg (l1 - 1 + (l2 - 1))
                case measure => rw [HG.out]; omega
                case rel =>
                  have hbb := HBL.out
                  refine ⟨slBase (some ⟨b1, o1, none⟩) 1 c1 3, c1 - 1, l1 - 1, L1, slBase (some ⟨b2, o2, none⟩) 1 c2 3, c2 - 1, l2 - 1, M1, _, r, d, rfl, rfl, by have := HL1.out; simp at this; omega, by have := HL2.out; simp at this; omega, rfl, see_tail HS1.out, see_tail HS2.out, HI.out, ?_, ?_⟩
                  · exact ((HCB.out.alloc _).alloc _)
                  · go_grown
          · have t1 : ((x.rank : Int) == (y.rank : Int)) = false := by simp; omega
            have t2 : decide (x.rank ≤ y.rank) = false := by simp; omega
            have t3 : decide (y.rank ≤ x.rank) = true := by simp; omega
            have HI := Lib.hid (HMI.out.right hxy)
            clear hxy
            go_wp2_with fail
            go_region
            all_goals
              dsimp only [Exit.then]
              go_wp2_with fail
              go_roundg (l1 + (l2 - 1))
              case measure => rw [HG.out]; omega
              case rel =>
                have hbb := HBL.out
                refine ⟨_, _, _, (x :: L1), slBase (some ⟨b2, o2, none⟩) 1 c2 3, c2 - 1, l2 - 1, M1, _, r, d, rfl, rfl, HL1.out, by have := HL2.out; simp at this; omega, rfl, HS1.out, see_tail HS2.out, HI.out, ?_, ?_⟩
                · exact ((HCB.out.alloc _).alloc _)
                · go_grown
end Go.Proofs.YtchhbgckonpedaaGreatDoor

/- The contracts of query's Distance and Meet. -/
namespace Go.Proofs.YtchhbgckonpedaaGreatDoor
open Go.ChangeShapes Go.WideShapes Go.ChangeAt Go.RowKit Go.Joins Go.Deep

/-- **query's meet.** -/
theorem meet_any (A : HA) (h : HierD) (s t : Int) (w : World) (see : HSee w A h) (hs64 : s ≤ 9223372036854775807) (ht64 : t ≤ 9223372036854775807) : Calls Tryz.prog 59 #[hierVal A h, .int .i64 s, .int .i64 t] w (MeetPost h s t w) := by
  by_cases hc : checkErr h = .nil
  · by_cases hk : nodesErr h.node.length s t = .nil
    · have hr : (0 ≤ s ∧ s < h.node.length) ∧ 0 ≤ t ∧ t < h.node.length := by
        unfold nodesErr at hk
        split at hk
        · cases hk
        split at hk
        · cases hk
        omega
      obtain ⟨a, rfl⟩ : ∃ a : Nat, s = a := ⟨s.toNat, by omega⟩
      obtain ⟨b, rfl⟩ : ∃ b : Nat, t = b := ⟨t.toNat, by omega⟩
      exact meet_walk A h a b w see hc (by omega) (by omega)
    · exact meet_nodes A h s t w see hc hk hs64 ht64
  · exact meet_form A h s t w see hc

def DistPost (h : HierD) (s t : Int) (w : World) (e : Ending) (w' : World) : Prop :=
  ∃ r d x v, e = .returned (.tuple #[.int .u64 d, v]) ∧ ErrIs w' v x ∧ MeetIs h s t r d x ∧ Below w.heap.size w w'
def RankPost (h : HierD) (s t : Int) (w : World) (e : Ending) (w' : World) : Prop :=
  ∃ (r : Nat) (d : Int) (x : EV) (v : Value), e = .returned (.tuple #[.int .i64 (r : Int), v]) ∧ ErrIs w' v x ∧ MeetIs h s t r d x ∧ Below w.heap.size w w'

set_option maxRecDepth 100000 in
theorem distance_any (A : HA) (h : HierD) (s t : Int) (w : World) (see : HSee w A h) (hs64 : s ≤ 9223372036854775807) (ht64 : t ≤ 9223372036854775807) : Calls Tryz.prog 32 #[hierVal A h, .int .i64 s, .int .i64 t] w (DistPost h s t w) := by
  have SEE := Lib.hid see
  clear see
  unfold hierVal
  go_enter Tryz.func32, Tryz.ntmps32
  go_wp2_with fail
  refine (meet_any A h s t _ (SEE.out.below ((Below.refl _ _).alloc (Nat.le_refl _) _)) hs64 ht64).mono ?_
  rintro e w1 ⟨r, d, x, v, rfl, hv, hm, hb⟩
  unfold bestVal
  have HV := Lib.hid hv
  have HM := Lib.hid hm
  have HB := Lib.hid (((Below.refl w.heap.size w).alloc (Nat.le_refl _) _).trans (hb.mono (by simp)))
  clear hv hm hb
  go_wp2
  go_returns
  exact ⟨r, d, x, _, rfl, HV.out.alloc _, HM.out, HB.out.alloc HB.out.size _⟩

set_option maxRecDepth 100000 in
theorem qmeet_any (A : HA) (h : HierD) (s t : Int) (w : World) (see : HSee w A h) (hs64 : s ≤ 9223372036854775807) (ht64 : t ≤ 9223372036854775807) : Calls Tryz.prog 44 #[hierVal A h, .int .i64 s, .int .i64 t] w (RankPost h s t w) := by
  have SEE := Lib.hid see
  clear see
  unfold hierVal
  go_enter Tryz.func44, Tryz.ntmps44
  go_wp2_with fail
  refine (meet_any A h s t _ (SEE.out.below ((Below.refl _ _).alloc (Nat.le_refl _) _)) hs64 ht64).mono ?_
  rintro e w1 ⟨r, d, x, v, rfl, hv, hm, hb⟩
  unfold bestVal
  have HV := Lib.hid hv
  have HM := Lib.hid hm
  have HB := Lib.hid (((Below.refl w.heap.size w).alloc (Nat.le_refl _) _).trans (hb.mono (by simp)))
  clear hv hm hb
  go_wp2
  go_returns
  exact ⟨r, d, x, _, rfl, HV.out.alloc _, HM.out, HB.out.alloc HB.out.size _⟩
end Go.Proofs.YtchhbgckonpedaaGreatDoor
