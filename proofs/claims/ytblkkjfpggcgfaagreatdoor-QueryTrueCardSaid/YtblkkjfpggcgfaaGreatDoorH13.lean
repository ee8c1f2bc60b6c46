/- The contract of hier's ends. -/
import Derived.Test.YtblkkjfpggcgfaaGreatDoorH8
import Derived.Test.YtblkkjfpggcgfaaGreatDoorH12
namespace Go.Proofs.YtblkkjfpggcgfaaGreatDoor
open Go.ChangeShapes Go.WideShapes Go.ChangeAt Go.RowKit Go.Joins Go.Deep Go.Shelf
attribute [local go_sem] Oper.semAt_some
def RoundAct (a : Act) (ps : Array Tmp) (enc : Array Value) (slot : Nat) (p : Addr) : Act :=
  { tmps := ((ps.zip enc).foldl (fun t (q, v) => t.setIfInBounds q v) a.tmps).setIfInBounds slot (.pointer (some p)), defers := [] }
theorem rangeFunc_boxed {F : Fence} {n : Nat} {P : Program} {α : Type} {g : Operand} {ps : Array Tmp} {assign body : Code} {Q : Exit → Act → World → Prop} {a : Act} {w : World}
    (hro : F.round = none) (h1 : 1 ≤ n) {gf : Nat} {lb : Array Value} (hg : a.eval g = .func (.func gf) #[] lb) (hFg : F.fn gf) (eg : ∀ args w, (callFunc gf args).run P w = .ok (.enter gf args) w)
    {encs : α → Array Value} {Kp : World → World → Prop} {S Sp : List α → Prop} {N : Nat} {w0 : World} (hseq : SeqStopsK F (n - 1) P gf lb encs Kp S Sp N w0)
    (hKt : ∀ {A B C : World}, Kp A B → Kp B C → Kp A C) (hKb : ∀ (W : World) (l : Nat) (o o' : Obj), w.heap.size ≤ l → W.heap[l]? = some o → o.isCells = false → o.isWalk = false → Kp W (W.putObj l o')) (hb0 : Below w0.heap.size w0 w) (hps : ∀ x, (encs x).size = ps.size)
    (I : List α → World → Prop) (hI : OwnFrom w.heap.size I) (h0 : I [] w) (slot : Nat) (t : TypeId) (cs : α → List Value)
    (hassign : ∀ (l : Nat) (pre : List α) (x : α) (W : World) (K : Act → World → Prop), I pre W → (∀ a' W', KeepsFrom w.heap.size W W' → Kp W W' → I pre W' → (∃ Bx, w.heap.size ≤ Bx ∧ Cells W' Bx t (cs x) ∧ a' = RoundAct a ps (encs x) slot ⟨Bx, 0, none⟩) → K a' W') →
      assign.wpIn (F.inRound l) (n - 1 - 1) P (Exit.then K (fun _ _ _ => False)) { tmps := (ps.zip (encs x)).foldl (fun t (p, v) => t.setIfInBounds p v) a.tmps, defers := [] } W)
    (hbody : ∀ (l : Nat) (pre : List α) (x : α) (Bx : Nat) (W : World), I pre W → w.heap.size ≤ Bx → Cells W Bx t (cs x) → pre.length < N → body.wpIn (F.inRound l) (n - 1 - 1) P (ownPostG w.heap.size Kp I (fun _ _ _ => False) (pre ++ [x]) W) (RoundAct a ps (encs x) slot ⟨Bx, 0, none⟩) W)
    (hdone : ∀ (D : Nat) (xs : List α) (W : World), w.heap.size ≤ D → S xs → I xs W → W.heap[D]? = some (.deferred (some [])) → Q .normal { a with defers := { target := .collected D, args := #[] } :: a.defers } W) :
    (Code.rangeFunc g ps assign body).wpIn F n P Q a w :=
  wpIn_rangeFunc_ownH hro h1 hg hFg eg hseq hKt hKb hb0 hps I (fun _ _ _ => False) hI (fun _ _ _ _ _ hs _ _ => hs) h0
    (fun x a' W => ∃ Bx, w.heap.size ≤ Bx ∧ Cells W Bx t (cs x) ∧ a' = RoundAct a ps (encs x) slot ⟨Bx, 0, none⟩)
    (fun x a' _ X Y row hs hg' hr => by
      obtain ⟨Bx, hB, hc, ha⟩ := hs
      refine ⟨Bx, hB, (hg'.block Bx hc.lt (fun e => ?_)).trans hc, ha⟩
      obtain ⟨-, o, ho, hoc⟩ := hr Bx e.symm
      rw [show X.heap[Bx]? = _ from hc] at ho
      cases ho
      cases hoc)
    hassign (fun l pre x a' W _ _ hi ha hlt => by
      obtain ⟨Bx, hB, hc, rfl⟩ := ha
      exact hbody l pre x Bx W hi hB hc hlt)
    hdone (fun _ _ _ _ _ _ h _ => h.elim)
def Held (B₀ Bx : Nat) (pre : List (Nat × EndD)) (W : World) : Prop :=
  ∃ v, Boxed W Bx 58 v ∧ W.ownsRow B₀ 65 7 v pre.length ((pre.map Prod.snd).flatMap endCells) ∧ ∃ ao cap, v = .slice ao pre.length cap
theorem held_own (B₀ Bx : Nat) : Own (Held B₀ Bx) :=
  holdsRow_own B₀ Bx 58 65 7 (fun pre : List (Nat × EndD) => pre.length) (fun pre => (pre.map Prod.snd).flatMap endCells) (fun pre v => ∃ ao cap, v = .slice ao pre.length cap)
theorem Tryz.infoEnd : (Tryz.prog.info? 65).map (fun i => (i.zero, i.size, i.bytes)) = some (some (.agg #[.int .u32 0, .int .u64 0, .int .u32 0, .int .u32 0, .int .i64 0, .int .i64 0, .int .i64 0]), 7, 48) := by kernel_rfl
theorem row_ne {W : World} {B : Nat} {t e : TypeId} {c : Array Value} {m : Nat × Nat} (h : W.heap[B]? = some (.cells c t m)) (hte : t ≠ e) {base size k : Nat} {v : Value} {xs : List Value} (hr : W.ownsRow base e size v k xs) : some B ≠ v.ownBlock := by
  rcases hr.2 with ⟨rfl, _⟩ | ⟨g, cap, cur, rfl, _, hgb, _⟩
  · simp [Value.ownBlock]
  · intro e'
    obtain rfl : B = g := by simpa [Value.ownBlock] using e'
    have := h.symm.trans hgb
    simp at this
    exact hte this.2.1
theorem ownFrom_block {β : Type} {B Bh : Nat} {o : Obj} (hb : Bh < B) : OwnFrom B (fun (_ : β) W => W.heap[Bh]? = some o) :=
  fun _ X _ row hs hg hr => (hg.block Bh (Array.getElem?_eq_some_iff.1 hs).1 (fun e => by have := (hr Bh e.symm).1; omega)).trans hs
theorem Fits.total {w : World} {A : HA} {h : HierD} (f : Fits h) (see : HSee w A h) (u : FirstsOk h.node.length h.upF h.up.length) (d : FirstsOk h.node.length h.dnF h.dn.length) : h.up.length + h.dn.length ≤ 1048576 := by
  have key : ∀ (l : List Nat) (k : Nat), FirstsOk h.node.length l k → (∀ x ∈ l, x < 4294967296) → k < 4294967296 := by
    intro l k hk hl
    have hlt : h.node.length < l.length := by rw [hk.len]; omega
    have := hl _ (List.getElem_mem hlt)
    have hg := hk.last
    rw [List.getD_eq_getElem?_getD, List.getElem?_eq_getElem hlt] at hg
    simp only [Option.getD_some] at hg
    omega
  have h1 := key _ _ u see.bu
  have h2 := key _ _ d see.bd
  have h3 := f.s
  unfold wrap64 at h3
  omega
theorem linksGo_stop {n ups : Nat} {all : List EndD} {k m : Nat} {x : EV} (hk : k < m) (h0 : linksGo n ups all k = .nil) (hx : (if shapeB n ups all k = false then EV.at 4 k 14 else if weightB all k = false then .at 4 k 8 else .nil) = x) (hne : x ≠ .nil) : linksGo n ups all m = x := by
  obtain ⟨j, rfl⟩ : ∃ j, m = k + 1 + j := ⟨m - (k + 1), by omega⟩
  clear hk
  induction j with
  | zero => unfold linksGo; rw [h0]; exact hx
  | succ j ih =>
    rw [← Nat.add_assoc]
    unfold linksGo
    rw [ih]
    cases x <;> first | exact absurd rfl hne | rfl
theorem shapeB_kids {n ups : Nat} {all : List EndD} {i : Nat} (h : shapeB n ups all i = true) : (all.getD i default).link.plain = false → (all.getD i default).link.left < all.length ∧ (all.getD i default).link.right < all.length := by
  intro hp
  rw [shapeB_eq n ups all i _ _ rfl rfl] at h
  split at h
  · cases h
  split at h
  · cases h
  split at h
  · rename_i hq; rw [hp] at hq; cases hq
  split at h
  · cases h
  · omega
theorem endsOf_ok {w : World} {A : HA} {h : HierD} (see : HSee w A h) (hn : h.node.length ≤ 65536) : ∀ x ∈ endsOf h, x.ok := by
  intro x hx
  unfold endsOf at hx
  rw [List.mem_append, List.mem_flatMap, List.mem_flatMap] at hx
  rcases hx with ⟨r, hr, hx⟩ | ⟨r, hr, hx⟩
  · rw [List.mem_range] at hr
    simp only [endsUp, seg, List.mem_map] at hx
    obtain ⟨l, hl, rfl⟩ := hx
    have := see.bup l (List.mem_of_mem_take (List.mem_of_mem_drop hl))
    exact ⟨this, by simp only; omega, by simp only; exact this.1, by simp only; omega⟩
  · rw [List.mem_range] at hr
    simp only [endsDn, seg, List.mem_map] at hx
    obtain ⟨l, hl, rfl⟩ := hx
    have := see.bdn l (List.mem_of_mem_take (List.mem_of_mem_drop hl))
    exact ⟨this, by simp only; exact this.1, by simp only; omega, by simp only; omega⟩
theorem ErrIs.putObj {W : World} {v : Value} {x : EV} {D : Nat} {y : Option (List Deferred)} (o : Obj) (h : ErrIs W v x) (hD : W.heap[D]? = some (.deferred y)) : ErrIs (W.putObj D o) v x := by
  cases x with
  | nil => exact h
  | code n => exact h
  | «at» k i n =>
    obtain ⟨b, e, hc⟩ := h
    refine ⟨b, e, (World.putObj_heap_other (fun e => ?_)).trans hc⟩
    subst e
    rw [show W.heap[b]? = _ from hc] at hD
    cases hD
set_option maxRecDepth 100000 in
set_option maxHeartbeats 4000000 in
theorem ends_main (A : HA) (h : HierD) (w : World) (see : HSee w A h) (f : Fits h) (hx0 : firstsErr h.upF h.up.length = .nil) (hx1 : firstsErr h.dnF h.dn.length = .nil) (hx2 : orderErr h.node = .nil) : Calls Tryz.prog 16 #[hierVal A h] w (EndsPost h w) := by
  have h1 := f.n
  have F := Lib.hid f
  have hd : decide (65536 < h.node.length) = false := by simpa using h1
  have hd2 : decide (1048576 < wrap64 ((h.up.length : Int) + (h.dn.length : Int))) = false := by simpa using f.s
  have g1 : ((h.upF.length : Int) != (h.node.length : Int) + 1) = false := by simp; have := f.u; omega
  have g2 : ((h.dnF.length : Int) != (h.node.length : Int) + 1) = false := by simp; have := f.d; omega
  have SEE := Lib.hid see
  have HX0 := Lib.hid hx0
  have HX1 := Lib.hid hx1
  have HX2 := Lib.hid hx2
  clear see f hx0 hx1 hx2
  unfold hierVal
  refine (callsIn_wide (n := 8)).1 ?_
  refine callsIn_of_wp_marks Tryz.func16 rfl trivial ?_ rfl
  simp only [Tryz.ntmps16, List.size_toArray, List.length_cons, List.length_nil, Nat.reduceAdd, Nat.reduceSub, Array.replicate_succ, Array.replicate_zero, List.push_toArray, List.append_toArray, List.nil_append, List.cons_append]
  gi_wp2_with fail
  refine ⟨trivial, ?_⟩
  refine (callsIn_wide.2 (firsts_any h.upF A.a1 A.c1 h.up.length _ (SEE.out.upF.alloc _) SEE.out.bu (by have := F.out.u; omega) (by have := F.out.u; omega))).mono ?_
  rintro e w1 ⟨v, rfl, hv, hb⟩
  obtain rfl := hv.nilv HX0.out
  have hcs := (Cells.new w 25 (hierCells A h)).below hb (by simp)
  have c3 : w1.cell? ⟨w.heap.size, 3, none⟩ = some (.slice A.a3 h.dnF.length A.c3) := hcs.cell rfl
  have c4 : w1.cell? ⟨w.heap.size, 4, none⟩ = some (.slice A.a4 h.dn.length A.c4) := hcs.cell rfl
  have HCS := Lib.hid hcs
  have HB := Lib.hid (((Below.refl w.heap.size w).alloc (Nat.le_refl _) _).trans (hb.mono (by simp)))
  have hsz := hcs.lt
  clear hv hb hcs
  gi_wp2_with fail
  refine ⟨trivial, ?_⟩
  refine (callsIn_wide.2 (firsts_any h.dnF A.a3 A.c3 h.dn.length _ (SEE.out.dnF.below HB.out) SEE.out.bd (by have := F.out.d; omega) (by have := F.out.d; omega))).mono ?_
  rintro e w2 ⟨v, rfl, hv, hb⟩
  obtain rfl := hv.nilv HX1.out
  have hcs2 := HCS.out.below hb hsz
  have c0 : w2.cell? ⟨w.heap.size, 0, none⟩ = some (.slice A.a0 h.node.length A.c0) := hcs2.cell rfl
  have HCS2 := Lib.hid hcs2
  have HB2 := Lib.hid (HB.out.trans (hb.mono HB.out.size))
  have hsz2 := hcs2.lt
  clear hv hb hcs2 c3 c4
  gi_wp2_with fail
  refine ⟨trivial, ?_⟩
  refine (callsIn_wide.2 (order_any h.node A.a0 A.c0 _ (SEE.out.node.below HB2.out) SEE.out.bn (by omega))).mono ?_
  rintro e w3 ⟨v, rfl, hv, hb⟩
  obtain rfl := hv.nilv HX2.out
  have hcs3 := HCS2.out.below hb hsz2
  have HB3 := Lib.hid (HB2.out.trans (hb.mono HB2.out.size))
  have hsz3 := hcs3.lt
  have d0 : w3.cell? ⟨w.heap.size, 0, none⟩ = some (.slice A.a0 h.node.length A.c0) := hcs3.cell rfl
  have d1 : w3.cell? ⟨w.heap.size, 1, none⟩ = some (.slice A.a1 h.upF.length A.c1) := hcs3.cell rfl
  have d2 : w3.cell? ⟨w.heap.size, 2, none⟩ = some (.slice A.a2 h.up.length A.c2) := hcs3.cell rfl
  have d3 : w3.cell? ⟨w.heap.size, 3, none⟩ = some (.slice A.a3 h.dnF.length A.c3) := hcs3.cell rfl
  have d4 : w3.cell? ⟨w.heap.size, 4, none⟩ = some (.slice A.a4 h.dn.length A.c4) := hcs3.cell rfl
  have HCS3 := Lib.hid hcs3
  clear hv hb hcs3 c0
  gi_wp2_with fail
  refine ⟨trivial, ?_⟩
  refine (callsIn_wide.2 (links_any A h _)).mono ?_
  rintro e w4 ⟨rfl, hw4⟩
  subst hw4
  gi_wp2_with fail
  have bA := (Boxed.new w3 58 (.slice none 0 0)).alloc (.cells (hierCells A h).toArray 25)
  have bH := Cells.new (w3.alloc (.cells #[.slice none 0 0] 58)) 25 (hierCells A h)
  have hB0 : Below w.heap.size w ((w3.alloc (.cells #[.slice none 0 0] 58)).alloc (.cells (hierCells A h).toArray 25)) := (HB3.out.alloc HB3.out.size _).alloc (by have := HB3.out.size; simp; omega) _
  have hs0 : ((w3.alloc (.cells #[.slice none 0 0] 58)).alloc (.cells (hierCells A h).toArray 25)).heap.size = w3.heap.size + 2 := by simp
  have hcs5 := (HCS3.out.alloc (.cells #[.slice none 0 0] 58)).alloc (.cells (hierCells A h).toArray 25)
  rw [World.size_alloc] at bH
  obtain ⟨W0, hW0⟩ : ∃ W0, (w3.alloc (.cells #[.slice none 0 0] 58)).alloc (.cells (hierCells A h).toArray 25) = W0 := ⟨_, rfl⟩
  rw [hW0] at bA bH hB0 hs0 hcs5 ⊢
  clear hW0 d0 d1 d2 d3 d4 HCS3
  have hw3 := HB3.out.size
  have hu := firsts_nil F.out.u HX0.out
  have hdn := firsts_nil F.out.d HX1.out
  have htot := F.out.total SEE.out hu hdn
  have hel := endsOf_length hu hdn
  have HU := Lib.hid hu
  have HD := Lib.hid hdn
  have HEL := Lib.hid hel
  have HBH := Lib.hid bH
  have HC5 := Lib.hid hcs5
  obtain ⟨i0, hi, hz0, hz1, hz2⟩ := info_parts Tryz.infoEnd
  clear hu hdn hel hcs5
  refine rangeFunc_boxed (n := 8) rfl (by omega) (gf := 65) (lb := #[.pointer (some ⟨w3.heap.size + 1, 0, none⟩)]) rfl trivial (enters_of Tryz.func65 (by kernel_rfl) rfl)
    (encs := fun x : Nat × EndD => #[.int .i64 (x.1 : Int), endVal x.2]) (Kp := KpH w.heap.size (w3.heap.size + 1)) (S := fun ys => ys.map Prod.snd = endsOf h) (Sp := fun _ => True) (N := (endsOf h).length) (w0 := W0)
    (fun l J Jx W hW hJ _ hY hj0 => links1_in 7 (by omega) l (w3.heap.size + 1) h A w W J Jx hJ hY (HBH.out.below hW (by omega)) SEE.out (hB0.trans (hW.mono (by omega))) HU.out HD.out h1 htot hj0)
    KpH.trans (kpH_b (by omega) (by omega)) (Below.refl _ _) (fun _ => rfl)
    (fun pre W => Held w.heap.size w3.heap.size pre W ∧ (Below w.heap.size w W ∧ W.heap[w3.heap.size + 1]? = some (.cells (hierCells A h).toArray 25 (0, 0)) ∧ W.heap[w.heap.size]? = some (.cells (hierCells A h).toArray 25 (0, 0))))
    (OwnFrom.and (Own.from (held_own _ _) _) (OwnFrom.and (ownFrom_below (Nat.le_refl _) (by omega)) (OwnFrom.and (ownFrom_block (by omega)) (ownFrom_block (by omega)))))
    ⟨⟨_, bA, World.ownsRow_nil _ _ _ _, none, 0, rfl⟩, hB0, HBH.out, HC5.out⟩ 10 65 (fun x => endCells x.2) ?assign ?body ?done
  case assign =>
    rintro l pre x W K ⟨⟨v, hv, hrow, hvv⟩, hB, hH, hG⟩ hK
    have hlt : w3.heap.size + 1 < W.heap.size := (Array.getElem?_eq_some_iff.1 hH).1
    unfold endVal
    gi_wp2
    exact hK _ _ ((KeepsOthers.alloc _ _).from _) ⟨(Below.refl _ W).alloc hB.size _, Below.heap_alloc W _ _ hlt⟩ ⟨⟨v, hv.alloc _, hrow.alloc _, hvv⟩, hB.alloc hB.size _, (Below.heap_alloc W _ _ hlt).trans hH, (Below.heap_alloc W _ _ (by omega)).trans hG⟩ ⟨W.heap.size, by omega, Cells.new W 65 (endCells x.2), (by unfold RoundAct endVal; simp)⟩
  case body =>
    rintro l pre x Bx W ⟨⟨v, hv, hrow, ao, cap, rfl⟩, hB, hH, hG⟩ hBx hc hlt
    rw [HEL.out] at hlt
    have q0 := hv.cell
    have e0 : W.cell? ⟨Bx, 0, none⟩ = some (.int .u32 x.2.link.to) := hc.cell rfl
    have e1 : W.cell? ⟨Bx, 1, none⟩ = some (.int .u64 x.2.link.wt) := hc.cell rfl
    have e2 : W.cell? ⟨Bx, 2, none⟩ = some (.int .u32 x.2.link.left) := hc.cell rfl
    have e3 : W.cell? ⟨Bx, 3, none⟩ = some (.int .u32 x.2.link.right) := hc.cell rfl
    have e4 : W.cell? ⟨Bx, 4, none⟩ = some (.int .i64 x.2.tail) := hc.cell rfl
    have e5 : W.cell? ⟨Bx, 5, none⟩ = some (.int .i64 x.2.head) := hc.cell rfl
    have e6 : W.cell? ⟨Bx, 6, none⟩ = some (.int .i64 x.2.rank) := hc.cell rfl
    unfold RoundAct endVal
    gi_wp2_with (gi_at_builtin; refine wpListIn_append_own _ rfl _ _ 58 rfl w.heap.size 65 i0 (.agg #[.int .u32 0, .int .u64 0, .int .u32 0, .int .u32 0, .int .i64 0, .int .i64 0, .int .i64 0]) 7 48 Tryz.underlying58 hi hz0 hz1 hz2 rfl (by decide) _ _ _ rfl (hrow.alloc _) ⟨W.heap.size, 0, none⟩ 1 1 (endCells x.2) rfl rfl (cells_new W _ _) (by intro u hu; simp [endCells] at hu; rcases hu with rfl | rfl | rfl | rfl | rfl | rfl | rfl <;> rfl) (by unfold maxLen; omega) (by omega) (by have := hB.size; simp; omega) ?_; intro v' w1 hown' hgrow _; obtain ⟨g', cap', rfl⟩ := ownsRow_succ hown'; obtain ⟨hv1, hv2, hr2, hk2, hb2⟩ := hv.appended (by decide) hrow hB.size (by omega) hown' hgrow; have hc1 := hv1.cell; have hf1 := hv1.frozen)
    have hkeep : ∀ k c t m, W.heap[k]? = some (.cells c t m) → t ≠ 65 → k ≠ w3.heap.size → (w1.setCell ⟨w3.heap.size, 0, none⟩ (.slice (some ⟨g', 0, none⟩) (pre.length + 1) cap')).heap[k]? = W.heap[k]? := by
      intro k c t m hk ht hne
      have hkl := (Array.getElem?_eq_some_iff.1 hk).1
      refine (Below.heap_setCell _ _ _ k hne).trans ((hgrow.block k (by simp; omega) (row_ne hk ht hrow)).trans (Below.heap_alloc W _ _ hkl))
    refine ⟨hk2.from _, ⟨hb2, hkeep _ _ _ _ hH (by decide) (by omega)⟩, ⟨_, hv2, ?_, _, _, by rw [List.length_append]; rfl⟩, hB.trans hb2, (hkeep _ _ _ _ hH (by decide) (by omega)).trans hH, (hkeep _ _ _ _ hG (by decide) (by omega)).trans hG⟩
    rw [List.map_append, List.flatMap_append, List.length_append]
    simpa using hr2
  case done =>
    rintro D ys W hD hys ⟨⟨v, hv, hrow, ao, cap, rfl⟩, hB, hH, hG⟩ hK
    have hyl : ys.length = (endsOf h).length := by rw [← hys, List.length_map]
    rw [hys] at hrow
    rw [hyl] at hrow hv
    have q0 := hv.cell
    have RA := Lib.hid hrow
    have HW := Lib.hid hB
    have HDK := Lib.hid hK
    have HV := Lib.hid hv
    have HGC := Lib.hid hG
    have hDlt := (Array.getElem?_eq_some_iff.1 hK).1
    have hBx := hv.lt
    have hEO := Lib.hid (endsOf_ok SEE.out h1)
    clear hB hK hv hrow hH hG hys hyl
    gi_wp2_with fail
    gi_loopg [79] (endsOf h).length (fun g vi wr => ∃ k : Nat, vi = .int .i64 k ∧ k ≤ (endsOf h).length ∧ g = (endsOf h).length - k ∧ linksGo h.node.length h.up.length (endsOf h) k = .nil ∧ Below W.heap.size W wr)
    case atStart => exact ⟨0, rfl, Nat.zero_le _, rfl, rfl, Below.refl _ _⟩
    case round =>
      obtain ⟨k, rfl, hk, hg, hn, hbl⟩ := hrel
      have HN := Lib.hid hn
      have HBL := Lib.hid hbl
      have HG := Lib.hid hg
      have hzz := hbl.size
      have k0 : wr.cell? ⟨w.heap.size, 0, none⟩ = some (.slice A.a0 h.node.length A.c0) := ck hbl (Cells.cell (show Cells W _ _ _ from HGC.out) rfl)
      have k1 : wr.cell? ⟨w.heap.size, 1, none⟩ = some (.slice A.a1 h.upF.length A.c1) := ck hbl (Cells.cell (show Cells W _ _ _ from HGC.out) rfl)
      have k2 : wr.cell? ⟨w.heap.size, 2, none⟩ = some (.slice A.a2 h.up.length A.c2) := ck hbl (Cells.cell (show Cells W _ _ _ from HGC.out) rfl)
      have k3 : wr.cell? ⟨w.heap.size, 3, none⟩ = some (.slice A.a3 h.dnF.length A.c3) := ck hbl (Cells.cell (show Cells W _ _ _ from HGC.out) rfl)
      have k4 : wr.cell? ⟨w.heap.size, 4, none⟩ = some (.slice A.a4 h.dn.length A.c4) := ck hbl (Cells.cell (show Cells W _ _ _ from HGC.out) rfl)
      have k5 : wr.cell? ⟨w3.heap.size, 0, none⟩ = some (.slice ao (endsOf h).length cap) := ck hbl HV.out.cell
      clear hn hbl hg q0
      by_cases hlt : k < (endsOf h).length
      · have hkb : k < 1048576 := by have := HEL.out; omega
        gi_wp2_with fail
        refine ⟨trivial, ?_⟩
        have hsa := (See.of_own endCells_len (own_kept (bs := []) RA.out (Only.of_below HBL.out) (fun _ _ => by simp)) (by omega)).1
        refine (callsIn_wide.2 (shape_any h A (endsOf h) ao cap k wr hsa hEO.out (by rw [HEL.out]; exact htot) hlt (by rw [HEL.out]; omega))).mono ?_
        rintro e w5 ⟨rfl, hb5⟩
        have HB5 := Lib.hid (HBL.out.trans (hb5.mono hzz))
        have hz5 := HB5.out.size
        have k6 : w5.cell? ⟨w3.heap.size, 0, none⟩ = some (.slice ao (endsOf h).length cap) := ck HB5.out HV.out.cell
        have HSA := Lib.hid hsa
        clear hsa hb5 k0 k1 k2 k3 k4 k5
        cases hsh : shapeB h.node.length h.up.length (endsOf h) k with
        | false =>
          have HSH := Lib.hid hsh
          clear hsh
          gi_wp2_with fail
          refine ⟨trivial, ?_⟩
          refine (callsIn_wide.2 (at_any 4 k 14 _)).mono ?_
          rintro e w6 ⟨v, rfl, hv, hb6⟩
          have HB6 := HB5.out.trans (hb6.mono hz5)
          have hdk : w6.heap[D]? = some (.deferred (some [])) := (HB6.block D hDlt).trans HDK.out
          have HVE := Lib.hid hv
          clear hv hb6
          gi_wp2
          refine ⟨by simp, .inl ⟨_, _, rfl, run_takeDeferred hdk, ?_⟩⟩
          refine ⟨_, results_tmp2 rfl _ _ _, EndsPost.bad (x := .at 4 k 14) ?_ (by simp) (HVE.out.putObj _ hdk) ?_⟩
          · rw [F.out.err, HX0.out, HX1.out, HX2.out]
            exact linksGo_stop hlt HN.out (if_pos HSH.out) (by simp)
          · exact (HW.out.trans (HB6.mono HW.out.size)).trans (belowK_b (w := w) (Nat.le_refl _) w6 D _ _ (by omega) hdk rfl rfl)
        | true =>
          have hkids := shapeB_kids hsh
          have HSH := Lib.hid hsh
          have HKIDS := Lib.hid hkids
          clear hsh hkids
          gi_wp2_with fail
          refine ⟨trivial, ?_⟩
          have hsa := (See.of_own endCells_len (own_kept (bs := []) RA.out (Only.of_below HB5.out) (fun _ _ => by simp)) (by omega)).1
          refine (callsIn_wide.2 (weight_any (endsOf h) ao cap k _ hsa hEO.out (by rw [HEL.out]; exact htot) hlt HKIDS.out)).mono ?_
          rintro e w6 ⟨rfl, hb6⟩
          have HB6 := Lib.hid (HB5.out.trans (hb6.mono hz5))
          have hz6 := HB6.out.size
          clear hsa hb6
          cases hwt : weightB (endsOf h) k with
          | false =>
            have HWT := Lib.hid hwt
            clear hwt
            gi_wp2_with fail
            refine ⟨trivial, ?_⟩
            refine (callsIn_wide.2 (at_any 4 k 8 _)).mono ?_
            rintro e w7 ⟨v, rfl, hv, hb7⟩
            have HB7 := HB6.out.trans (hb7.mono hz6)
            have hdk : w7.heap[D]? = some (.deferred (some [])) := (HB7.block D hDlt).trans HDK.out
            have HVE := Lib.hid hv
            clear hv hb7
            gi_wp2
            refine ⟨by simp, .inl ⟨_, _, rfl, run_takeDeferred hdk, ?_⟩⟩
            refine ⟨_, results_tmp2 rfl _ _ _, EndsPost.bad (x := .at 4 k 8) ?_ (by simp) (HVE.out.putObj _ hdk) ?_⟩
            · rw [F.out.err, HX0.out, HX1.out, HX2.out]
              exact linksGo_stop hlt HN.out ((if_neg (by rw [HSH.out]; simp)).trans (if_pos HWT.out)) (by simp)
            · exact (HW.out.trans (HB7.mono HW.out.size)).trans (belowK_b (w := w) (Nat.le_refl _) w7 D _ _ (by omega) hdk rfl rfl)
          | true =>
            have HWT := Lib.hid hwt
            clear hwt
            gi_wp2_with fail
            gi_roundg ((endsOf h).length - (k + 1))
            case measure => have := HG.out; omega
            case rel =>
              refine ⟨k + 1, by go_num, by omega, rfl, ?_, HB6.out⟩
              unfold linksGo
              rw [HN.out]
              simp only
              rw [if_neg (by rw [HSH.out]; simp), if_neg (by rw [HWT.out]; simp)]
      · obtain rfl : k = (endsOf h).length := by omega
        have hdk : wr.heap[D]? = some (.deferred (some [])) := (HBL.out.block D hDlt).trans HDK.out
        gi_wp2
        refine ⟨by simp, .inl ⟨_, _, rfl, run_takeDeferred hdk, ?_⟩⟩
        have hro := ownsRow_putObj (own_kept (bs := []) RA.out (Only.of_below HBL.out) (fun _ _ => by simp)) (.deferred none) hdk rfl
        refine ⟨_, results_tmp2 rfl _ _ _, .inr ⟨ao, cap, rfl, ?_, (See.of_own endCells_len hro (by omega)).1, ?_⟩⟩
        · rw [F.out.err, HX0.out, HX1.out, HX2.out]
          exact HN.out
        · exact (HW.out.trans (HBL.out.mono HW.out.size)).trans (belowK_b (w := w) (Nat.le_refl _) wr D _ _ (by omega) hdk rfl rfl)
theorem ends_any (A : HA) (h : HierD) (w : World) (see : HSee w A h) : Calls Tryz.prog 16 #[hierVal A h] w (EndsPost h w) := by
  by_cases h1 : h.node.length ≤ 65536
  · by_cases h2 : wrap64 ((h.up.length : Int) + (h.dn.length : Int)) ≤ 1048576
    · by_cases h3 : h.upF.length = h.node.length + 1
      · by_cases h4 : h.dnF.length = h.node.length + 1
        · have f : Fits h := ⟨h1, h2, h3, h4⟩
          by_cases e1 : firstsErr h.upF h.up.length = .nil
          · by_cases e2 : firstsErr h.dnF h.dn.length = .nil
            · by_cases e3 : orderErr h.node = .nil
              · exact ends_main A h w see f e1 e2 e3
              · exact ends_order A h w see f e1 e2 e3
            · exact ends_first2 A h w see f e1 e2
          · exact ends_first1 A h w see f e1
        · exact ends_shape1 A h w h1 h2 (.inr h4)
      · exact ends_shape1 A h w h1 h2 (.inl h3)
    · exact ends_limit2 A h w h1 (by omega)
  · exact ends_limit1 A h w see (by omega)
end Go.Proofs.YtblkkjfpggcgfaaGreatDoor
