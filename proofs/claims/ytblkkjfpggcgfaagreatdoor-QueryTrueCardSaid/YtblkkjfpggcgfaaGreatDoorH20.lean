/- The web of a hierarchy: as data, and as it lies in memory. -/
import Derived.Test.YtblkkjfpggcgfaaGreatDoorH19
import Derived.Test.YtblkkjfpggcgfaaGreatDoorH17
import Derived.Deep.RegionHeld3
import Derived.BigQuiet
namespace Go.Proofs.YtblkkjfpggcgfaaGreatDoor
open Go.ChangeShapes Go.WideShapes Go.ChangeAt Go.RowKit Go.Joins Go.Deep
def putS (S : Nat → List (Nat × Nat)) (i : Nat) (s : Nat × Nat) : Nat → List (Nat × Nat) := fun v => if v = i then S v ++ [s] else S v
def webUps (r : Nat) (ls : List LinkD) (S : Nat → List (Nat × Nat)) : Nat → List (Nat × Nat) := ls.foldl (fun S l => putS S r (l.to, l.wt)) S
def webDns (r : Nat) (ls : List LinkD) (S : Nat → List (Nat × Nat)) : Nat → List (Nat × Nat) := ls.foldl (fun S l => putS S l.to (r, l.wt)) S
def webTo (h : HierD) : Nat → Nat → List (Nat × Nat)
  | 0 => fun _ => []
  | r + 1 => webDns r (seg h.dnF h.dn r) (webUps r (seg h.upF h.up r) (webTo h r))
def webD (h : HierD) : Nat → List (Nat × Nat) := webTo h h.node.length
theorem putS_len (S : Nat → List (Nat × Nat)) (i : Nat) (s : Nat × Nat) (v : Nat) : (putS S i s v).length ≤ (S v).length + 1 := by
  unfold putS
  split <;> simp
theorem putS_mem {S : Nat → List (Nat × Nat)} {i v : Nat} {s x : Nat × Nat} : x ∈ putS S i s v ↔ x ∈ S v ∨ (v = i ∧ x = s) := by
  unfold putS
  split
  · rename_i e; simp [e]
  · rename_i e; simp [e]
theorem ups_len (r : Nat) (ls : List LinkD) : ∀ (S : Nat → List (Nat × Nat)) v, (webUps r ls S v).length ≤ (S v).length + ls.length := by
  induction ls with
  | nil => intro S v; simp [webUps]
  | cons l ls ih =>
    intro S v
    have h1 := ih (putS S r (l.to, l.wt)) v
    have h2 := putS_len S r (l.to, l.wt) v
    simp only [webUps, List.foldl_cons, List.length_cons] at h1 ⊢
    omega
theorem dns_len (r : Nat) (ls : List LinkD) : ∀ (S : Nat → List (Nat × Nat)) v, (webDns r ls S v).length ≤ (S v).length + ls.length := by
  induction ls with
  | nil => intro S v; simp [webDns]
  | cons l ls ih =>
    intro S v
    have h1 := ih (putS S l.to (r, l.wt)) v
    have h2 := putS_len S l.to (r, l.wt) v
    simp only [webDns, List.foldl_cons, List.length_cons] at h1 ⊢
    omega
theorem ups_mem (r : Nat) (ls : List LinkD) : ∀ (S : Nat → List (Nat × Nat)) v x, x ∈ webUps r ls S v ↔ x ∈ S v ∨ (v = r ∧ ∃ l ∈ ls, x = (l.to, l.wt)) := by
  induction ls with
  | nil => intro S v x; simp [webUps]
  | cons l ls ih =>
    intro S v x
    have h1 := ih (putS S r (l.to, l.wt)) v x
    simp only [webUps, List.foldl_cons] at h1 ⊢
    rw [h1, putS_mem]
    simp only [List.mem_cons, exists_eq_or_imp]
    constructor
    · rintro ((h | ⟨h, e⟩) | ⟨h, e⟩)
      · exact .inl h
      · exact .inr ⟨h, .inl e⟩
      · exact .inr ⟨h, .inr e⟩
    · rintro (h | ⟨h, e | e⟩)
      · exact .inl (.inl h)
      · exact .inl (.inr ⟨h, e⟩)
      · exact .inr ⟨h, e⟩
theorem dns_mem (r : Nat) (ls : List LinkD) : ∀ (S : Nat → List (Nat × Nat)) v x, x ∈ webDns r ls S v ↔ x ∈ S v ∨ ∃ l ∈ ls, v = l.to ∧ x = (r, l.wt) := by
  induction ls with
  | nil => intro S v x; simp [webDns]
  | cons l ls ih =>
    intro S v x
    have h1 := ih (putS S l.to (r, l.wt)) v x
    simp only [webDns, List.foldl_cons] at h1 ⊢
    rw [h1, putS_mem]
    simp only [List.mem_cons, exists_eq_or_imp]
    constructor
    · rintro ((h | e) | e)
      · exact .inl h
      · exact .inr (.inl e)
      · exact .inr (.inr e)
    · rintro (h | e | e)
      · exact .inl (.inl h)
      · exact .inl (.inr e)
      · exact .inr e
theorem webTo_mem (h : HierD) : ∀ k a (x : Nat × Nat), x ∈ webTo h k a ↔ (a < k ∧ ∃ l ∈ seg h.upF h.up a, x = (l.to, l.wt)) ∨ (x.1 < k ∧ ∃ l ∈ seg h.dnF h.dn x.1, a = l.to ∧ x.2 = l.wt) := by
  intro k
  induction k with
  | zero => intro a x; simp [webTo]
  | succ k ih =>
    intro a x
    simp only [webTo]
    rw [dns_mem, ups_mem, ih]
    constructor
    · rintro (((⟨h1, h2⟩ | ⟨h1, h2⟩) | ⟨rfl, h2⟩) | ⟨l, hl, e1, rfl⟩)
      · exact .inl ⟨by omega, h2⟩
      · exact .inr ⟨by omega, h2⟩
      · exact .inl ⟨by omega, h2⟩
      · exact .inr ⟨by simp, l, hl, e1, rfl⟩
    · rintro (⟨h1, h2⟩ | ⟨h1, l, hl, e1, e2⟩)
      · rcases Nat.lt_or_ge a k with h3 | h3
        · exact .inl (.inl (.inl ⟨h3, h2⟩))
        · obtain rfl : a = k := by omega
          exact .inl (.inr ⟨rfl, h2⟩)
      · rcases Nat.lt_or_ge x.1 k with h3 | h3
        · exact .inl (.inl (.inr ⟨h3, l, hl, e1, e2⟩))
        · have e : x.1 = k := by omega
          rw [e] at hl
          exact .inr ⟨l, hl, e1, Prod.ext e e2⟩
theorem webTo_len {h : HierD} (u : FirstsOk h.node.length h.upF h.up.length) (d : FirstsOk h.node.length h.dnF h.dn.length) : ∀ k, k ≤ h.node.length → ∀ v, (webTo h k v).length ≤ h.upF.getD k 0 + h.dnF.getD k 0 := by
  intro k
  induction k with
  | zero => intro _ v; simp [webTo]
  | succ k ih =>
    intro hk v
    simp only [webTo]
    have h1 := dns_len k (seg h.dnF h.dn k) (webUps k (seg h.upF h.up k) (webTo h k)) v
    have h2 := ups_len k (seg h.upF h.up k) (webTo h k) v
    have h3 := ih (by omega) v
    have h4 := seg_length u k (by omega)
    have h5 := seg_length d k (by omega)
    have h6 := u.mono k (by omega)
    have h7 := d.mono k (by omega)
    omega
structure WRep (base n : Nat) (S : Nat → List (Nat × Nat)) (bo : Nat) (vs : Nat → Value) (w : World) : Prop where
  o : Cells w bo 137 ((List.range n).map vs)
  own : ∀ i, i < n → w.ownsRow 0 139 2 (vs i) (S i).length ((S i).flatMap stepCells)
  lo : ∀ i, i < n → ∀ q, (vs i).ownBlock = some q → base ≤ q ∧ q ≠ bo
  dis : ∀ i j, i < n → j < n → i ≠ j → ∀ q, (vs i).ownBlock = some q → (vs j).ownBlock ≠ some q
theorem own_lt {w : World} {base size n : Nat} {e : TypeId} {v : Value} {xs : List Value} (h : w.ownsRow base e size v n xs) {q : Nat} (hq : v.ownBlock = some q) : q < w.heap.size := (h.lt q hq).2
theorem WRep.kept {base n : Nat} {S : Nat → List (Nat × Nat)} {bo : Nat} {vs : Nat → Value} {w w' : World} {bs : List Nat} (k : WRep base n S bo vs w) (o : Only bs w w') (h1 : bo ∉ bs) (h2 : ∀ q ∈ bs, q < base ∨ w.heap.size ≤ q) : WRep base n S bo vs w' :=
  ⟨k.o.kept o h1, fun i hi => own_kept (k.own i hi) o (fun q hq hm => by
    have a := k.lo i hi q hq
    have b := own_lt (k.own i hi) hq
    rcases h2 q hm with c | c <;> omega), k.lo, k.dis⟩
theorem WRep.below {base n : Nat} {S : Nat → List (Nat × Nat)} {bo : Nat} {vs : Nat → Value} {w w' : World} (k : WRep base n S bo vs w) (o : Below w.heap.size w w') : WRep base n S bo vs w' :=
  k.kept (bs := []) (Only.of_below o) (by simp) (by simp)
theorem WRep.app {base n : Nat} {S : Nat → List (Nat × Nat)} {bo : Nat} {vs : Nat → Value} {w w' : World} (k : WRep base n S bo vs w) {i : Nat} (hi : i < n) (s : Nat × Nat) (v' : Value) (hbase : base ≤ w.heap.size) (hbo : bo < base)
    (h1 : w'.ownsRow 0 139 2 v' ((S i).length + 1) ((S i).flatMap stepCells ++ stepCells s)) (h2 : ∀ q, v'.ownBlock = some q → (vs i).ownBlock = some q ∨ w.heap.size ≤ q)
    (h3 : Cells w' bo 137 (((List.range n).map vs).set i v')) (h4 : Only (bo :: (vs i).ownBlock.toList) w w') : WRep base n (putS S i s) bo (fun v => if v = i then v' else vs v) w' := by
  refine ⟨?_, fun j hj => ?_, fun j hj q hq => ?_, fun a b ha hb hab q hq he => ?_⟩
  · rw [show (List.range n).map (fun v => if v = i then v' else vs v) = ((List.range n).map vs).set i v' from ?_]
    · exact h3
    · apply List.ext_getElem?
      intro j
      rw [List.getElem?_set]
      simp only [List.getElem?_map, List.length_map, List.length_range]
      by_cases hj : i = j
      · subst hj
        rw [if_pos rfl, if_pos hi, List.getElem?_range hi]
        simp
      · rw [if_neg hj]
        rcases Nat.lt_or_ge j n with hjn | hjn
        · rw [List.getElem?_range hjn]
          have hji : ¬ j = i := fun e => hj e.symm
          simp [hji]
        · rw [List.getElem?_eq_none (by simpa using hjn)]
          rfl
  · by_cases e : j = i
    · subst e
      simp only [if_true, putS]
      rw [List.length_append, List.flatMap_append]
      simpa using h1
    · simp only [if_neg e, putS]
      refine own_kept (k.own j hj) h4 (fun q hq hm => ?_)
      rw [List.mem_cons] at hm
      rcases hm with rfl | hm
      · exact (k.lo j hj _ hq).2 rfl
      · exact k.dis j i hj hi e q hq (by simpa using hm)
  · by_cases e : j = i
    · subst e
      simp only [if_true] at hq
      rcases h2 q hq with c | c
      · exact k.lo j hj q c
      · exact ⟨by omega, by omega⟩
    · simp only [if_neg e] at hq
      exact k.lo j hj q hq
  · by_cases ea : a = i
    · have eb : b ≠ i := fun e => hab (ea.trans e.symm)
      simp only [if_pos ea] at hq
      simp only [if_neg eb] at he
      rcases h2 q hq with c | c
      · exact k.dis i b hi hb (fun e => eb e.symm) q c he
      · have := own_lt (k.own b hb) he
        omega
    · simp only [if_neg ea] at hq
      by_cases eb : b = i
      · simp only [if_pos eb] at he
        rcases h2 q he with c | c
        · exact k.dis a i ha hi ea q hq c
        · have := own_lt (k.own a ha) hq
          omega
      · simp only [if_neg eb] at he
        exact k.dis a b ha hb hab q hq he
def distCells (n : Nat) (D : Nat → Option Int) : List Value := (List.range n).map fun r => .int .u64 (farOf (D r))
theorem distCells_get {n : Nat} {D : Nat → Option Int} {r : Nat} (hr : r < n) : (distCells n D)[r]? = some (.int .u64 (farOf (D r))) := by
  unfold distCells
  rw [List.getElem?_map, List.getElem?_range hr]
  rfl
theorem distCells_set {n : Nat} {D : Nat → Option Int} {r : Nat} {d : Int} (E : Nat → Option Int) (h1 : farOf (E r) = d) (h2 : ∀ x, x ≠ r → E x = D x) : (distCells n D).set r (.int .u64 d) = distCells n E := by
  apply List.ext_getElem?
  intro j
  rw [List.getElem?_set]
  unfold distCells
  simp only [List.getElem?_map, List.length_map, List.length_range]
  by_cases hj : r = j
  · subst hj
    rw [if_pos rfl]
    by_cases hl : r < n
    · rw [if_pos hl, List.getElem?_range hl]
      simp [h1]
    · rw [if_neg hl, List.getElem?_eq_none (by simp; omega)]
      rfl
  · rw [if_neg hj]
    by_cases hl : j < n
    · rw [List.getElem?_range hl]
      simp only [Option.map_some, Option.some.injEq]
      rw [h2 j (fun e => hj e.symm)]
    · rw [List.getElem?_eq_none (by simp; omega)]
      rfl
theorem DistK.bnd {n : Nat} {first : List Nat} {links : List LinkD} {s k : Nat} {D : Nat → Option Int} (ok : HalfOk n first links) (hk : k ≤ n) (h : DistK n first links s k D) : ∀ r e, D r = some e → 0 ≤ e ∧ e ≤ r * 140737488355328 := by
  intro r
  induction r using Nat.strongRecOn with
  | _ r ih =>
    intro e he
    by_cases hr : r = s
    · subst hr
      rw [h.src] at he
      simp at he
      subst he
      exact ⟨by omega, by omega⟩
    · obtain ⟨x, d, l, hx, hxr, hd, hl, hto, rfl⟩ := h.bwd r e hr he
      obtain ⟨h1, h2, h3⟩ := ok.up x (by omega) l hl
      obtain ⟨h4, h5⟩ := ih x hxr d hd
      refine ⟨by omega, ?_⟩
      have : (x : Int) * 140737488355328 + 140737488355328 ≤ r * 140737488355328 := by omega
      omega
def fillCells (n k : Nat) : List Value := (List.range n).map fun j => .int .u64 (if j < k then 18446744073709551615 else 0)
theorem fillCells_zero (n : Nat) : fillCells n 0 = (List.replicate n ()).flatMap fun _ => [.int .u64 0] := by
  apply List.ext_getElem?
  intro j
  have h2 := flat_get (f := fun (_ : Unit) => [Value.int .u64 0]) (sz := 1) (fun _ => rfl) (List.replicate n ()) j 0 (by omega)
  rw [Nat.mul_one, Nat.add_zero] at h2
  rw [h2]
  unfold fillCells
  rw [List.getElem?_map]
  by_cases hj : j < n
  · rw [List.getElem?_range hj, List.getElem?_replicate, if_pos hj]
    rfl
  · rw [List.getElem?_eq_none (by simp; omega), List.getElem?_replicate, if_neg hj]
    rfl
theorem fillCells_set {n k : Nat} : (fillCells n k).set k (.int .u64 18446744073709551615) = fillCells n (k + 1) := by
  apply List.ext_getElem?
  intro j
  rw [List.getElem?_set]
  unfold fillCells
  simp only [List.getElem?_map, List.length_map, List.length_range]
  by_cases hj : k = j
  · subst hj
    rw [if_pos rfl]
    by_cases hl : k < n
    · rw [if_pos hl, List.getElem?_range hl]
      simp
    · rw [if_neg hl, List.getElem?_eq_none (by simp; omega)]
      rfl
  · rw [if_neg hj]
    by_cases hl : j < n
    · rw [List.getElem?_range hl]
      simp only [Option.map_some, Option.some.injEq]
      have : j < k ↔ j < k + 1 := by omega
      simp only [this]
    · rw [List.getElem?_eq_none (by simp; omega)]
      rfl
theorem fillCells_full (n : Nat) : fillCells n n = distCells n (fun _ => none) := by
  unfold fillCells distCells farOf
  apply List.map_congr_left
  intro j hj
  rw [if_pos (List.mem_range.1 hj)]
theorem Tryz.infoU64 : (Tryz.prog.info? 35).map (fun i => (i.zero, i.size, i.bytes)) = some (some (.int .u64 0), 1, 8) := by kernel_rfl
theorem Tryz.sizeWeb : (Tryz.prog.info? 87).map (·.size) = some 1 := by kernel_rfl
def webVal (bo n : Nat) : Value := .agg #[.slice (some ⟨bo, 0, none⟩) n n]
def WeaveNew (h : HierD) (w : World) (e : Ending) (w' : World) : Prop := ∃ bo base vs, e = .returned (webVal bo h.node.length) ∧ WRep base h.node.length (webD h) bo vs w' ∧ w.heap.size ≤ bo ∧ bo < base ∧ Below w.heap.size w w'
def nilSteps (n : Nat) : List Value := (List.range n).map fun _ => .slice none 0 0
theorem steps_made (n : Nat) : madeCells (Value.slice none 0 0).cells (n * 1) = (nilSteps n).toArray := by
  have e := madeCells_eq [Value.slice none 0 0] n (by simp)
  have h : ((List.replicate n ()).flatMap fun _ => [Value.slice none 0 0]) = nilSteps n := by
    apply List.ext_getElem?
    intro j
    have hg := flat_get (f := fun (_ : Unit) => [Value.slice none 0 0]) (sz := 1) (fun _ => rfl) (List.replicate n ()) j 0 (by omega)
    rw [Nat.mul_one, Nat.add_zero] at hg
    rw [hg]
    unfold nilSteps
    rcases Nat.lt_or_ge j n with h1 | h1
    · simp [h1]
    · rw [List.getElem?_eq_none (l := List.replicate n ()) (by simpa using h1), List.getElem?_eq_none (l := (List.range n).map _) (by simpa using h1)]; rfl
  rw [h] at e
  exact e
theorem WRep.nil {base n bo : Nat} {w : World} (h : Cells w bo 137 (nilSteps n)) : WRep base n (webTo ⟨[], [], [], [], []⟩ 0) bo (fun _ => .slice none 0 0) w :=
  ⟨h, fun i _ => World.ownsRow_nil w 0 139 2, fun i _ q hq => by simp [Value.ownBlock] at hq, fun i j _ _ _ q hq => by simp [Value.ownBlock] at hq⟩
set_option linter.unusedSimpArgs false in
set_option maxRecDepth 100000 in
set_option maxHeartbeats 8000000 in
theorem weave_any (A : HA) (h : HierD) (w : World) (see : HSee w A h) (u : FirstsOk h.node.length h.upF h.up.length) (d : FirstsOk h.node.length h.dnF h.dn.length) (ok : HalfOk h.node.length h.upF h.up) (okd : HalfOk h.node.length h.dnF h.dn) (hn : h.node.length ≤ 65536) (htot : h.up.length + h.dn.length ≤ 1048576) : Calls Tryz.prog 29 #[hierVal A h] w (WeaveNew h w) := by
  have hmk := run_make_n (P := Tryz.prog) 85 137 (.slice none 0 0) 1 24 Tryz.underlying85 Tryz.infoSteps .i64 .i64 h.node.length (by omega) (by omega)
  rw [steps_made] at hmk
  have SEE := Lib.hid see
  have UOK := Lib.hid u
  have DOK := Lib.hid d
  have OKU := Lib.hid ok
  have OKD := Lib.hid okd
  clear see u d ok okd
  unfold hierVal
  go_enter Tryz.func29, Tryz.ntmps29
  go_wp2_with fail
  have hb1 : Below w.heap.size w ((((w.alloc (.cells (hierCells A h).toArray 25)).alloc (.cells #[.slice none 0 0] 87)).alloc (.cells (nilSteps h.node.length).toArray 137)).alloc (.cells #[.slice (some ⟨w.heap.size + 1 + 1, 0, none⟩) h.node.length h.node.length] 87)) :=
    ((((Below.refl w.heap.size w).alloc (Nat.le_refl _) _).alloc (by simp) _).alloc (by simp; omega) _).alloc (by simp; omega) _
  have hx1 := (((Cells.new w 25 (hierCells A h)).alloc (.cells #[.slice none 0 0] 87)).alloc (.cells (nilSteps h.node.length).toArray 137)).alloc (.cells #[.slice (some ⟨w.heap.size + 1 + 1, 0, none⟩) h.node.length h.node.length] 87)
  have hr1 := ((cells_at (w := w.alloc (.cells (hierCells A h).toArray 25)) (b := w.heap.size + 1) (by simp) 87 [.slice none 0 0]).alloc (.cells (nilSteps h.node.length).toArray 137)).alloc (.cells #[.slice (some ⟨w.heap.size + 1 + 1, 0, none⟩) h.node.length h.node.length] 87)
  have ho1 := (cells_at (w := (w.alloc (.cells (hierCells A h).toArray 25)).alloc (.cells #[.slice none 0 0] 87)) (b := w.heap.size + 1 + 1) (by simp) 137 (nilSteps h.node.length)).alloc (.cells #[.slice (some ⟨w.heap.size + 1 + 1, 0, none⟩) h.node.length h.node.length] 87)
  have hc1 := cells_at (w := ((w.alloc (.cells (hierCells A h).toArray 25)).alloc (.cells #[.slice none 0 0] 87)).alloc (.cells (nilSteps h.node.length).toArray 137)) (b := w.heap.size + 1 + 1 + 1) (by simp) 87 [.slice (some ⟨w.heap.size + 1 + 1, 0, none⟩) h.node.length h.node.length]
  have HB0 := Lib.hid hb1
  have HX0 := Lib.hid hx1
  have HR0 := Lib.hid hr1
  have HC0 := Lib.hid hc1
  have HW0 := Lib.hid (show WRep (w.heap.size + 4) h.node.length (webTo h 0) (w.heap.size + 1 + 1) (fun _ => .slice none 0 0) _ from WRep.nil ho1)
  clear hb1 hx1 hr1 hc1 ho1 hmk
  go_loopg [17] h.node.length (fun g vi wr => ∃ (r : Nat) (vs : Nat → Value), vi = .int .i64 r ∧ r ≤ h.node.length ∧ g = h.node.length - r ∧ WRep (w.heap.size + 4) h.node.length (webTo h r) (w.heap.size + 1 + 1) vs wr ∧ Cells wr w.heap.size 25 (hierCells A h) ∧ Cells wr (w.heap.size + 1) 87 [.slice none 0 0] ∧ Cells wr (w.heap.size + 1 + 1 + 1) 87 [.slice (some ⟨w.heap.size + 1 + 1, 0, none⟩) h.node.length h.node.length] ∧ Below w.heap.size w wr)
  case atStart => exact ⟨0, _, rfl, Nat.zero_le _, rfl, HW0.out, HX0.out, HR0.out, HC0.out, HB0.out⟩
  case round =>
    obtain ⟨r, vs, rfl, hrl, hgr, hw2, hx2, hr2, hc2, hb2⟩ := hrel
    obtain ⟨wp, rfl⟩ : ∃ wp : World, wp = wr := ⟨_, rfl⟩
    have HGR := Lib.hid hgr
    have HW := Lib.hid hw2
    have HX := Lib.hid hx2
    have HR := Lib.hid hr2
    have HC := Lib.hid hc2
    have HB := Lib.hid hb2
    clear hgr hw2 hx2 hr2 hc2 hb2 HB0 HX0 HR0 HC0 HW0
    by_cases hrn : r < h.node.length
    · skip
      have hfl := UOK.out.len
      obtain ⟨lo, hlo⟩ : ∃ lo, h.upF[r]? = some lo := ⟨_, List.getElem?_eq_getElem (by omega)⟩
      obtain ⟨hi, hhi⟩ : ∃ hi, h.upF[r + 1]? = some hi := ⟨_, List.getElem?_eq_getElem (by omega)⟩
      have glo : h.upF.getD r 0 = lo := by rw [List.getD_eq_getElem?_getD, hlo]; rfl
      have ghi : h.upF.getD (r + 1) 0 = hi := by rw [List.getD_eq_getElem?_getD, hhi]; rfl
      have hlh : lo ≤ hi := by rw [← glo, ← ghi]; exact UOK.out.mono r hrn
      have hhl : hi ≤ h.up.length := by rw [← ghi]; exact UOK.out.le (r + 1) (by omega)
      have hseg : seg h.upF h.up r = (h.up.take hi).drop lo := by unfold seg; rw [glo, ghi]
      have su := SEE.out.below HB.out
      have hhc : hi ≤ A.c2 := Nat.le_trans hhl su.up.hcap
      have hhi32 : hi < 4294967296 := su.bu hi (List.mem_of_getElem? hhi)
      obtain ⟨b1, o1, ea1, lb1, cc1⟩ := see_one (f := fun (n : Nat) => Value.int .u32 n) su.upF (by omega)
      have cl := cc1 r lo hlo
      have ch := cc1 (r + 1) hi hhi
      obtain ⟨k0, k1, k2, k3, k4⟩ := hier_five HX.out
      rw [ea1] at k1
      have hil : r < h.upF.length := by omega
      have hil1 : r + 1 < h.upF.length := by omega
      have hsl := run_sub (P := Tryz.prog) 23 63 4 Tryz.underlying23 Tryz.sizeLink A.a2 h.up.length A.c2 lo hi .u32 .u32 hlh hhc
      have hLlen : ((h.up.take hi).drop lo).length = hi - lo := by simp; omega
      have hSUB : ∀ X, Below w.heap.size w X → See X (slBase A.a2 lo A.c2 4) (A.c2 - lo) linkCells 4 ((h.up.take hi).drop lo) := fun X hX => (SEE.out.below hX).up.sub lo hi hhl
      have hup : ∀ x ∈ (h.up.take hi).drop lo, r < x.to ∧ x.to < h.node.length ∧ x.wt ≤ 140737488355328 := fun x hx => OKU.out.up r hrn x (by rw [hseg]; exact hx)
      have hbnd : ∀ v, (webTo h r v).length + (hi - lo) ≤ 1048576 := fun v => by
        have a1 := webTo_len UOK.out DOK.out r (by omega) v
        have a2 := DOK.out.le r (by omega)
        rw [glo] at a1
        omega
      have LL := Lib.hid hLlen
      have HSUB := Lib.hid hSUB
      have HUP := Lib.hid hup
      have HSEG := Lib.hid hseg
      have HBND := Lib.hid hbnd
      clear hfl hlo hhi glo ghi hseg su cc1 ea1 hLlen hSUB hup hbnd
      generalize (h.up.take hi).drop lo = L at *
      go_wp2_with fail
      go_quiet (fail)
      go_wp2_with fail
      have HBq := Lib.hid (below_drewN HB.out nq)
      have HXq := Lib.hid (HX.out.drewN nq)
      have HWq := Lib.hid (HW.out.below (below_drewN (Below.refl _ _) nq))
      have HRq := Lib.hid (HR.out.drewN nq)
      have HCq := Lib.hid (HC.out.drewN nq)
      clear HB HX HW HR HC cl ch k0 k1 k2 k3 k4 hsl
      go_loopg [35] (hi - lo) (fun g vj wr => ∃ (j : Nat) (vs' : Nat → Value), vj = .int .i64 j ∧ j ≤ hi - lo ∧ g = hi - lo - j ∧ WRep (w.heap.size + 4) h.node.length (webUps r (L.take j) (webTo h r)) (w.heap.size + 1 + 1) vs' wr ∧ Cells wr w.heap.size 25 (hierCells A h) ∧ Cells wr (w.heap.size + 1) 87 [.slice none 0 0] ∧ Cells wr (w.heap.size + 1 + 1 + 1) 87 [.slice (some ⟨w.heap.size + 1 + 1, 0, none⟩) h.node.length h.node.length] ∧ Below w.heap.size w wr)
      case atStart => exact ⟨0, _, rfl, Nat.zero_le _, rfl, HWq.out, HXq.out, HRq.out, HCq.out, HBq.out⟩
      case round =>
        obtain ⟨j, vs', rfl, hj, hgj, hw2, hx2, hr2, hc2, hb2⟩ := hrel
        obtain ⟨wo, rfl⟩ : ∃ wo : World, wo = wr := ⟨_, rfl⟩
        have HGJ := Lib.hid hgj
        have HW := Lib.hid hw2
        have HX := Lib.hid hx2
        have HR := Lib.hid hr2
        have HC := Lib.hid hc2
        have HB := Lib.hid hb2
        clear hgj hw2 hx2 hr2 hc2 hb2 HWq HXq HRq HCq HBq
        by_cases hjl : j < hi - lo
        · obtain ⟨x, hx⟩ : ∃ x, L[j]? = some x := ⟨_, List.getElem?_eq_getElem (by rw [LL.out]; exact hjl)⟩
          obtain ⟨hx1, hx2, hx3⟩ := HUP.out x (List.mem_of_getElem? hx)
          obtain ⟨b2, o2, ea2, cc2⟩ := (HSUB.out wo HB.out).cell j x hx
          have e0 := cc2 0 _ rfl
          have e1 := cc2 1 _ rfl
          have e2 := cc2 2 _ rfl
          have e3 := cc2 3 _ rfl
          rw [Nat.add_zero] at e0
          have EA := Lib.hid ea2
          have HXJ := Lib.hid hx
          clear cc2 ea2 hx
          have HLT0 := Lib.hid (fun i (hi : i < h.node.length) q (hq : (vs' i).ownBlock = some q) => own_lt (HW.out.own i hi) hq)
          have hbsz := HC.out.lt
          obtain ⟨wq, hwq⟩ : ∃ wq, wo.alloc (.cells (linkCells x).toArray 63) = wq := ⟨_, rfl⟩
          have hlink := Cells.new wo 63 (linkCells x)
          have ho := (Below.refl wo.heap.size wo).alloc (Nat.le_refl _) (.cells (linkCells x).toArray 63)
          have hwsz : wq.heap.size = wo.heap.size + 1 := by rw [← hwq]; simp
          rw [hwq] at hlink ho
          have hc3 := HC.out.below ho HC.out.lt
          have hx3' := HX.out.below ho HX.out.lt
          have hr3 := HR.out.below ho HR.out.lt
          have hw3 := HW.out.below ho
          have hb3 := HB.out.trans (ho.mono HB.out.size)
          have lb3 := HC.out.lt
          have v0 : wq.cell? ⟨wo.heap.size, 0, none⟩ = some (.int .u32 (x.to : Nat)) := hlink.cell rfl
          have v1 : wq.cell? ⟨wo.heap.size, 1, none⟩ = some (.int .u64 (x.wt : Nat)) := hlink.cell rfl
          have q3 : wq.cell? ⟨w.heap.size + 1 + 1 + 1, 0, none⟩ = some (.slice (some ⟨w.heap.size + 1 + 1, 0, none⟩) h.node.length h.node.length) := hc3.cell rfl
          have HL3 := Lib.hid hlink
          have HC3 := Lib.hid hc3
          have HX3 := Lib.hid hx3'
          have HR3 := Lib.hid hr3
          have HW3 := Lib.hid hw3
          have HB3 := Lib.hid hb3
          have HWQ := Lib.hid hwq
          clear hlink ho hc3 hx3' hr3 hw3 hb3 HC HX HR HW HB
          rw [EA.out]
          go_upto_region 8 with fail
          try rw [show wo.alloc (.cells #[.int .u32 x.to, .int .u64 x.wt, .int .u32 x.left, .int .u32 x.right] 63) = wq from HWQ.out]
          clear e0 e1 e2 e3
          change Code.wp _ ((regionAt 8 weaveBody).getD .skip) _ _ _
          obtain ⟨ao, cap, hvs⟩ := own_form' (HW3.out.own r hrn)
          have hL := HW3.out.own r hrn
          have hne := HW3.out.lo r hrn
          rw [hvs] at hL hne
          have hlt0 := HLT0.out r hrn
          rw [hvs] at hlt0
          have hm : (webUps r (L.take j) (webTo h r) r).length ≤ 1048576 := by
            have a1 := ups_len r (L.take j) (webTo h r) r
            have a2 := HBND.out r
            have a3 : (L.take j).length ≤ hi - lo := by rw [List.length_take, LL.out]; omega
            omega
          have hidx : ((List.range h.node.length).map vs')[r]? = some (.slice ao (webUps r (L.take j) (webTo h r) r).length cap) := by rw [List.getElem?_map, List.getElem?_range (by omega), ← hvs]; rfl
          have hx32 : x.to < 4294967296 := by omega
          refine weave_app8 (r := r) (tn := x.to) (wt := x.wt) _ (fun _ _ t _ _ hq => by cases t <;> exact hq) q3 v0 v1 HW3.out.o hidx (by omega) hL (fun q hq => ⟨by have := hne q hq; omega, by have := hlt0 q hq; omega, (hne q hq).2⟩) (by omega) (by omega) hm hx32 ?_
          intro t39 t40 t41 t42 t43 t44 t45 t46 t47 t48 t49 t50 t51 t52 t53 t54 t55 ao2 cap2 w6 hown6 hblk6 hcells6 honly6
          rw [← hvs] at hblk6 honly6
          have hone : Only ((w.heap.size + 1 + 1) :: (vs' r).ownBlock.toList) wq w6 := honly6
          have hnew := HW3.out.app hrn (x.to, x.wt) _ (by omega) (by omega) hown6 hblk6 hcells6 honly6
          have hnm : ∀ b, b < w.heap.size + 1 + 1 ∨ b = w.heap.size + 1 + 1 + 1 → b ∉ ((w.heap.size + 1 + 1) :: (vs' r).ownBlock.toList) := fun b hb hm2 => by
            rw [List.mem_cons] at hm2
            rcases hm2 with e | e
            · omega
            · have := (HW3.out.lo r hrn b (by simpa using e)).1
              omega
          have hx6 := HX3.out.kept hone (hnm _ (.inl (by omega)))
          have hr6 := HR3.out.kept hone (hnm _ (.inl (by omega)))
          have hc6 := HC3.out.kept hone (hnm _ (.inr rfl))
          have hb6 : Below w.heap.size w w6 := HB3.out.trans (hone.below HB3.out.size (fun q hq => by
            rw [List.mem_cons] at hq
            rcases hq with e | e
            · omega
            · have := (HW3.out.lo r hrn q (by simpa using e)).1
              omega))
          have hS : putS (webUps r (L.take j) (webTo h r)) r (x.to, x.wt) = webUps r (L.take (j + 1)) (webTo h r) := by
            rw [List.take_add_one, HXJ.out]
            simp only [webUps, Option.toList_some, List.foldl_append, List.foldl_cons, List.foldl_nil]
          rw [hS] at hnew
          have HW6 := Lib.hid hnew
          have HX6 := Lib.hid hx6
          have HR6 := Lib.hid hr6
          have HC6 := Lib.hid hc6
          have HB6 := Lib.hid hb6
          clear hown6 hblk6 hcells6 honly6 hone hnew hnm hx6 hr6 hc6 hb6 hS hidx hL hne hlt0 HW3 HX3 HR3 HC3 HB3 HL3 v0 v1 q3
          try dsimp only [Exit.then]
          go_wp2_with fail
          rw [← EA.out]
          go_roundg (hi - lo - (j + 1))
          case measure => rw [HGJ.out]; omega
          case rel => exact ⟨j + 1, _, by go_num, by omega, rfl, HW6.out, HX6.out, HR6.out, HC6.out, HB6.out⟩
        · obtain rfl : j = hi - lo := by omega
          have hfull := HW.out
          rw [List.take_of_length_le (by rw [LL.out]; exact Nat.le_refl _), ← HSEG.out] at hfull
          clear HW HSEG LL HSUB HUP HBND
          have HW := Lib.hid hfull
          clear hfull
          go_wp2_with fail
          have hfl := DOK.out.len
          obtain ⟨lo, hlo⟩ : ∃ lo, h.dnF[r]? = some lo := ⟨_, List.getElem?_eq_getElem (by omega)⟩
          obtain ⟨hi, hhi⟩ : ∃ hi, h.dnF[r + 1]? = some hi := ⟨_, List.getElem?_eq_getElem (by omega)⟩
          have glo : h.dnF.getD r 0 = lo := by rw [List.getD_eq_getElem?_getD, hlo]; rfl
          have ghi : h.dnF.getD (r + 1) 0 = hi := by rw [List.getD_eq_getElem?_getD, hhi]; rfl
          have hlh : lo ≤ hi := by rw [← glo, ← ghi]; exact DOK.out.mono r hrn
          have hhl : hi ≤ h.dn.length := by rw [← ghi]; exact DOK.out.le (r + 1) (by omega)
          have hseg : seg h.dnF h.dn r = (h.dn.take hi).drop lo := by unfold seg; rw [glo, ghi]
          have su := SEE.out.below HB.out
          have hhc : hi ≤ A.c4 := Nat.le_trans hhl su.dn.hcap
          have hhi32 : hi < 4294967296 := su.bd hi (List.mem_of_getElem? hhi)
          obtain ⟨b1, o1, ea1, lb1, cc1⟩ := see_one (f := fun (n : Nat) => Value.int .u32 n) su.dnF (by omega)
          have cl := cc1 r lo hlo
          have ch := cc1 (r + 1) hi hhi
          obtain ⟨k0, k1, k2, k3, k4⟩ := hier_five HX.out
          rw [ea1] at k3
          have hil : r < h.dnF.length := by omega
          have hil1 : r + 1 < h.dnF.length := by omega
          have hsl := run_sub (P := Tryz.prog) 23 63 4 Tryz.underlying23 Tryz.sizeLink A.a4 h.dn.length A.c4 lo hi .u32 .u32 hlh hhc
          have hLlen : ((h.dn.take hi).drop lo).length = hi - lo := by simp; omega
          have hSUB : ∀ X, Below w.heap.size w X → See X (slBase A.a4 lo A.c4 4) (A.c4 - lo) linkCells 4 ((h.dn.take hi).drop lo) := fun X hX => (SEE.out.below hX).dn.sub lo hi hhl
          have hup : ∀ x ∈ (h.dn.take hi).drop lo, r < x.to ∧ x.to < h.node.length ∧ x.wt ≤ 140737488355328 := fun x hx => OKD.out.up r hrn x (by rw [hseg]; exact hx)
          have hbnd : ∀ v, (webUps r (seg h.upF h.up r) (webTo h r) v).length + (hi - lo) ≤ 1048576 := fun v => by
            have a1 := webTo_len UOK.out DOK.out r (by omega) v
            have a2 := ups_len r (seg h.upF h.up r) (webTo h r) v
            have a3 := seg_length UOK.out r hrn
            have a4 := UOK.out.mono r hrn
            have a5 := UOK.out.le (r + 1) (by omega)
            rw [glo] at a1
            omega
          have LL := Lib.hid hLlen
          have HSUB := Lib.hid hSUB
          have HUP := Lib.hid hup
          have HSEG := Lib.hid hseg
          have HBND := Lib.hid hbnd
          clear hfl hlo hhi glo ghi hseg su cc1 ea1 hLlen hSUB hup hbnd
          generalize (h.dn.take hi).drop lo = L at *
          go_wp2_with fail
          go_quiet (fail)
          go_wp2_with fail
          have HBq := Lib.hid (below_drewN HB.out nq)
          have HXq := Lib.hid (HX.out.drewN nq)
          have HWq := Lib.hid (HW.out.below (below_drewN (Below.refl _ _) nq))
          have HRq := Lib.hid (HR.out.drewN nq)
          have HCq := Lib.hid (HC.out.drewN nq)
          clear HB HX HW HR HC cl ch k0 k1 k2 k3 k4 hsl
          go_loopg [72] (hi - lo) (fun g vj wr => ∃ (j : Nat) (vs' : Nat → Value), vj = .int .i64 j ∧ j ≤ hi - lo ∧ g = hi - lo - j ∧ WRep (w.heap.size + 4) h.node.length (webDns r (L.take j) (webUps r (seg h.upF h.up r) (webTo h r))) (w.heap.size + 1 + 1) vs' wr ∧ Cells wr w.heap.size 25 (hierCells A h) ∧ Cells wr (w.heap.size + 1) 87 [.slice none 0 0] ∧ Cells wr (w.heap.size + 1 + 1 + 1) 87 [.slice (some ⟨w.heap.size + 1 + 1, 0, none⟩) h.node.length h.node.length] ∧ Below w.heap.size w wr)
          case atStart => exact ⟨0, _, rfl, Nat.zero_le _, rfl, HWq.out, HXq.out, HRq.out, HCq.out, HBq.out⟩
          case round =>
            obtain ⟨j, vs', rfl, hj, hgj, hw2, hx2, hr2, hc2, hb2⟩ := hrel
            obtain ⟨wo, rfl⟩ : ∃ wo : World, wo = wr := ⟨_, rfl⟩
            have HGJ := Lib.hid hgj
            have HW := Lib.hid hw2
            have HX := Lib.hid hx2
            have HR := Lib.hid hr2
            have HC := Lib.hid hc2
            have HB := Lib.hid hb2
            clear hgj hw2 hx2 hr2 hc2 hb2 HWq HXq HRq HCq HBq
            by_cases hjl : j < hi - lo
            · obtain ⟨x, hx⟩ : ∃ x, L[j]? = some x := ⟨_, List.getElem?_eq_getElem (by rw [LL.out]; exact hjl)⟩
              obtain ⟨hx1, hx2, hx3⟩ := HUP.out x (List.mem_of_getElem? hx)
              obtain ⟨b2, o2, ea2, cc2⟩ := (HSUB.out wo HB.out).cell j x hx
              have e0 := cc2 0 _ rfl
              have e1 := cc2 1 _ rfl
              have e2 := cc2 2 _ rfl
              have e3 := cc2 3 _ rfl
              rw [Nat.add_zero] at e0
              have EA := Lib.hid ea2
              have HXJ := Lib.hid hx
              clear cc2 ea2 hx
              have HLT0 := Lib.hid (fun i (hi : i < h.node.length) q (hq : (vs' i).ownBlock = some q) => own_lt (HW.out.own i hi) hq)
              have hbsz := HC.out.lt
              obtain ⟨wq, hwq⟩ : ∃ wq, wo.alloc (.cells (linkCells x).toArray 63) = wq := ⟨_, rfl⟩
              have hlink := Cells.new wo 63 (linkCells x)
              have ho := (Below.refl wo.heap.size wo).alloc (Nat.le_refl _) (.cells (linkCells x).toArray 63)
              have hwsz : wq.heap.size = wo.heap.size + 1 := by rw [← hwq]; simp
              rw [hwq] at hlink ho
              have hc3 := HC.out.below ho HC.out.lt
              have hx3' := HX.out.below ho HX.out.lt
              have hr3 := HR.out.below ho HR.out.lt
              have hw3 := HW.out.below ho
              have hb3 := HB.out.trans (ho.mono HB.out.size)
              have lb3 := HC.out.lt
              have v0 : wq.cell? ⟨wo.heap.size, 0, none⟩ = some (.int .u32 (x.to : Nat)) := hlink.cell rfl
              have v1 : wq.cell? ⟨wo.heap.size, 1, none⟩ = some (.int .u64 (x.wt : Nat)) := hlink.cell rfl
              have q3 : wq.cell? ⟨w.heap.size + 1 + 1 + 1, 0, none⟩ = some (.slice (some ⟨w.heap.size + 1 + 1, 0, none⟩) h.node.length h.node.length) := hc3.cell rfl
              have HL3 := Lib.hid hlink
              have HC3 := Lib.hid hc3
              have HX3 := Lib.hid hx3'
              have HR3 := Lib.hid hr3
              have HW3 := Lib.hid hw3
              have HB3 := Lib.hid hb3
              have HWQ := Lib.hid hwq
              clear hlink ho hc3 hx3' hr3 hw3 hb3 HC HX HR HW HB
              rw [EA.out]
              go_upto_region 13 with fail
              try rw [show wo.alloc (.cells #[.int .u32 x.to, .int .u64 x.wt, .int .u32 x.left, .int .u32 x.right] 63) = wq from HWQ.out]
              clear e0 e1 e2 e3
              change Code.wp _ ((regionAt 13 weaveBody).getD .skip) _ _ _
              obtain ⟨ao, cap, hvs⟩ := own_form' (HW3.out.own x.to hx2)
              have hL := HW3.out.own x.to hx2
              have hne := HW3.out.lo x.to hx2
              rw [hvs] at hL hne
              have hlt0 := HLT0.out x.to hx2
              rw [hvs] at hlt0
              have hm : (webDns r (L.take j) (webUps r (seg h.upF h.up r) (webTo h r)) x.to).length ≤ 1048576 := by
                have a1 := dns_len r (L.take j) (webUps r (seg h.upF h.up r) (webTo h r)) x.to
                have a2 := HBND.out x.to
                have a3 : (L.take j).length ≤ hi - lo := by rw [List.length_take, LL.out]; omega
                omega
              have hidx : ((List.range h.node.length).map vs')[x.to]? = some (.slice ao (webDns r (L.take j) (webUps r (seg h.upF h.up r) (webTo h r)) x.to).length cap) := by rw [List.getElem?_map, List.getElem?_range (by omega), ← hvs]; rfl
              have hx32 : x.to < 4294967296 := by omega
              refine weave_app13 (r := r) (tn := x.to) (wt := x.wt) _ (fun _ _ t _ _ hq => by cases t <;> exact hq) q3 v0 v1 HW3.out.o hidx (by omega) hL (fun q hq => ⟨by have := hne q hq; omega, by have := hlt0 q hq; omega, (hne q hq).2⟩) (by omega) (by omega) hm hx32 ?_
              intro t76 t77 t78 t79 t80 t81 t82 t83 t84 t85 t86 t87 t88 t89 t90 t91 t92 ao2 cap2 w6 hown6 hblk6 hcells6 honly6
              rw [← hvs] at hblk6 honly6
              have hone : Only ((w.heap.size + 1 + 1) :: (vs' x.to).ownBlock.toList) wq w6 := honly6
              have hnew := HW3.out.app hx2 (r, x.wt) _ (by omega) (by omega) hown6 hblk6 hcells6 honly6
              have hnm : ∀ b, b < w.heap.size + 1 + 1 ∨ b = w.heap.size + 1 + 1 + 1 → b ∉ ((w.heap.size + 1 + 1) :: (vs' x.to).ownBlock.toList) := fun b hb hm2 => by
                rw [List.mem_cons] at hm2
                rcases hm2 with e | e
                · omega
                · have := (HW3.out.lo x.to hx2 b (by simpa using e)).1
                  omega
              have hx6 := HX3.out.kept hone (hnm _ (.inl (by omega)))
              have hr6 := HR3.out.kept hone (hnm _ (.inl (by omega)))
              have hc6 := HC3.out.kept hone (hnm _ (.inr rfl))
              have hb6 : Below w.heap.size w w6 := HB3.out.trans (hone.below HB3.out.size (fun q hq => by
                rw [List.mem_cons] at hq
                rcases hq with e | e
                · omega
                · have := (HW3.out.lo x.to hx2 q (by simpa using e)).1
                  omega))
              have hS : putS (webDns r (L.take j) (webUps r (seg h.upF h.up r) (webTo h r))) x.to (r, x.wt) = webDns r (L.take (j + 1)) (webUps r (seg h.upF h.up r) (webTo h r)) := by
                rw [List.take_add_one, HXJ.out]
                simp only [webDns, Option.toList_some, List.foldl_append, List.foldl_cons, List.foldl_nil]
              rw [hS] at hnew
              have HW6 := Lib.hid hnew
              have HX6 := Lib.hid hx6
              have HR6 := Lib.hid hr6
              have HC6 := Lib.hid hc6
              have HB6 := Lib.hid hb6
              clear hown6 hblk6 hcells6 honly6 hone hnew hnm hx6 hr6 hc6 hb6 hS hidx hL hne hlt0 HW3 HX3 HR3 HC3 HB3 HL3 v0 v1 q3
              try dsimp only [Exit.then]
              go_wp2_with fail
              rw [← EA.out]
              go_roundg (hi - lo - (j + 1))
              case measure => rw [HGJ.out]; omega
              case rel => exact ⟨j + 1, _, by go_num, by omega, rfl, HW6.out, HX6.out, HR6.out, HC6.out, HB6.out⟩
            · obtain rfl : j = hi - lo := by omega
              have hfull := HW.out
              rw [List.take_of_length_le (by rw [LL.out]; exact Nat.le_refl _), ← HSEG.out] at hfull
              clear HW HSEG LL HSUB HUP HBND
              have HW := Lib.hid hfull
              clear hfull
              go_wp2_with fail
              go_roundg (h.node.length - (r + 1))
              case measure => rw [HGR.out]; omega
              case rel => exact ⟨r + 1, _, by go_num, by omega, rfl, HW.out, HX.out, HR.out, HC.out, HB.out⟩
    · obtain rfl : r = h.node.length := by omega
      have z0 : wp.cell? ⟨w.heap.size + 1, 0, none⟩ = some (.slice none 0 0) := HR.out.cell rfl
      have y0 : wp.cell? ⟨w.heap.size + 1 + 1 + 1, 0, none⟩ = some (.slice (some ⟨w.heap.size + 1 + 1, 0, none⟩) h.node.length h.node.length) := HC.out.cell rfl
      have g0 := HR.out.frozen 0
      have lr := HR.out.lt
      go_wp2
      refine bodyPost_ret (results_c rfl _ _ (w.heap.size + 1) 87 [.slice (some ⟨w.heap.size + 1 + 1, 0, none⟩) h.node.length h.node.length] _ rfl (HR.out.set 0 _) Tryz.underlying87 rfl (by rw [Tryz.sizeWeb]; rfl)) rfl ?_
      exact ⟨w.heap.size + 1 + 1, w.heap.size + 4, vs, rfl, HW.out.kept (bs := [w.heap.size + 1]) ((Only.refl _ _).setCell (.inl (by simp)) _) (by simp) (fun q hq => by simp at hq; omega), by omega, by omega, HB.out.setCell (p := ⟨w.heap.size + 1, 0, none⟩) (by simp) _⟩
end Go.Proofs.YtblkkjfpggcgfaaGreatDoor
