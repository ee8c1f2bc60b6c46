/- The contract of unpack's back. -/
import Derived.Test.YtchhbgckonpedaaGreatDoorU2
import Derived.Test.YtchhbgckonpedaaGreatDoorM7
namespace Go.Proofs.YtchhbgckonpedaaGreatDoor
open Go.ChangeShapes Go.WideShapes Go.ChangeAt Go.RowKit Go.Joins Go.Deep

theorem Tryz.zeroU64S (w : World) : (zeroValue 45).run Tryz.prog w = .ok (.int .u64 0) w := by kernel_rfl
/-- The distances of what was seen, as far as the list has been gone through. -/
def distV (L : List SeenD) (q : Nat) : Option Value := (L.find? (fun x => x.rank == q)).map fun x => .int .u64 x.dist
theorem distV_push {L : List SeenD} {x : SeenD} (hx : ∀ y ∈ L, y.rank ≠ x.rank) (q : Nat) : (if q = x.rank then some (Value.int .u64 x.dist) else distV L q) = distV (L ++ [x]) q := by
  unfold distV
  rw [List.find?_append]
  by_cases e : q = x.rank
  · subst e
    rw [if_pos rfl]
    have h1 : L.find? (fun y => y.rank == x.rank) = none := by
      rw [List.find?_eq_none]
      intro y hy
      simpa using hx y hy
    rw [h1]
    simp
  · rw [if_neg e]
    have h2 : [x].find? (fun y => y.rank == q) = none := by
      rw [List.find?_eq_none]
      intro y hy
      simp only [List.mem_singleton] at hy
      subst hy
      simpa using fun c => e c.symm
    rw [h2, Option.or_none]
/-- The list that climb gives. -/
structure SeenIs (n : Nat) (D : Nat → Option Int) (L : List SeenD) : Prop where
  map : L.map (fun x => (x.rank, x.dist)) = seenOf n D
theorem SeenIs.mem {n : Nat} {D : Nat → Option Int} {L : List SeenD} (h : SeenIs n D L) {x : SeenD} (hx : x ∈ L) : x.rank < n ∧ D x.rank = some x.dist := by
  have : (x.rank, x.dist) ∈ seenOf n D := by rw [← h.map]; exact List.mem_map.2 ⟨x, hx, rfl⟩
  unfold seenOf at this
  rw [List.mem_filterMap] at this
  obtain ⟨r, hr, h1⟩ := this
  rw [Option.map_eq_some_iff] at h1
  obtain ⟨d, hd, h2⟩ := h1
  simp only [Prod.mk.injEq] at h2
  obtain ⟨rfl, rfl⟩ := h2
  exact ⟨List.mem_range.1 hr, hd⟩
theorem SeenIs.has {n : Nat} {D : Nat → Option Int} {L : List SeenD} (h : SeenIs n D L) {r : Nat} {d : Int} (hr : r < n) (hd : D r = some d) : ∃ x ∈ L, x.rank = r ∧ x.dist = d := by
  have : (r, d) ∈ seenOf n D := List.mem_filterMap.2 ⟨r, List.mem_range.2 hr, by rw [hd]; rfl⟩
  rw [← h.map, List.mem_map] at this
  obtain ⟨x, hx, e⟩ := this
  simp only [Prod.mk.injEq] at e
  exact ⟨x, hx, e.1, e.2⟩
theorem SeenIs.nodup {n : Nat} {D : Nat → Option Int} {L : List SeenD} (h : SeenIs n D L) : (L.map (·.rank)).Nodup := by
  have e : L.map (·.rank) = (seenOf n D).map (·.1) := by rw [← h.map, List.map_map]; rfl
  rw [e]
  unfold seenOf
  have key : ∀ l : List Nat, l.Nodup → ((l.filterMap fun r => (D r).map fun d => (r, d)).map (·.1)).Nodup ∧ ∀ x ∈ ((l.filterMap fun r => (D r).map fun d => (r, d)).map (·.1)), x ∈ l := by
    intro l
    induction l with
    | nil => intro _; simp
    | cons a l ih =>
      intro hl
      rw [List.nodup_cons] at hl
      obtain ⟨h1, h2⟩ := ih hl.2
      rw [List.filterMap_cons]
      cases hD : D a with
      | none => simp only [Option.map_none]; exact ⟨h1, fun x hx => List.mem_cons_of_mem _ (h2 x hx)⟩
      | some d =>
        simp only [Option.map_some, List.map_cons, List.nodup_cons]
        exact ⟨⟨fun hx => hl.1 (h2 a hx), h1⟩, fun x hx => by
          rcases List.mem_cons.1 hx with rfl | hx
          · simp
          · exact List.mem_cons_of_mem _ (h2 x hx)⟩
  exact (key _ List.nodup_range).1
theorem SeenIs.fresh {n : Nat} {D : Nat → Option Int} {L : List SeenD} (h : SeenIs n D L) {k : Nat} {x : SeenD} (hx : L[k]? = some x) : ∀ y ∈ L.take k, y.rank ≠ x.rank := by
  intro y hy e
  obtain ⟨j, hj⟩ := List.getElem?_of_mem hy
  rw [List.getElem?_take] at hj
  split at hj
  · rename_i hjk
    have hn := h.nodup
    rw [List.nodup_iff_pairwise_ne, List.pairwise_iff_getElem] at hn
    obtain ⟨h1, h2⟩ := List.getElem?_eq_some_iff.1 hj
    obtain ⟨h3, h4⟩ := List.getElem?_eq_some_iff.1 hx
    have := hn j k (by simpa using h1) (by simpa using h3) hjk
    simp only [List.getElem_map, h2, h4] at this
    exact this e
  · cases hj
theorem SeenIs.dist {n : Nat} {D : Nat → Option Int} {L : List SeenD} (h : SeenIs n D L) {r : Nat} {d : Int} (hr : r < n) (hd : D r = some d) : distV L r = some (.int .u64 d) := by
  unfold distV
  cases hf : L.find? (fun x => x.rank == r) with
  | none =>
    rw [List.find?_eq_none] at hf
    obtain ⟨x, hx, e1, -⟩ := h.has hr hd
    exact absurd (by simpa using e1) (hf x hx)
  | some x =>
    have h1 := List.find?_some hf
    have h2 := List.mem_of_find?_eq_some hf
    simp only [beq_iff_eq] at h1
    have h3 := (h.mem h2).2
    rw [h1, hd] at h3
    simp only [Option.some.injEq] at h3
    rw [Option.map_some, h3]

/-- A link of a rank that was seen leads to at, and is as long. -/
def BackHit (first : List Nat) (links : List LinkD) (at_ : Nat) (e : Int) (x : SeenD) (i : Nat) : Prop :=
  first.getD x.rank 0 ≤ i ∧ i < first.getD (x.rank + 1) 0 ∧ ∃ l, links[i]? = some l ∧ l.to = at_ ∧ x.dist + l.wt = e
/-- What back answers. -/
def BackPost (first : List Nat) (links : List LinkD) (D : Nat → Option Int) (at_ : Nat) (e : Int) (w : World) (en : Ending) (w' : World) : Prop :=
  ∃ (x : SeenD) (i : Nat), en = .returned (.tuple #[.int .i64 (x.rank : Nat), .int .i64 (i : Nat)]) ∧ D x.rank = some x.dist ∧ BackHit first links at_ e x i ∧ Below w.heap.size w w'
theorem seg_get {first : List Nat} {links : List LinkD} {r : Nat} {l : LinkD} (h : l ∈ seg first links r) : ∃ i, first.getD r 0 ≤ i ∧ i < first.getD (r + 1) 0 ∧ links[i]? = some l := by
  unfold seg at h
  obtain ⟨j, hj⟩ := List.getElem?_of_mem h
  rw [List.getElem?_drop, List.getElem?_take] at hj
  split at hj
  · exact ⟨_, by omega, by omega, hj⟩
  · cases hj
theorem seg_of {first : List Nat} {links : List LinkD} {r i : Nat} {l : LinkD} (h1 : first.getD r 0 ≤ i) (h2 : i < first.getD (r + 1) 0) (hl : links[i]? = some l) : l ∈ seg first links r := by
  unfold seg
  refine List.mem_of_getElem? (i := i - first.getD r 0) ?_
  rw [List.getElem?_drop, List.getElem?_take, if_pos (by omega), show first.getD r 0 + (i - first.getD r 0) = i by omega]
  exact hl
theorem back_has {n : Nat} {first : List Nat} {links : List LinkD} {s : Nat} {D : Nat → Option Int} {L : List SeenD} (h : IsD n first links s D) (hs : SeenIs n D L) {at_ : Nat} {e : Int} (hne : at_ ≠ s) (he : D at_ = some e) : ∃ (k : Nat) (x : SeenD) (i : Nat), L[k]? = some x ∧ BackHit first links at_ e x i := by
  obtain ⟨r, d, l, hr, hd, hl, hto, rfl⟩ := h.bwd at_ e hne he
  obtain ⟨x, hx, rfl, rfl⟩ := hs.has hr hd
  obtain ⟨k, hk⟩ := List.getElem?_of_mem hx
  obtain ⟨i, h1, h2, h3⟩ := seg_get hl
  exact ⟨k, x, i, hk, h1, h2, l, h3, hto, rfl⟩

set_option maxRecDepth 100000 in
set_option maxHeartbeats 4000000 in
theorem back_any (n : Nat) (first : List Nat) (links : List LinkD) (s : Nat) (D : Nat → Option Int) (L : List SeenD) (at_ : Nat) (e : Int) (af al ax : Option Addr) (cf ck0 cs : Nat) (w : World)
    (sf : See w af cf u32Cells 1 first) (sl : See w al ck0 linkCells 4 links) (ss : See w ax cs seenCells 3 L) (bf : ∀ x ∈ first, x < 4294967296) (bl : ∀ l ∈ links, l.ok) (ok : HalfOk n first links) (hD : IsD n first links s D) (hL : SeenIs n D L)
    (hn : n ≤ 65536) (hk : links.length ≤ 1048576) (hat : at_ < n) (hne : at_ ≠ s) (he : D at_ = some e) :
    Calls Tryz.prog 70 #[.slice af first.length cf, .slice al links.length ck0, .slice ax L.length cs, .int .i64 at_] w (BackPost first links D at_ e w) := by
  have hbnd := hD.bnd ok
  have hfl := ok.len
  obtain ⟨b1, o1, rfl, lb1, cc1⟩ := see_one (f := fun (n : Nat) => Value.int .u32 n) sf (by omega)
  have CF := Lib.hid cc1
  have hm0 : MapI (w.alloc (.map #[] 0)) w.heap.size (fun _ => none) := MapI.made w
  have hb0 : Below w.heap.size w (w.alloc (.map #[] 0)) := (Below.refl _ _).alloc (Nat.le_refl _) _
  have hmm := fun t w => run_makeMap (P := Tryz.prog) t w
  obtain ⟨w0, hw0⟩ : ∃ w0 : World, w.alloc (.map #[] 0) = w0 := ⟨_, rfl⟩
  have hs0 : w0.heap.size = w.heap.size + 1 := by rw [← hw0]; simp
  rw [hw0] at hm0 hb0
  have HM0 := Lib.hid hm0
  have HB0 := Lib.hid hb0
  have HS0 := Lib.hid hs0
  have HW := Lib.hid hw0
  have SF := Lib.hid sf
  have SL := Lib.hid sl
  have SS := Lib.hid ss
  have BF := Lib.hid bf
  have BL := Lib.hid bl
  have OK := Lib.hid ok
  have ID := Lib.hid hD
  have IL := Lib.hid hL
  have HE := Lib.hid he
  have HBN := Lib.hid hbnd
  have hLl : L.length ≤ 65536 := by
    have h1 := congrArg List.length hL.map
    rw [List.length_map] at h1
    have h2 : (seenOf n D).length ≤ n := by
      unfold seenOf
      exact Nat.le_trans (List.length_filterMap_le _ _) (by simp)
    omega
  have hh := back_has hD hL hne he
  have HH := Lib.hid hh
  clear sf sl ss bf bl ok hD hL he hm0 hb0 hs0 hw0 hbnd cc1 hh
  go_enter Tryz.func70, Tryz.ntmps70
  go_wp2_with fail
  clear hmm
  rw [show w.alloc (.map #[] 0) = w0 from HW.out]
  go_loopg [19] L.length (fun g vi wr => ∃ k : Nat, vi = .int .i64 (k : Int) ∧ k ≤ L.length ∧ g = L.length - k ∧ MapI wr w.heap.size (distV (L.take k)) ∧ Below w.heap.size w wr)
  case atStart => exact ⟨0, rfl, Nat.zero_le _, rfl, HM0.out.congr (fun q => by simp [distV]), HB0.out⟩
  case round =>
    obtain ⟨k, rfl, hkk, hg, hm, hb⟩ := hrel
    have HG := Lib.hid hg
    have HM := Lib.hid hm
    have HB := Lib.hid hb
    clear hg hm hb
    by_cases hkl : k < L.length
    · obtain ⟨x, hx⟩ : ∃ x, L[k]? = some x := ⟨_, List.getElem?_eq_getElem hkl⟩
      obtain ⟨hxn, hxd⟩ := IL.out.mem (List.mem_of_getElem? hx)
      obtain ⟨b, o, ea, cc⟩ := SS.out.cell k x hx
      have e0 := ck HB.out (cc 0 _ rfl)
      have e1 := ck HB.out (cc 1 _ rfl)
      have e2 := ck HB.out (cc 2 _ rfl)
      rw [Nat.add_zero] at e0
      have lb := block_lt e0
      have EA := Lib.hid ea
      have hfr := IL.out.fresh hx
      have htk : L.take (k + 1) = L.take k ++ [x] := by rw [List.take_add_one, hx]; rfl
      obtain ⟨wq, hwq⟩ : ∃ wq : World, wr.alloc (.cells (seenCells x).toArray 155) = wq := ⟨_, rfl⟩
      have hoo : Below wr.heap.size wr wq := by rw [← hwq]; exact (Below.refl _ _).alloc (Nat.le_refl _) _
      have hbx : Cells wq wr.heap.size 155 (seenCells x) := by rw [← hwq]; exact Cells.new wr _ _
      have v0 : wq.cell? ⟨wr.heap.size, 0, none⟩ = some (.int .i64 (x.rank : Nat)) := hbx.cell rfl
      have v1 : wq.cell? ⟨wr.heap.size, 1, none⟩ = some (.int .u64 x.dist) := hbx.cell rfl
      have lx := hbx.lt
      obtain ⟨w6, hup, hm6, ho6⟩ := (HM.out.below hoo).put (P := Tryz.prog) Tryz.underlying184 Tryz.underlying3 (r := x.rank) (by omega) (.int .u64 x.dist)
      have HM6 := Lib.hid (show MapI w6 w.heap.size (distV (L.take (k + 1))) from hm6.congr (fun q => by rw [htk]; exact distV_push hfr q))
      have HB6 := Lib.hid (show Below w.heap.size w w6 from (HB.out.trans (hoo.mono HB.out.size)).trans (ho6.below (by have := HB.out.size; have := hoo.size; omega) (by simp)))
      have HWQ := Lib.hid hwq
      clear hx hxd ea cc hfr htk hwq hoo hbx hm6 ho6
      rw [EA.out]
      go_upto_region 5 with fail
      rw [show wr.alloc (.cells #[.int .i64 (x.rank : Nat), .int .u64 x.dist, .bool x.st] 155) = wq from HWQ.out]
      go_wp2_with fail
      rw [← EA.out]
      go_roundg (L.length - (k + 1))
      case measure => rw [HG.out]; omega
      case rel => exact ⟨k + 1, by go_num, by omega, rfl, HM6.out, HB6.out⟩
    · obtain rfl : k = L.length := by omega
      rw [List.take_length] at HM
      go_wp2_with fail
      obtain ⟨wo, rfl⟩ : ∃ wo : World, wo = wr := ⟨_, rfl⟩
      go_loopg [31] L.length (fun g vi wr => ∃ k : Nat, vi = .int .i64 (k : Int) ∧ k ≤ L.length ∧ g = L.length - k ∧ (∃ (j : Nat) (x : SeenD) (i : Nat), k ≤ j ∧ L[j]? = some x ∧ BackHit first links at_ e x i) ∧ MapI wr w.heap.size (distV L) ∧ Below w.heap.size w wr)
      case atStart =>
        obtain ⟨j, x, i, hj, hit⟩ := HH.out
        exact ⟨0, rfl, Nat.zero_le _, rfl, ⟨j, x, i, Nat.zero_le _, hj, hit⟩, HM.out, HB.out⟩
      case round =>
        obtain ⟨k, rfl, hkk, hg, hex, hm, hb⟩ := hrel
        have hkl : k < L.length := by
          obtain ⟨j, x, i, h1, h2, -⟩ := hex
          have := (List.getElem?_eq_some_iff.1 h2).1
          omega
        have HG := Lib.hid hg
        have HEX := Lib.hid hex
        have HM := Lib.hid hm
        have HB := Lib.hid hb
        clear hg hm hb hex
        obtain ⟨x, hx⟩ : ∃ x, L[k]? = some x := ⟨_, List.getElem?_eq_getElem hkl⟩
        obtain ⟨hxn, hxd⟩ := IL.out.mem (List.mem_of_getElem? hx)
        obtain ⟨hx0, hx1⟩ := HBN.out _ _ hxd
        have hx2 : x.dist ≤ 9223231299366420480 := by omega
        obtain ⟨b, o, ea, cc⟩ := SS.out.cell k x hx
        have e0 := ck HB.out (cc 0 _ rfl)
        have e1 := ck HB.out (cc 1 _ rfl)
        have e2 := ck HB.out (cc 2 _ rfl)
        rw [Nat.add_zero] at e0
        have lb := block_lt e0
        have EA := Lib.hid ea
        obtain ⟨wq, hwq⟩ : ∃ wq : World, wr.alloc (.cells (seenCells x).toArray 155) = wq := ⟨_, rfl⟩
        have hoo : Below wr.heap.size wr wq := by rw [← hwq]; exact (Below.refl _ _).alloc (Nat.le_refl _) _
        have hbx : Cells wq wr.heap.size 155 (seenCells x) := by rw [← hwq]; exact Cells.new wr _ _
        have v0 : wq.cell? ⟨wr.heap.size, 0, none⟩ = some (.int .i64 (x.rank : Nat)) := hbx.cell rfl
        have lx := hbx.lt
        have HBX := Lib.hid hbx
        have HMQ := Lib.hid (HM.out.below hoo)
        have HBQ := Lib.hid (show Below w.heap.size w wq from HB.out.trans (hoo.mono HB.out.size))
        have HWQ := Lib.hid hwq
        have HXL := Lib.hid hx
        have HXD := Lib.hid hxd
        obtain ⟨lo, hlo⟩ : ∃ lo, first[x.rank]? = some lo := ⟨_, List.getElem?_eq_getElem (by omega)⟩
        obtain ⟨hi, hhi⟩ : ∃ hi, first[x.rank + 1]? = some hi := ⟨_, List.getElem?_eq_getElem (by omega)⟩
        have glo : first.getD x.rank 0 = lo := by rw [List.getD_eq_getElem?_getD, hlo]; rfl
        have ghi : first.getD (x.rank + 1) 0 = hi := by rw [List.getD_eq_getElem?_getD, hhi]; rfl
        have hlh : lo ≤ hi := by rw [← glo, ← ghi]; exact OK.out.mono x.rank hxn
        have hhl : hi ≤ links.length := by rw [← ghi]; exact OK.out.last (x.rank + 1) (by omega)
        have cl := ck HBQ.out (CF.out x.rank lo hlo)
        have hil : x.rank < first.length := by omega
        have hil1 : x.rank + 1 < first.length := by omega
        have HLO := Lib.hid glo
        have HHI := Lib.hid ghi
        have CH := Lib.hid (CF.out (x.rank + 1) hi hhi)
        clear hx hxd hx1 ea cc hwq hoo hbx hlo hhi glo ghi
        rw [EA.out]
        go_upto_region 10 with fail
        rw [show wr.alloc (.cells #[.int .i64 (x.rank : Nat), .int .u64 x.dist, .bool x.st] 155) = wq from HWQ.out]
        go_wp2_with fail
        go_loopg [15] (hi - lo) (fun g vi wr2 => ∃ i : Nat, vi = .int .u32 (i : Int) ∧ lo ≤ i ∧ i ≤ hi ∧ g = hi - i ∧ (∀ i', i' < i → ¬ BackHit first links at_ e x i') ∧ Below wq.heap.size wq wr2)
        case atStart => exact ⟨lo, rfl, Nat.le_refl _, hlh, rfl, fun i' h1 h2 => by have := h2.1; rw [HLO.out] at this; omega, Below.refl _ _⟩
        case round =>
          obtain ⟨i, rfl, hi1, hi2, hgi, hno, hbi⟩ := hrel
          have HGI := Lib.hid hgi
          have HNO := Lib.hid hno
          have HBI := Lib.hid hbi
          have u0 : wr.cell? ⟨_, 0, none⟩ = some (.int .i64 (x.rank : Nat)) := (HBX.out.below hbi HBX.out.lt).cell rfl
          have u1 : wr.cell? ⟨_, 1, none⟩ = some (.int .u64 x.dist) := (HBX.out.below hbi HBX.out.lt).cell rfl
          have lu := (HBX.out.below hbi HBX.out.lt).lt
          have ch := ck ((HBQ.out.trans (hbi.mono HBQ.out.size))) CH.out
          clear hgi hno hbi
          by_cases hlt : i < hi
          · obtain ⟨l, hl⟩ : ∃ l, links[i]? = some l := ⟨_, List.getElem?_eq_getElem (by omega)⟩
            obtain ⟨b3, o3, ea3, cc3⟩ := SL.out.cell i l hl
            have hbb := HBQ.out.trans (HBI.out.mono HBQ.out.size)
            have l0 := ck hbb (cc3 0 _ rfl)
            have l1 := ck hbb (cc3 1 _ rfl)
            have l2 := ck hbb (cc3 2 _ rfl)
            have l3 := ck hbb (cc3 3 _ rfl)
            rw [Nat.add_zero] at l0
            have lb3 := block_lt l0
            have hil3 : i < links.length := by omega
            obtain ⟨hk1, hk2, -, -⟩ := BL.out l (List.mem_of_getElem? hl)
            have hseg : l ∈ seg first links x.rank := seg_of (by rw [HLO.out]; exact hi1) (by rw [HHI.out]; exact hlt) hl
            have hup := OK.out.up x.rank hxn l hseg
            have hwt := hup.2.2
            have hsum := IntWalk.u64_in (x.dist + (l.wt : Int)) (by omega)
            have hlk : ∀ q, (Instr.lookup 184 (.map (some w.heap.size)) (.int .i64 (at_ : Int)) false).run Tryz.prog (wr.drewN q) = .ok (.int .u64 e) (wr.drewN q) := fun q => by
              have h1 := ((HMQ.out.below HBI.out).below (below_drewN (Below.refl wr.heap.size wr) q)).look Tryz.underlying184 Tryz.underlying3 (Tryz.zeroU64S _) (r := at_) (by omega)
              rw [IL.out.dist hat HE.out] at h1
              exact h1
            have hd40 : decide ((i : Int) < (hi : Int)) = true := by simp; omega
            have EA3 := Lib.hid ea3
            have HL := Lib.hid hl
            clear hl ea3 cc3 hbb hseg hup
            rw [EA3.out]
            by_cases hto : l.to = at_
            · have dto : ((l.to : Int) == (at_ : Int)) = true := by simp; omega
              by_cases heq : x.dist + l.wt = e
              · have deq : ((x.dist + (l.wt : Int)) == e) = true := by simpa using heq
                have HT := Lib.hid hto
                have HQ := Lib.hid heq
                clear hto heq
                go_upto_region 13 with fail
                go_quiet (fail)
                go_wp2
                go_returns
                exact ⟨x, i, rfl, HXD.out, ⟨by rw [HLO.out]; exact hi1, by rw [HHI.out]; exact hlt, l, HL.out, HT.out, HQ.out⟩, below_drewN (HBQ.out.trans (HBI.out.mono HBQ.out.size)) _⟩
              · have deq : ((x.dist + (l.wt : Int)) == e) = false := by simpa using heq
                have NX := Lib.hid (show ∀ i', i' < i + 1 → ¬ BackHit first links at_ e x i' from fun i' h1 h2 => by
                  rcases Nat.lt_or_ge i' i with h3 | h3
                  · exact HNO.out i' h3 h2
                  · obtain rfl : i' = i := by omega
                    obtain ⟨-, -, l', h4, h5, h6⟩ := h2
                    rw [HL.out] at h4
                    simp only [Option.some.injEq] at h4
                    subst h4
                    exact heq h6)
                clear heq
                clear hto
                go_upto_region 13 with fail
                go_quiet (fail)
                go_wp2_with fail
                rw [← EA3.out]
                go_roundg (hi - (i + 1))
                case measure => rw [HGI.out]; omega
                case rel => exact ⟨i + 1, by go_num, by omega, by omega, rfl, NX.out, below_drewN HBI.out _⟩
            · have dto : ((l.to : Int) == (at_ : Int)) = false := by simp; omega
              have NX := Lib.hid (show ∀ i', i' < i + 1 → ¬ BackHit first links at_ e x i' from fun i' h1 h2 => by
                rcases Nat.lt_or_ge i' i with h3 | h3
                · exact HNO.out i' h3 h2
                · obtain rfl : i' = i := by omega
                  obtain ⟨-, -, l', h4, h5, h6⟩ := h2
                  rw [HL.out] at h4
                  simp only [Option.some.injEq] at h4
                  subst h4
                  exact hto h5)
              clear hto
              go_upto_region 13 with fail
              go_quiet (fail)
              go_wp2_with fail
              rw [← EA3.out]
              go_roundg (hi - (i + 1))
              case measure => rw [HGI.out]; omega
              case rel => exact ⟨i + 1, by go_num, by omega, by omega, rfl, NX.out, below_drewN HBI.out _⟩
          · obtain rfl : i = hi := by omega
            have hd40 : decide ((i : Int) < (i : Int)) = false := by simp
            go_wp2_with fail
            rw [← EA.out]
            go_roundg (L.length - (k + 1))
            case measure => rw [HG.out]; omega
            case rel =>
              refine ⟨k + 1, by go_num, by omega, rfl, ?_, HMQ.out.below HBI.out, HBQ.out.trans (HBI.out.mono HBQ.out.size)⟩
              obtain ⟨j, y, i', h1, h2, h3⟩ := HEX.out
              refine ⟨j, y, i', ?_, h2, h3⟩
              rcases Nat.lt_or_ge k j with h4 | h4
              · exact h4
              · obtain rfl : j = k := by omega
                rw [HXL.out] at h2
                simp only [Option.some.injEq] at h2
                subst h2
                have h5 := h3.2.1
                rw [HHI.out] at h5
                exact absurd h3 (HNO.out i' h5)
end Go.Proofs.YtchhbgckonpedaaGreatDoor

/- The contract of unpack's ways: links that follow one another from a rank up to a higher one, and down to a rank. -/
namespace Go.Proofs.YtchhbgckonpedaaGreatDoor
open Go.ChangeShapes Go.WideShapes Go.ChangeAt Go.RowKit Go.Joins Go.Deep

theorem flat_more {α : Type} (f : Nat → List α) (m : Nat) : ∀ k, ∃ rest, (List.range (m + k)).flatMap f = (List.range m).flatMap f ++ rest := by
  intro k
  induction k with
  | zero => exact ⟨[], by simp⟩
  | succ k ih =>
    obtain ⟨rest, h⟩ := ih
    refine ⟨rest ++ f (m + k), ?_⟩
    rw [← Nat.add_assoc, List.range_succ, List.flatMap_append, h, List.append_assoc]
    simp
theorem flat_row {α : Type} (f : Nat → List α) {n r i : Nat} (hr : r < n) (h1 : ((List.range r).flatMap f).length ≤ i) (h2 : i < ((List.range (r + 1)).flatMap f).length) : ∃ x, ((List.range n).flatMap f)[i]? = some x ∧ x ∈ f r := by
  obtain ⟨rest, e⟩ := flat_more f (r + 1) (n - (r + 1))
  rw [show r + 1 + (n - (r + 1)) = n by omega] at e
  have e2 : (List.range (r + 1)).flatMap f = (List.range r).flatMap f ++ f r := by rw [List.range_succ, List.flatMap_append]; simp
  rw [e2, List.length_append] at h2
  have h3 : i - ((List.range r).flatMap f).length < (f r).length := by omega
  refine ⟨(f r)[i - ((List.range r).flatMap f).length], ?_, List.getElem_mem _⟩
  rw [e, List.getElem?_append_left (by rw [e2, List.length_append]; exact h2), e2, List.getElem?_append_right h1, List.getElem?_eq_getElem h3]
theorem up_link {h : HierD} (hc : checkErr h = .nil) {r i : Nat} {l : LinkD} (hr : r < h.node.length) (h1 : h.upF.getD r 0 ≤ i) (h2 : i < h.upF.getD (r + 1) 0) (hl : h.up[i]? = some l) :
    i < cntOf h ∧ (endAt h i).tail = r ∧ (endAt h i).head = l.to ∧ linkAt h i = l := by
  obtain ⟨u, d⟩ := parts_firsts hc
  have hi : i < h.up.length := (List.getElem?_eq_some_iff.1 hl).1
  have hlk : linkAt h i = l := by unfold linkAt; rw [if_pos hi, List.getD_eq_getElem?_getD, hl]; rfl
  have hcnt : i < cntOf h := by unfold cntOf; omega
  obtain ⟨x, hx, hm⟩ := flat_row (endsUp h.upF h.up) hr (by rw [endsUp_length u r (by omega)]; exact h1) (by rw [endsUp_length u (r + 1) (by omega)]; exact h2)
  have hrk : (endAt h i).rank = r := by
    unfold endAt endsOf
    rw [List.getD_eq_getElem?_getD, List.getElem?_append_left (by exact (List.getElem?_eq_some_iff.1 hx).1), hx, Option.getD_some]
    simp only [endsUp, List.mem_map] at hm
    obtain ⟨q, -, rfl⟩ := hm
    rfl
  obtain ⟨e1, e2⟩ := endAt_up hc hi
  exact ⟨hcnt, by rw [e1, hrk], by rw [e2, endAt_link hc hcnt, hlk], hlk⟩
theorem dn_link {h : HierD} (hc : checkErr h = .nil) {r i : Nat} {l : LinkD} (hr : r < h.node.length) (h1 : h.dnF.getD r 0 ≤ i) (h2 : i < h.dnF.getD (r + 1) 0) (hl : h.dn[i]? = some l) :
    h.up.length + i < cntOf h ∧ (endAt h (h.up.length + i)).tail = l.to ∧ (endAt h (h.up.length + i)).head = r ∧ linkAt h (h.up.length + i) = l := by
  obtain ⟨u, d⟩ := parts_firsts hc
  have hi : i < h.dn.length := (List.getElem?_eq_some_iff.1 hl).1
  have hlk : linkAt h (h.up.length + i) = l := by unfold linkAt; rw [if_neg (by omega), List.getD_eq_getElem?_getD, Nat.add_sub_cancel_left, hl]; rfl
  have hcnt : h.up.length + i < cntOf h := by unfold cntOf; omega
  have hul : ((List.range h.node.length).flatMap (endsUp h.upF h.up)).length = h.up.length := by rw [endsUp_length u _ (Nat.le_refl _), u.last]
  obtain ⟨x, hx, hm⟩ := flat_row (endsDn h.dnF h.dn) hr (by rw [endsDn_length d r (by omega)]; exact h1) (by rw [endsDn_length d (r + 1) (by omega)]; exact h2)
  have hrk : (endAt h (h.up.length + i)).rank = r := by
    unfold endAt endsOf
    rw [List.getD_eq_getElem?_getD, List.getElem?_append_right (by omega), hul, Nat.add_sub_cancel_left, hx, Option.getD_some]
    simp only [endsDn, List.mem_map] at hm
    obtain ⟨q, -, rfl⟩ := hm
    rfl
  obtain ⟨e1, e2⟩ := endAt_dn hc (i := h.up.length + i) (by omega) hcnt
  exact ⟨hcnt, by rw [e1, endAt_link hc hcnt, hlk], by rw [e2, hrk], hlk⟩
/-- Links that follow one another from s to t and weigh d. -/
structure WayIs (h : HierD) (l : List Nat) (s t : Nat) (d : Int) : Prop where
  lt : ∀ x ∈ l, x < cntOf h
  chain : Chain h l s t
  sum : (((l.map fun x => (linkAt h x).wt).sum : Nat) : Int) = d
theorem WayIs.nil (h : HierD) (s : Nat) : WayIs h [] s s 0 := ⟨by simp, rfl, rfl⟩
theorem WayIs.cons {h : HierD} {l : List Nat} {m t i : Nat} {d : Int} (w : WayIs h l m t d) (hi : i < cntOf h) {s : Nat} (h1 : (endAt h i).tail = s) (h2 : (endAt h i).head = m) : WayIs h (i :: l) s t ((linkAt h i).wt + d) :=
  ⟨fun x hx => by
    rcases List.mem_cons.1 hx with rfl | hx
    · exact hi
    · exact w.lt x hx, ⟨h1, by rw [h2]; exact w.chain⟩, by rw [List.map_cons, List.sum_cons, Int.natCast_add, w.sum]⟩
theorem WayIs.snoc {h : HierD} {l : List Nat} {s m i : Nat} {d : Int} (w : WayIs h l s m d) (hi : i < cntOf h) {t : Nat} (h1 : (endAt h i).tail = m) (h2 : (endAt h i).head = t) : WayIs h (l ++ [i]) s t (d + (linkAt h i).wt) :=
  ⟨fun x hx => by
    rcases List.mem_append.1 hx with hx | hx
    · exact w.lt x hx
    · rw [List.mem_singleton] at hx; subst hx; exact hi, w.chain.app ⟨h1, h2⟩, by rw [List.map_append, List.sum_append, Int.natCast_add, w.sum]; simp⟩
theorem Nats.fresh (w : World) (l : List Nat) (hl : l.length ≤ 1048576) : Nats w.heap.size (w.alloc (.cells (l.flatMap i64Cells).toArray 3)) (.slice (some ⟨w.heap.size, 0, none⟩) l.length l.length) l := by
  have hfl : (l.flatMap i64Cells).length = l.length * 1 := flat_length i64Cells_len l
  refine ⟨⟨hfl, .inr ⟨w.heap.size, l.length, (l.flatMap i64Cells).toArray, rfl, Nat.zero_le _, Cells.new w _ _, Nat.le_refl _, by unfold maxLen; omega, by simpa using hfl, by rw [← hfl, List.take_of_length_le (by simp)]⟩⟩, fun k hk => ?_⟩
  simp only [Value.ownBlock, Option.some.injEq] at hk
  omega
theorem back_lit (n : Nat) (first : List Nat) (links : List LinkD) (s : Nat) (D : Nat → Option Int) (L : List SeenD) (at_ : Nat) (e : Int) (af al ax : Option Addr) (nf nl ns cf ck0 cs : Nat) (w : World) (h1 : nf = first.length) (h2 : nl = links.length) (h3 : ns = L.length)
    (sf : See w af cf u32Cells 1 first) (sl : See w al ck0 linkCells 4 links) (ss : See w ax cs seenCells 3 L) (bf : ∀ x ∈ first, x < 4294967296) (bl : ∀ l ∈ links, l.ok) (ok : HalfOk n first links) (hD : IsD n first links s D) (hL : SeenIs n D L)
    (hn : n ≤ 65536) (hk : links.length ≤ 1048576) (hat : at_ < n) (hne : at_ ≠ s) (he : D at_ = some e) :
    Calls Tryz.prog 70 #[.slice af nf cf, .slice al nl ck0, .slice ax ns cs, .int .i64 at_] w (BackPost first links D at_ e w) := by
  subst h1 h2 h3
  exact back_any n first links s D L at_ e af al ax cf ck0 cs w sf sl ss bf bl ok hD hL hn hk hat hne he

def WaysPost (h : HierD) (s t : Nat) (d : Int) (w : World) (e : Ending) (w' : World) : Prop :=
  ∃ (l : List Nat) (ao : Option Addr) (cap : Nat), e = .returned (.tuple #[.slice ao l.length cap, .nilIface]) ∧ WayIs h l s t d ∧ l.length ≤ 131072 ∧ Nats w.heap.size w' (.slice ao l.length cap) l ∧ Below w.heap.size w w'
set_option maxRecDepth 100000 in
set_option maxHeartbeats 4000000 in
theorem ways_any (A : HA) (h : HierD) (s top t : Nat) (D E : Nat → Option Int) (a b : Int) (w : World) (see : HSee w A h) (hc : checkErr h = .nil) (htot : cntOf h ≤ 1048576) (hs : s < h.node.length) (ht : t < h.node.length)
    (hD : IsD h.node.length h.upF h.up s D) (hE : IsD h.node.length h.dnF h.dn t E) (ha : D top = some a) (hb : E top = some b) :
    Calls Tryz.prog 46 #[hierVal A h, .int .i64 s, .int .i64 top, .int .i64 t] w (WaysPost h s t (a + b) w) := by
  have SEE := Lib.hid see
  have HC := Lib.hid hc
  have HT := Lib.hid htot
  have HD := Lib.hid hD
  have HE := Lib.hid hE
  have HA := Lib.hid ha
  have HBB := Lib.hid hb
  have hn := (checkErr_parts hc).1.n
  have htop := hD.dom top a ha
  have hd63 : h.dn.length ≤ 1048576 := by unfold cntOf at htot; omega
  have hu63 : h.up.length ≤ 1048576 := by unfold cntOf at htot; omega
  have HX := Lib.hid (Cells.new w 25 (hierCells A h))
  have HB := Lib.hid ((Below.refl w.heap.size w).alloc (Nat.le_refl _) (.cells (hierCells A h).toArray 25))
  clear see hc htot hD hE ha hb
  unfold hierVal
  go_enter Tryz.func46, Tryz.ntmps46
  go_wp2_with fail
  refine (cup_any A h s _ (SEE.out.below HB.out) HC.out hs).mono ?_
  rintro e w1 ⟨a1, c1, L1, D1, rfl, hown1, hnew1, hD1, hm1, hb1⟩
  have hDD := fun r => hD1.unique (half_up HC.out) HD.out r
  have hDf : D1 = D := funext hDD
  subst hDf
  have HX1 := Lib.hid (HX.out.below hb1 HX.out.lt)
  have HB1 := Lib.hid (HB.out.trans (hb1.mono HB.out.size))
  have SS1 := Lib.hid (See.of_own seenCells_len hown1 (by omega)).1
  have HM1 := Lib.hid (SeenIs.mk hm1)
  obtain ⟨k0, k1, k2, k3, k4⟩ := hier_five HX1.out
  clear hown1 hnew1 hD1 hm1 hb1 hDD
  go_wp2_with fail
  refine (cdown_any A h t _ (SEE.out.below HB1.out) HC.out ht).mono ?_
  rintro e w2 ⟨a2, c2', L2, E1, rfl, hown2, hnew2, hE1, hm2, hb2⟩
  have hEE := fun r => hE1.unique (half_dn HC.out) HE.out r
  have hEf : E1 = E := funext hEE
  subst hEf
  have HX2 := Lib.hid (HX1.out.below hb2 HX1.out.lt)
  have HB2 := Lib.hid (HB1.out.trans (hb2.mono HB1.out.size))
  have SS2 := Lib.hid (SS1.out.below hb2)
  have ST2 := Lib.hid (See.of_own seenCells_len hown2 (by omega)).1
  have HM2 := Lib.hid (SeenIs.mk hm2)
  clear hown2 hnew2 hE1 hm2 hb2 hEE k0 k1 k2 k3 k4
  go_wp2_with fail
  go_loopg [13, 14] top (fun g vl va wr => ∃ (q : Nat) (c : Int) (l : List Nat) (ao : Option Addr) (cap : Nat), va = .int .i64 (q : Int) ∧ g = q ∧ D1 q = some c ∧ WayIs h l q top (a - c) ∧ l.length + q ≤ top ∧ vl = .slice ao l.length cap ∧ (l = [] → ao = none ∧ cap = 0) ∧ Nats w2.heap.size wr (.slice ao l.length cap) l ∧ Below w2.heap.size w2 wr)
  case atStart => exact ⟨top, a, [], none, 0, rfl, rfl, HA.out, by rw [Int.sub_self]; exact WayIs.nil h top, by simp, rfl, fun _ => ⟨rfl, rfl⟩, Nats.nil _ _, Below.refl _ _⟩
  case round =>
    obtain ⟨q, c, l, ao, cap, rfl, hg, hq, hw, hlen, rfl, hnil, hnat, hbl⟩ := hrel
    obtain ⟨wo, rfl⟩ : ∃ wo : World, wo = wr := ⟨_, rfl⟩
    have hqn := HD.out.dom q c hq
    have HG := Lib.hid hg
    have HQ := Lib.hid hq
    have HWW := Lib.hid hw
    have HN := Lib.hid hnat
    have HBL := Lib.hid hbl
    have hz := hbl.size
    obtain ⟨k0, k1, k2, k3, k4⟩ := hier_five (HX2.out.below hbl HX2.out.lt)
    clear hg hq hw hnat hbl
    by_cases hqs : q = s
    · have dq : ((q : Int) != (s : Int)) = false := by simp; omega
      have hW0 : WayIs h l s top a := by
        subst hqs
        have h0 := HD.out.src
        rw [HQ.out] at h0
        simp only [Option.some.injEq] at h0
        have := HWW.out
        rw [h0, Int.sub_zero] at this
        exact this
      have HW0 := Lib.hid hW0
      clear hW0 hnil hqs HWW HQ HG
      go_wp2_with fail
      go_loopg [13, 17] top (fun g vl va wr => ∃ (q : Nat) (c : Int) (l : List Nat) (ao : Option Addr) (cap : Nat), va = .int .i64 (q : Int) ∧ g = q ∧ q ≤ top ∧ E1 q = some c ∧ WayIs h l s q (a + b - c) ∧ l.length + q ≤ 2 * top ∧ vl = .slice ao l.length cap ∧ Nats w2.heap.size wr (.slice ao l.length cap) l ∧ Below w2.heap.size w2 wr)
      case atStart => exact ⟨top, b, l, ao, cap, rfl, rfl, Nat.le_refl _, HBB.out, by rw [show a + b - b = a by omega]; exact HW0.out, by omega, rfl, HN.out, HBL.out⟩
      case round =>
        obtain ⟨p, c2, l, ao, cap, rfl, hg, hpt, hq, hw, hlen2, rfl, hnat, hbl⟩ := hrel
        obtain ⟨wp, rfl⟩ : ∃ wp : World, wp = wr := ⟨_, rfl⟩
        have hqn := HE.out.dom p c2 hq
        have HG := Lib.hid hg
        have HQ := Lib.hid hq
        have HWW := Lib.hid hw
        have HN := Lib.hid hnat
        have HBL := Lib.hid hbl
        have hz := hbl.size
        obtain ⟨k0, k1, k2, k3, k4⟩ := hier_five (HX2.out.below hbl HX2.out.lt)
        clear hg hq hw hnat hbl
        by_cases hqs : p = t
        · have dq : ((p : Int) != (t : Int)) = false := by simp; omega
          have hW0 : WayIs h l s t (a + b) := by
            subst hqs
            have h0 := HE.out.src
            rw [HQ.out] at h0
            simp only [Option.some.injEq] at h0
            have := HWW.out
            rw [h0, Int.sub_zero] at this
            exact this
          have HW0 := Lib.hid hW0
          clear hW0 hqs HWW HQ HG
          go_wp2
          go_returns
          exact ⟨l, ao, cap, rfl, HW0.out, by omega, HN.out.mono HB2.out.size, HB2.out.trans (HBL.out.mono HB2.out.size)⟩
        · have dq : ((p : Int) != (t : Int)) = true := by simp; omega
          have HNQ := Lib.hid hqs
          clear hqs
          go_wp2_with fail
          have hsee := SEE.out.below (HB2.out.trans (HBL.out.mono HB2.out.size))
          refine (back_lit h.node.length h.dnF h.dn t E1 L2 p c2 A.a3 A.a4 a2 _ _ _ A.c3 A.c4 c2' _ rfl rfl rfl hsee.dnF hsee.dn (ST2.out.below HBL.out) hsee.bd hsee.bdn (half_dn HC.out) HE.out HM2.out hn hd63 hqn HNQ.out HQ.out).mono ?_
          rintro e w3 ⟨x, i, rfl, hxd, ⟨hi1, hi2, lk, hlk, hto, hsum⟩, hb3⟩
          have hxn := HE.out.dom _ _ hxd
          obtain ⟨hic, htl, hhd, hli⟩ := dn_link HC.out hxn hi1 hi2 hlk
          have hxq : x.rank < p := by have := (half_dn HC.out).up x.rank hxn lk (seg_of hi1 hi2 hlk); omega
          have hi20 : h.up.length + i < 1048576 := by have := HT.out; omega
          have hw3 : WayIs h (l ++ [h.up.length + i]) s x.rank (a + b - x.dist) := by
            have := HWW.out.snoc hic (by rw [htl, hto]) hhd
            rw [hli] at this
            have e : a + b - c2 + (lk.wt : Int) = a + b - x.dist := by omega
            rwa [e] at this
          have HW3 := Lib.hid hw3
          have HXD := Lib.hid hxd
          have hx3 := HX2.out.below (HBL.out.trans (hb3.mono hz)) HX2.out.lt
          obtain ⟨j0, j1, j2, j3, j4⟩ := hier_five hx3
          have HB3 := Lib.hid (HBL.out.trans (hb3.mono hz))
          have HN3 := Lib.hid (HN.out.below hb3)
          have hz3 := (HBL.out.trans (hb3.mono hz)).size
          have hll : l.length ≤ 131072 := by omega
          have hi0 : (h.up.length : Int) + (i : Int) ≤ 1048576 := by omega
          clear hxd hi1 hi2 hlk hto hsum hic htl hhd hli hw3 hb3 hsee k0 k1 k2 k3 k4 hx3
          go_wp2_with (at_builtin; refine wpList_app _ rfl _ _ 28 rfl 3 (.int .i64 0) 1 8 Tryz.underlying28 Tryz.infoInt rfl (by decide) (.slice ao l.length cap) l.length (l.flatMap i64Cells) rfl ?own ⟨w3.heap.size, 0, none⟩ 1 1 [.int .i64 ((h.up.length : Int) + (i : Int))] rfl rfl ?c1 ?c2 ?c3 ?c4 ?_)
          case own => exact own_kept (bs := []) HN3.out.own ((Only.refl _ w3).alloc _) (fun q _ => by simp)
          case c1 =>
            exact cells_new w3 3 [.int .i64 ((h.up.length : Int) + (i : Int))]
          case c2 => intro u hu; simp at hu; subst hu; rfl
          case c3 => unfold maxLen; omega
          case c4 => omega
          intro ao5 cap5 w5 hown5 ho5 hk5
          have hbw := HB3.out.alloc hz3 (.cells #[.int .i64 ((h.up.length : Int) + i)] 3)
          have hba := (Below.refl w3.heap.size w3).alloc (Nat.le_refl _) (.cells #[.int .i64 ((h.up.length : Int) + i)] 3)
          have hn5 : Nats w2.heap.size w5 (.slice ao5 (l.length + 1) cap5) (l ++ [h.up.length + i]) := (HN3.out.below hba).app [h.up.length + i] (m := 1) rfl (ao := ao5) (cap := cap5) (w5 := w5) (by simpa [i64Cells] using hown5) (by simpa using hk5) (by simp; omega)
          have hbl5 : Below w2.heap.size w2 w5 := hbw.trans (ho5.below hbw.size (fun q hq => HN3.out.new q (own_mem hq)))
          have HN5 := Lib.hid hn5
          have HB5 := Lib.hid hbl5
          clear hown5 ho5 hk5 hbw hba hn5 hbl5 j0 j1 j2 j3 j4
          go_wp2_with fail
          go_roundg x.rank
          case measure => rw [HG.out]; exact hxq
          case rel => exact ⟨x.rank, x.dist, l ++ [h.up.length + i], ao5, cap5, rfl, rfl, by omega, HXD.out, HW3.out, by simp; omega, by simp, by rw [List.length_append]; exact HN5.out, HB5.out⟩
    · have dq : ((q : Int) != (s : Int)) = true := by simp; omega
      have HNQ := Lib.hid hqs
      have HNI := Lib.hid hnil
      clear hqs hnil
      go_wp2_with fail
      have hsee := SEE.out.below (HB2.out.trans (HBL.out.mono HB2.out.size))
      refine (back_lit h.node.length h.upF h.up s D1 L1 q c A.a1 A.a2 a1 _ _ _ A.c1 A.c2 c1 _ rfl rfl rfl hsee.upF hsee.up (SS2.out.below HBL.out) hsee.bu hsee.bup (half_up HC.out) HD.out HM1.out hn hu63 hqn HNQ.out HQ.out).mono ?_
      rintro e w3 ⟨x, i, rfl, hxd, ⟨hi1, hi2, lk, hlk, hto, hsum⟩, hb3⟩
      have hxn := HD.out.dom _ _ hxd
      obtain ⟨hic, htl, hhd, hli⟩ := up_link HC.out hxn hi1 hi2 hlk
      have hxq : x.rank < q := by have := (half_up HC.out).up x.rank hxn lk (seg_of hi1 hi2 hlk); omega
      have hi20 : i < 1048576 := by have := HT.out; omega
      have hw3 : WayIs h (i :: l) x.rank top (a - x.dist) := by
        have := HWW.out.cons hic htl (by rw [hhd, hto])
        rw [hli] at this
        have e : (lk.wt : Int) + (a - c) = a - x.dist := by omega
        rwa [e] at this
      have HW3 := Lib.hid hw3
      have HXD := Lib.hid hxd
      have HB3 := Lib.hid (HBL.out.trans (hb3.mono hz))
      have HN3 := Lib.hid (HN.out.below hb3)
      have hz3 := (HBL.out.trans (hb3.mono hz)).size
      clear hxd hi1 hi2 hlk hto hsum hic htl hhd hli hw3 hb3 hsee k0 k1 k2 k3 k4
      cases l with
      | nil =>
        obtain ⟨rfl, rfl⟩ := HNI.out rfl
        rw [List.length_nil]
        have hfr := Nats.fresh w3 [i] (by simp)
        have hb4 := HB3.out.alloc hz3 (.cells #[.int .i64 i] 3)
        have HFR := Lib.hid (hfr.mono (show w2.heap.size ≤ w3.heap.size from hz3))
        have HB4 := Lib.hid hb4
        clear hfr hb4
        go_wp2_with fail
        go_roundg x.rank
        case measure => rw [HG.out]; exact hxq
        case rel => exact ⟨x.rank, x.dist, [i], some ⟨w3.heap.size, 0, none⟩, 1, rfl, rfl, HXD.out, HW3.out, by simp at hlen ⊢; omega, rfl, by simp, HFR.out, HB4.out⟩
      | cons y l =>
        obtain ⟨g2, cap2, e2, hg2, hg2s, hcell⟩ := HN3.out.block (by simp)
        simp only [Value.slice.injEq] at e2
        obtain ⟨rfl, -, rfl⟩ := e2
        have hfr := Nats.fresh w3 [i] (by simp)
        have HFR := Lib.hid (hfr.mono (show w2.heap.size ≤ w3.heap.size from hz3))
        have HCE := Lib.hid hcell
        have hll : (y :: l).length ≤ 65536 := by omega
        clear hfr hcell
        obtain ⟨m, hm⟩ : ∃ m, (y :: l).length = m := ⟨_, rfl⟩
        rw [hm] at hll ⊢
        have HM := Lib.hid hm
        clear hm
        go_wp2_with (at_builtin; refine wpList_app _ rfl _ _ 28 rfl 3 (.int .i64 0) 1 8 Tryz.underlying28 Tryz.infoInt rfl (by decide) (.slice (some ⟨w3.heap.size, 0, none⟩) 1 1) 1 (i64Cells i) rfl ?own ⟨g2, 0, none⟩ m cap ((y :: l).flatMap i64Cells) rfl ?cl ?c1 ?c2 ?c3 ?c4 ?_)
        case own => exact HFR.out.own
        case cl => rw [flat_length i64Cells_len, HM.out]
        case c1 =>
          intro j u hu
          have hu' : (List.flatMap i64Cells (y :: l))[j]? = some u := hu
          have hg := flat_get i64Cells_len (y :: l) j 0 (by decide)
          rw [Nat.mul_one, Nat.add_zero] at hg
          rw [hg, Option.bind_eq_some_iff] at hu'
          obtain ⟨z, hz1, hz2⟩ := hu'
          simp only [i64Cells, List.getElem?_cons_zero, Option.some.injEq] at hz2
          subst hz2
          have h1 := ck ((Below.refl w3.heap.size w3).alloc (Nat.le_refl _) (.cells #[.int .i64 i] 3)) (HCE.out j z hz1)
          have e : (⟨g2, 0, none⟩ : Addr).add j = ⟨g2, j, none⟩ := by unfold Addr.add; split <;> simp_all
          rw [e]
          exact h1
        case c2 =>
          intro u hu
          rw [List.mem_flatMap] at hu
          obtain ⟨z, -, hz⟩ := hu
          simp only [i64Cells, List.mem_singleton] at hz
          subst hz
          rfl
        case c3 => unfold maxLen; omega
        case c4 => omega
        intro ao5 cap5 w5 hown5 ho5 hk5
        have hbw := HB3.out.alloc hz3 (.cells #[.int .i64 i] 3)
        have hn5 : Nats w2.heap.size w5 (.slice ao5 (1 + m) cap5) ([i] ++ (y :: l)) := HFR.out.app (y :: l) HM.out (ao := ao5) (cap := cap5) (w5 := w5) hown5 (by simpa using hk5) (by simp; omega)
        have hbl5 : Below w2.heap.size w2 w5 := hbw.trans (ho5.below hbw.size (fun q hq => HFR.out.new q (own_mem hq)))
        have hlen5 : (i :: y :: l).length = 1 + m := by rw [List.length_cons, HM.out]; omega
        have HN5 := Lib.hid hn5
        have HB5 := Lib.hid hbl5
        have HL5 := Lib.hid hlen5
        have hlen6 : (i :: y :: l).length + x.rank ≤ top := by rw [hlen5]; have := HM.out; omega
        have HL6 := Lib.hid hlen6
        clear hown5 ho5 hk5 hbw hn5 hbl5 hlen5 hlen6 hlen
        go_wp2_with fail
        go_roundg x.rank
        case measure => rw [HG.out]; exact hxq
        case rel => exact ⟨x.rank, x.dist, i :: y :: l, ao5, cap5, rfl, rfl, HXD.out, HW3.out, HL6.out, by rw [HL5.out], by simp, by rw [HL5.out]; exact HN5.out, HB5.out⟩
end Go.Proofs.YtchhbgckonpedaaGreatDoor

/- The plain law of a path: nodes along links that follow one another, without loops. -/
namespace Go.Proofs.YtchhbgckonpedaaGreatDoor
open Go.ChangeShapes Go.WideShapes Go.ChangeAt Go.RowKit Go.Joins Go.Deep

/-- The step that a link makes, as nodes. -/
def stepOf (h : HierD) (x : Nat) : Nat × Nat := (nodeAt h (endAt h x).tail, nodeAt h (endAt h x).head)
theorem nodesL_cons (h : HierD) (x : Nat) (l : List Nat) : nodesL h (x :: l) = nodeAt h (endAt h x).tail :: (x :: l).map fun y => nodeAt h (endAt h y).head := rfl
theorem nodesL_steps {h : HierD} : ∀ (l : List Nat) (s t : Nat), Chain h l s t → l ≠ [] → steps (nodesL h l) = l.map (stepOf h) ∧ (nodesL h l).head? = some (nodeAt h s) ∧ (nodesL h l).getLast? = some (nodeAt h t) := by
  intro l
  induction l with
  | nil => intro s t _ h; exact absurd rfl h
  | cons x l ih =>
    intro s t hc _
    obtain ⟨h1, h2⟩ := hc
    cases l with
    | nil =>
      have e : (endAt h x).head = t := h2
      subst h1 e
      exact ⟨rfl, rfl, rfl⟩
    | cons y l =>
      obtain ⟨i1, i2, i3⟩ := ih _ _ h2 (by simp)
      have hy : (endAt h y).tail = (endAt h x).head := h2.1
      have e1 : nodesL h (x :: y :: l) = nodeAt h (endAt h x).tail :: nodesL h (y :: l) := by
        rw [nodesL_cons, nodesL_cons, List.map_cons, hy]
      refine ⟨?_, by rw [e1, h1]; rfl, by rw [e1, List.getLast?_cons, i3]; rfl⟩
      rw [e1, List.map_cons, ← i1]
      rw [nodesL_cons, hy]
      rfl
theorem stack_chain {h : HierD} (hc : checkErr h = .nil) : ∀ (l : List Nat) (s t : Nat), (∀ x ∈ l, x < cntOf h) → Chain h l s t → Chain h (stackOut h l) s t := by
  intro l
  induction l with
  | nil => intro s t _ h; exact h
  | cons x l ih =>
    intro s t hl hch
    unfold stackOut
    rw [List.flatMap_cons]
    obtain ⟨h1, h2⟩ := hch
    have := laysOf_chain hc x (hl x (by simp))
    rw [h1] at this
    exact this.app (ih _ _ (fun y hy => hl y (by simp [hy])) h2)
theorem stack_wt {h : HierD} (hc : checkErr h = .nil) : ∀ (l : List Nat), (∀ x ∈ l, x < cntOf h) → ((stackOut h l).map fun x => (linkAt h x).wt).sum = (l.map fun x => (linkAt h x).wt).sum := by
  intro l
  induction l with
  | nil => intro _; rfl
  | cons x l ih =>
    intro hl
    have := ih (fun y hy => hl y (by simp [hy]))
    unfold stackOut at this ⊢
    rw [List.flatMap_cons, List.map_append, List.sum_append, laysOf_wt hc x (hl x (by simp)), this, List.map_cons, List.sum_cons]
theorem stack_mem {h : HierD} (hc : checkErr h = .nil) {l : List Nat} (hl : ∀ x ∈ l, x < cntOf h) : ∀ y ∈ stackOut h l, y < cntOf h ∧ (linkAt h y).plain = true := by
  intro y hy
  unfold stackOut at hy
  rw [List.mem_flatMap] at hy
  obtain ⟨x, hx, h1⟩ := hy
  exact laysOf_mem hc x (hl x hx) y h1
theorem stack_ne {h : HierD} (hc : checkErr h = .nil) {l : List Nat} (hl : ∀ x ∈ l, x < cntOf h) (hn : l ≠ []) : stackOut h l ≠ [] := by
  cases l with
  | nil => exact absurd rfl hn
  | cons x l =>
    unfold stackOut
    rw [List.flatMap_cons]
    have := laysOf_pos hc x (hl x (by simp))
    intro e
    rw [List.append_eq_nil_iff] at e
    rw [e.1] at this
    simp at this
/-- A path from s to t over plain links, no longer than d. -/
structure PathIs (h : HierD) (s t : Nat) (d : Int) (p : List Nat) : Prop where
  head : p.head? = some s
  last : p.getLast? = some t
  nodup : p.Nodup
  links : ∃ ls : List Nat, (∀ x ∈ ls, x < cntOf h ∧ (linkAt h x).plain = true) ∧ steps p = ls.map (stepOf h) ∧ ((((ls.map fun x => (linkAt h x).wt).sum : Nat) : Int)) ≤ d
theorem PathIs.one (h : HierD) (s : Nat) {d : Int} (hd : 0 ≤ d) : PathIs h s s d [s] := ⟨rfl, rfl, by simp, [], by simp, rfl, by simpa using hd⟩
theorem PathIs.simple {h : HierD} {ls : List Nat} {s t : Nat} {d : Int} (hl : ∀ x ∈ ls, x < cntOf h ∧ (linkAt h x).plain = true) (hc : Chain h ls s t) (hn : ls ≠ []) (hd : ((((ls.map fun x => (linkAt h x).wt).sum : Nat) : Int)) ≤ d) :
    PathIs h (nodeAt h s) (nodeAt h t) d (simpleL [] (nodesL h ls)) := by
  obtain ⟨h1, h2, h3⟩ := nodesL_steps ls s t hc hn
  refine ⟨by rw [simpleL_head]; exact h2, by rw [simpleL_last]; exact h3, simpleL_nodup _ _ (by simp), ?_⟩
  have hsub := simpleL_steps (nodesL h ls) []
  rw [List.nil_append, h1, List.sublist_map_iff] at hsub
  obtain ⟨ls', hs, e⟩ := hsub
  refine ⟨ls', fun x hx => hl x (hs.subset hx), e, ?_⟩
  have := sum_sublist (hs.map fun x => (linkAt h x).wt)
  omega
theorem nodeAt_idx {h : HierD} {v : Nat} (hv : v ∈ h.node) : nodeAt h (h.node.idxOf v) = v := by
  have hi := List.idxOf_lt_length_of_mem hv
  unfold nodeAt
  rw [List.getD_eq_getElem?_getD, List.getElem?_eq_getElem hi, Option.getD_some, List.getElem_idxOf hi]
theorem nodes_bnd {h : HierD} (hc : checkErr h = .nil) (l : List Nat) (hl : ∀ x ∈ l, x < cntOf h) (hb : ∀ x ∈ h.node, x < 4294967296) : ∀ v ∈ nodesL h l, v < 4294967296 := by
  have key : ∀ r, r < h.node.length → nodeAt h r < 4294967296 := fun r hr => by
    unfold nodeAt
    rw [List.getD_eq_getElem?_getD, List.getElem?_eq_getElem hr]
    exact hb _ (List.getElem_mem hr)
  intro v hv
  cases l with
  | nil => simp [nodesL] at hv
  | cons x l =>
    unfold nodesL at hv
    rcases List.mem_cons.1 hv with rfl | hv
    · exact key _ (end_cases hc (hl x (by simp))).2.1
    · obtain ⟨y, hy, rfl⟩ := List.mem_map.1 hv
      exact key _ (end_cases hc (hl y hy)).2.2
end Go.Proofs.YtchhbgckonpedaaGreatDoor

/- The contract of unpack's Path. -/
namespace Go.Proofs.YtchhbgckonpedaaGreatDoor
open Go.ChangeShapes Go.WideShapes Go.ChangeAt Go.RowKit Go.Joins Go.Deep

theorem meetTo_some {D E : Nat → Option Int} : ∀ (k r : Nat) (d : Int), meetTo D E k = (r, d) → d ≠ 18446744073709551615 → ∃ a b, D r = some a ∧ E r = some b ∧ d = a + b := by
  intro k
  induction k with
  | zero =>
    intro r d h hd
    simp only [meetTo, Prod.mk.injEq] at h
    exact absurd h.2.symm hd
  | succ k ih =>
    intro r d h hd
    unfold meetTo at h
    split at h
    · rename_i x y hx hy
      split at h
      · simp only [Prod.mk.injEq] at h
        obtain ⟨rfl, rfl⟩ := h
        exact ⟨x, y, hx, hy, rfl⟩
      · exact ih r d h hd
    · exact ih r d h hd
theorem MeetIs.parts {h : HierD} {s t : Int} {r : Nat} {d : Int} {x : EV} (m : MeetIs h s t r d x) (hx : x = .nil) : ∃ D E : Nat → Option Int, checkErr h = .nil ∧ nodesErr h.node.length s t = .nil ∧
    IsD h.node.length h.upF h.up (h.node.idxOf s.toNat) D ∧ IsD h.node.length h.dnF h.dn (h.node.idxOf t.toNat) E ∧ meetTo D E h.node.length = (r, d) ∧ d ≠ 18446744073709551615 := by
  cases m with
  | form e => exact absurd hx e
  | nodes e k => exact absurd hx k
  | walk D E r d e k hD hE hm hd => exact ⟨D, E, e, k, hD, hE, hm, hd⟩
  | none D E e k hD hE hd => cases hx
theorem Tryz.eqlNilErr (b : Int) (w : World) : (binOp .eql 30 .nilIface (.iface 61 (.int .i64 b))).run Tryz.prog w = .ok (.bool false) w := by kernel_rfl
set_option maxRecDepth 100000 in
theorem is_nil (m : Int) (w : World) : Calls Tryz.prog 41 #[.nilIface, .iface 61 (.int .i64 m)] w fun e w' => e = .returned (.bool false) ∧ w' = w := by
  have hq := Tryz.eqlNilErr m
  go_enter Tryz.func41, Tryz.ntmps41
  go_wp2
  go_returns
  exact ⟨rfl, rfl⟩
/-- A path comes out, and no error. -/
def PathNew (h : HierD) (s t : Nat) (d : Int) (w : World) (e : Ending) (w' : World) : Prop :=
  ∃ (p : List Nat) (ao : Option Addr) (cap : Nat), e = .returned (.tuple #[.slice ao p.length cap, .nilIface]) ∧ PathIs h s t d p ∧ Nats w.heap.size w' (.slice ao p.length cap) p ∧ Below w.heap.size w w'
/-- Where the way laid out is too long a plain search answers. -/
def PlainlyOk (A : HA) (h : HierD) (s t : Nat) : Prop :=
  ∀ (W : World) (d : Int) (ls : List Nat) (r : Nat), HSee W A h → checkErr h = .nil → (∀ x ∈ ls, x < cntOf h ∧ (linkAt h x).plain = true) → Chain h ls (h.node.idxOf s) (h.node.idxOf t) → 131072 < ls.length →
    ((((ls.map fun x => (linkAt h x).wt).sum : Nat) : Int)) = d → MeetIs h s t r d .nil → Calls Tryz.prog 47 #[hierVal A h, .int .i64 s, .int .i64 t] W (PathNew h s t d W)
def UPath (h : HierD) (s t : Int) (w : World) (e : Ending) (w' : World) : Prop :=
  ∃ (r : Nat) (d : Int) (x : EV) (v : Value) (p : List Nat) (ao : Option Addr) (cap : Nat), e = .returned (.tuple #[.slice ao p.length cap, v]) ∧ ErrIs w' v x ∧ MeetIs h s t r d x ∧ (x ≠ .nil → p = []) ∧ (x = .nil → PathIs h s.toNat t.toNat d p) ∧
    Nats w.heap.size w' (.slice ao p.length cap) p ∧ Below w.heap.size w w'
theorem ways_lit (A : HA) (h : HierD) (s top t : Nat) (D E : Nat → Option Int) (a b : Int) (w : World) (see : HSee w A h) (hc : checkErr h = .nil) (htot : cntOf h ≤ 1048576) (hs : s < h.node.length) (ht : t < h.node.length)
    (hD : IsD h.node.length h.upF h.up s D) (hE : IsD h.node.length h.dnF h.dn t E) (ha : D top = some a) (hb : E top = some b) :
    Calls Tryz.prog 46 #[.agg #[.slice A.a0 h.node.length A.c0, .slice A.a1 h.upF.length A.c1, .slice A.a2 h.up.length A.c2, .slice A.a3 h.dnF.length A.c3, .slice A.a4 h.dn.length A.c4], .int .i64 s, .int .i64 top, .int .i64 t] w (WaysPost h s t (a + b) w) :=
  ways_any A h s top t D E a b w see hc htot hs ht hD hE ha hb
theorem simple_lit (l : List Nat) (la : Option Addr) (lc : Nat) (w : World) (sl : See w la lc i64Cells 1 l) (hl : l.length ≤ 1048576) (hx : ∀ x ∈ l, x < 4294967296) :
    Calls Tryz.prog 48 #[.slice la l.length lc] w (NatsNew (simpleL [] l) w) := simple_any l la lc w sl hl hx

set_option maxRecDepth 100000 in
set_option maxHeartbeats 8000000 in
theorem upath_any (A : HA) (h : HierD) (s t : Int) (w : World) (see : HSee w A h) (hk : h.up.length + h.dn.length ≤ 281474976710656) (hs64 : s ≤ 9223372036854775807) (ht64 : t ≤ 9223372036854775807) (hp : PlainlyOk A h s.toNat t.toNat) :
    Calls Tryz.prog 19 #[hierVal A h, .int .i64 s, .int .i64 t] w (UPath h s t w) := by
  have SEE := Lib.hid see
  have HP := Lib.hid hp
  have HX := Lib.hid (Cells.new w 25 (hierCells A h))
  have HB := Lib.hid ((Below.refl w.heap.size w).alloc (Nat.le_refl _) (.cells (hierCells A h).toArray 25))
  clear see hp
  unfold hierVal
  go_enter Tryz.func19, Tryz.ntmps19
  go_wp2_with fail
  refine (qmeet_any A h s t _ (SEE.out.below HB.out) hs64 ht64).mono ?_
  rintro e w1 ⟨r, d, x, v, rfl, hv, hm, hb⟩
  have HX1 := Lib.hid (HX.out.below hb HX.out.lt)
  have HB1 := Lib.hid (HB.out.trans (hb.mono HB.out.size))
  obtain ⟨k0, k1, k2, k3, k4⟩ := hier_five HX1.out
  have HM := Lib.hid hm
  clear hb
  by_cases hx : x = .nil
  · subst hx
    obtain rfl := hv.nilv rfl
    obtain ⟨D, E, hc, hkk, hD, hE, hmt, hd⟩ := hm.parts rfl
    obtain ⟨⟨hs0, hsn⟩, ht0, htn⟩ := nodesErr_nil.1 hkk
    obtain ⟨s, rfl⟩ : ∃ q : Nat, s = q := ⟨s.toNat, by omega⟩
    obtain ⟨t, rfl⟩ : ∃ q : Nat, t = q := ⟨t.toNat, by omega⟩
    obtain ⟨a, b, ha, hb, hab⟩ := meetTo_some _ _ _ hmt hd
    have htot := cnt_small hc hk
    have htot2 : h.up.length + h.dn.length ≤ 1048576 := htot
    obtain ⟨u, dd⟩ := parts_firsts hc
    have hpp := checkErr_parts hc
    have hn := hpp.1.n
    have ord := order_nil hpp.2.2.2.1
    rw [Int.toNat_natCast] at hD hE
    have hms := ord.mem s (by omega)
    have hmt2 := ord.mem t (by omega)
    have his : h.node.idxOf s < h.node.length := List.idxOf_lt_length_of_mem hms
    have hit : h.node.idxOf t < h.node.length := List.idxOf_lt_length_of_mem hmt2
    have h0a := (hD.bnd (half_up hc) _ _ ha).1
    have h0b := (hE.bnd (half_dn hc) _ _ hb).1
    have HC := Lib.hid hc
    have HT := Lib.hid htot
    have HU := Lib.hid u
    have HDD := Lib.hid dd
    have HD := Lib.hid hD
    have HE := Lib.hid hE
    have HA1 := Lib.hid ha
    have HB2 := Lib.hid hb
    have HAB := Lib.hid hab
    have HMS := Lib.hid hms
    have HMT := Lib.hid hmt2
    have H0 := Lib.hid (show 0 ≤ d by omega)
    clear hv hc hkk hD hE hmt hd ha hb hab htot u dd hpp ord hms hmt2 hs0 ht0 h0a h0b
    go_wp2_with fail
    refine (ranks_any A h _ (SEE.out.below HB1.out)).mono ?_
    rintro e w2 (⟨v, rfl, -, hcc, -⟩ | ⟨rb, rfl, -, hrb, hrk, hb2⟩)
    · exact absurd HC.out hcc
    have HX2 := Lib.hid (HX1.out.below hb2 HX1.out.lt)
    have HB3 := Lib.hid (HB1.out.trans (hb2.mono HB1.out.size))
    have hsn2 : s < h.node.length := by omega
    have htn2 : t < h.node.length := by omega
    have q1 : w2.cell? ⟨rb, s, none⟩ = some (.int .i64 (h.node.idxOf s : Int)) := hrk.cell (by simp [rankCells, hsn2])
    have q2 : w2.cell? ⟨rb, t, none⟩ = some (.int .i64 (h.node.idxOf t : Int)) := hrk.cell (by simp [rankCells, htn2])
    have lrb := hrk.lt
    obtain ⟨j0, j1, j2, j3, j4⟩ := hier_five HX2.out
    obtain ⟨is, hie⟩ : ∃ is, h.node.idxOf s = is := ⟨_, rfl⟩
    obtain ⟨it, hje⟩ : ∃ it, h.node.idxOf t = it := ⟨_, rfl⟩
    rw [hie] at his q1
    rw [hje] at hit q2
    have HIE := Lib.hid hie
    have HJE := Lib.hid hje
    clear hrk hb2 hrb k0 k1 k2 k3 k4 hie hje hsn htn
    go_wp2_with fail
    go_region_held3 (fun W => W.cell? ⟨w.heap.size, 0, none⟩ = some (.slice A.a0 h.node.length A.c0) ∧ W.cell? ⟨w.heap.size, 1, none⟩ = some (.slice A.a1 h.upF.length A.c1) ∧ W.cell? ⟨w.heap.size, 2, none⟩ = some (.slice A.a2 h.up.length A.c2) ∧ W.cell? ⟨w.heap.size, 3, none⟩ = some (.slice A.a3 h.dnF.length A.c3) ∧ W.cell? ⟨w.heap.size, 4, none⟩ = some (.slice A.a4 h.dn.length A.c4) ∧ W.cell? ⟨rb, s, none⟩ = some (.int .i64 (is : Int)) ∧ W.cell? ⟨rb, t, none⟩ = some (.int .i64 (it : Int))) (go_keep)
      (first | (go_at_call 46; (with_reducible refine (ways_lit A h is r it D E a b _ ?_ HC.out HT.out his hit ?_ ?_ HA1.out HB2.out).mono ?_); exact (SEE.out.below HB3.out.drew); exact (by rw [← HIE.out]; exact HD.out); exact (by rw [← HJE.out]; exact HE.out); rintro e w3 ⟨l, lao, lcap, rfl, hway, hll, hln, hb3⟩; (have i0 := ck hb3 j0); (have i1 := ck hb3 j1); (have i2 := ck hb3 j2); (have i3 := ck hb3 j3); (have i4 := ck hb3 j4); (have i5 := ck hb3 q1); (have i6 := ck hb3 q2)))
    try dsimp only [Exit.then]
    rw [← HAB.out] at hway
    have hba := (Below.refl w2.heap.size w2).drew.trans hb3
    have HX3 := Lib.hid (HX2.out.below hba HX2.out.lt)
    have HB4 := Lib.hid (HB3.out.trans (hba.mono HB3.out.size))
    have HLN := Lib.hid (hln.mono (show w.heap.size ≤ w2.drew.heap.size from HB3.out.size))
    have HWY := Lib.hid hway
    have hz3 := HB4.out.size
    clear hln hb3 hba hway q1 q2 i5 i6 j0 j1 j2 j3 j4
    by_cases hl0 : l = []
    · subst hl0
      have hst : s = t := by
        have h1 : is = it := HWY.out.chain
        rw [← nodeAt_idx HMS.out, ← nodeAt_idx HMT.out, HIE.out, HJE.out, h1]
      have hpi := PathIs.one h s H0.out
      have HPI : Hid (PathIs h s t d [s]) := Lib.hid (by rw [← hst]; exact hpi)
      have HFR := Lib.hid ((Nats.fresh w3 [s] (by simp)).mono hz3)
      have hm2 := HM.out
      clear hst hpi i0 i1 i2 i3 i4
      go_wp2
      go_returns
      exact ⟨r, d, .nil, _, [s], some ⟨w3.heap.size, 0, none⟩, 1, rfl, rfl, HM.out, fun e => absurd rfl e, fun _ => HPI.out, HFR.out, HB4.out.alloc hz3 _⟩
    · have dl : ((l.length : Int) == 0) = false := by
        have : l.length ≠ 0 := fun e => hl0 (List.eq_nil_of_length_eq_zero e)
        simp; omega
      have HNL := Lib.hid hl0
      clear hl0
      go_wp2_with fail
      refine (ulay_any A h lao lcap l _ (SEE.out.below HB4.out) HC.out HT.out HLN.out.see.1 HWY.out.lt (by omega)).mono ?_
      rintro e w4 ⟨pao, pcap, v, rfl, hv, hpn, hb4⟩
      have hsl := stack_mem HC.out HWY.out.lt
      have hsc := stack_chain HC.out l _ _ HWY.out.lt HWY.out.chain
      have hsw : ((((stackOut h l).map fun x => (linkAt h x).wt).sum : Nat) : Int) = d := by rw [stack_wt HC.out l HWY.out.lt]; exact HWY.out.sum
      have hsn := stack_ne HC.out HWY.out.lt HNL.out
      have HB5 := Lib.hid (HB4.out.trans (hb4.mono hz3))
      have hz4 := (HB4.out.trans (hb4.mono hz3)).size
      have HX4 := Lib.hid (HX3.out.below hb4 HX3.out.lt)
      obtain ⟨m0, m1, m2, m3, m4⟩ := hier_five HX4.out
      by_cases hlong : (stackOut h l).length ≤ 131072
      · have hr : layRes h l = (stackOut h l, .nil) := by unfold layRes; rw [if_pos hlong]
        rw [hr] at hv hpn ⊢
        dsimp only at hv hpn ⊢
        obtain rfl := hv.nilv rfl
        obtain ⟨P, hP⟩ : ∃ P, stackOut h l = P := ⟨_, rfl⟩
        rw [hP] at hpn hlong hsl hsc hsw hsn ⊢
        have HPN := Lib.hid hpn
        have HSL := Lib.hid hsl
        have HPI : Hid (PathIs h s t d (simpleL [] (nodesL h P))) := Lib.hid (by
          have := PathIs.simple (d := d) hsl hsc hsn (by omega)
          rwa [← HIE.out, ← HJE.out, nodeAt_idx HMS.out, nodeAt_idx HMT.out] at this)
        have HLT := Lib.hid (fun x hx => (hsl x hx).1)
        have SP := Lib.hid hpn.see.1
        have hnl : (nodesL h P).length ≤ 1048576 := by have := nodesL_len (h := h) P; omega
        have HNB := Lib.hid (nodes_bnd HC.out P (fun x hx => (hsl x hx).1) SEE.out.bn)
        clear hv hr hP hpn hsl hsc hsw hsn hb4 i0 i1 i2 i3 i4
        go_wp2_with fail
        refine (is_nil 2 _).mono ?_
        rintro e w5 ⟨rfl, rfl⟩
        go_wp2_with fail
        go_region_held3 (fun W => W.cell? ⟨w.heap.size, 0, none⟩ = some (.slice A.a0 h.node.length A.c0) ∧ W.cell? ⟨w.heap.size, 1, none⟩ = some (.slice A.a1 h.upF.length A.c1) ∧ W.cell? ⟨w.heap.size, 2, none⟩ = some (.slice A.a2 h.up.length A.c2) ∧ W.cell? ⟨w.heap.size, 3, none⟩ = some (.slice A.a3 h.dnF.length A.c3) ∧ W.cell? ⟨w.heap.size, 4, none⟩ = some (.slice A.a4 h.dn.length A.c4)) (go_keep)
          (first
          | (go_at_call 43; (with_reducible refine (heads_lit A h _ ?_ HU.out HDD.out hn htot2).mono ?_); exact (SEE.out.below HB5.out.drew); rintro e w6 ⟨ao2, cap2, rfl, hn2, hb2⟩; (have n0 := ck hb2 m0); (have n1 := ck hb2 m1); (have n2 := ck hb2 m2); (have n3 := ck hb2 m3); (have n4 := ck hb2 m4); (have SA := Lib.hid hn2.see.1); (have HB6 := Lib.hid (HB5.out.drew.trans (hb2.mono HB5.out.size))); (have HSP := Lib.hid (SP.out.below ((Below.refl w5.heap.size w5).drew.trans hb2))); clear hn2 hb2)
          | (go_at_call 42; (with_reducible refine (unodes_lit A h ao2 pao cap2 pcap P _ ?_ HC.out HT.out SA.out HSP.out HLT.out hlong).mono ?_); exact (SEE.out.below HB6.out); rintro e w7 ⟨ao3, cap3, rfl, hn3, hb3⟩; (have o0 := ck hb3 n0); (have o1 := ck hb3 n1); (have o2 := ck hb3 n2); (have o3 := ck hb3 n3); (have o4 := ck hb3 n4); (have SB := Lib.hid hn3.see.1); (have HB7 := Lib.hid (HB6.out.trans (hb3.mono HB6.out.size))); clear hn3 hb3)
          | (go_at_call 48; (with_reducible refine (simple_lit (nodesL h P) ao3 cap3 _ SB.out hnl HNB.out).mono ?_); rintro e w8 ⟨ao4, cap4, rfl, hn4, hb5⟩; (have r0 := ck hb5 o0); (have r1 := ck hb5 o1); (have r2 := ck hb5 o2); (have r3 := ck hb5 o3); (have r4 := ck hb5 o4); (have HN8 := Lib.hid (hn4.mono HB7.out.size)); (have HB8 := Lib.hid (HB7.out.trans (hb5.mono HB7.out.size))); clear hn4 hb5))
        try dsimp only [Exit.then]
        go_wp2
        go_returns
        exact ⟨r, d, .nil, _, simpleL [] (nodesL h P), ao4, cap4, rfl, rfl, HM.out, fun e => absurd rfl e, fun _ => HPI.out, HN8.out, HB8.out⟩
      · have hr : layRes h l = ([], .code 2) := by unfold layRes; rw [if_neg hlong]
        rw [hr] at hv hpn ⊢
        dsimp only at hv hpn ⊢
        obtain rfl : v = errV 2 := hv
        have HSL := Lib.hid hsl
        have HSC := Lib.hid hsc
        have HSW := Lib.hid hsw
        have HLG := Lib.hid (show 131072 < (stackOut h l).length by omega)
        clear hr hpn hsl hsc hsw hsn hb4 i0 i1 i2 i3 i4 hlong
        unfold errV
        go_wp2_with fail
        refine (is_errno 2 2 _).mono ?_
        rintro e w5 ⟨rfl, rfl⟩
        go_wp2_with fail
        refine (HP.out _ d (stackOut h l) r (SEE.out.below HB5.out) HC.out HSL.out ?_ HLG.out HSW.out HM.out).mono ?_
        · rw [Int.toNat_natCast, Int.toNat_natCast, HIE.out, HJE.out]; exact HSC.out
        rintro e w6 ⟨p, ao6, cap6, rfl, hpi, hn6, hb6⟩
        have HPI := Lib.hid hpi
        have HN6 := Lib.hid (hn6.mono HB5.out.size)
        have HB6 := Lib.hid (HB5.out.trans (hb6.mono HB5.out.size))
        clear hpi hn6 hb6 m0 m1 m2 m3 m4
        go_wp2
        go_returns
        exact ⟨r, d, .nil, _, p, ao6, cap6, rfl, rfl, HM.out, fun e => absurd rfl e, fun _ => HPI.out, HN6.out, HB6.out⟩
  · obtain ⟨tt, u, rfl⟩ := hv.iface hx
    have HV := Lib.hid hv
    have HN := Lib.hid hx
    clear hv hm hx k0 k1 k2 k3 k4
    go_wp2
    go_returns
    exact ⟨r, d, x, _, [], none, 0, rfl, HV.out, HM.out, fun _ => rfl, fun e => absurd e HN.out, Nats.nil _ _, HB1.out⟩
end Go.Proofs.YtchhbgckonpedaaGreatDoor
