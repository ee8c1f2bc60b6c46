/- The contract of climb's search. -/
import Derived.Test.YtblkkjfpggcgfaaGreatDoorH4
import Derived.Test.YtblkkjfpggcgfaaGreatDoorH5
namespace Go.Proofs.YtblkkjfpggcgfaaGreatDoor
open Go.ChangeShapes Go.WideShapes Go.ChangeAt Go.RowKit Go.Joins Go.Deep
structure SA where
  a1 : Option Addr
  a2 : Option Addr
  a3 : Option Addr
  a4 : Option Addr
  c1 : Nat
  c2 : Nat
  c3 : Nat
  c4 : Nat
structure SSee (w : World) (A : SA) (v : SideD) : Prop where
  first : See w A.a1 A.c1 u32Cells 1 v.first
  links : See w A.a2 A.c2 linkCells 4 v.links
  bfirst : See w A.a3 A.c3 u32Cells 1 v.bfirst
  back : See w A.a4 A.c4 linkCells 4 v.back
  b1 : ∀ x ∈ v.first, x < 4294967296
  b2 : ∀ l ∈ v.links, l.ok
  b3 : ∀ x ∈ v.bfirst, x < 4294967296
  b4 : ∀ l ∈ v.back, l.ok
theorem SSee.below {w w' : World} {A : SA} {v : SideD} (s : SSee w A v) (o : Below w.heap.size w w') : SSee w' A v :=
  ⟨s.first.below o, s.links.below o, s.bfirst.below o, s.back.below o, s.b1, s.b2, s.b3, s.b4⟩
def sideCells (A : SA) (v : SideD) : List Value := [.int .i64 v.n, .slice A.a1 v.first.length A.c1, .slice A.a2 v.links.length A.c2, .slice A.a3 v.bfirst.length A.c3, .slice A.a4 v.back.length A.c4]
theorem below_drewN {B : Nat} {a w : World} (h : Below B a w) (n : Nat) : Below B a (w.drewN n) := ⟨h.os, h.tape, h.output, h.size, h.block⟩
theorem Holds.pop {s : HS} {n : Nat} {m : Nat → Option Int} (h : Holds s n m) {k : Int} {id : Nat} (hx : s.1[0]? = some (k, id)) : Holds (popP s) n (eraseM m id) := by
  obtain ⟨r1, r2, r3, -⟩ := removeP_spec h.good id 0 (topOf h.good hx)
  have e : popP s = removeP s id := by simp [popP, hx]
  rw [e]
  refine ⟨r1, r3.trans h.len, fun d => ?_⟩
  rw [r2, eraseM, h.key]
theorem Holds.pushed {s : HS} {n : Nat} {m : Nat → Option Int} (h : Holds s n m) (id : Nat) (k : Int) (hid : id < n) : Holds (pushP s id k) n (pushM m id k) := by
  obtain ⟨h1, h2, h3⟩ := h.push id k hid
  exact ⟨h2, h3, h1⟩
theorem Tryz.sizeLink (w : World) : (sizeOf 63).run Tryz.prog w = .ok 4 w := by kernel_rfl
def SearchPost (v : SideD) (s : Nat) (w : World) (e : Ending) (w' : World) : Prop :=
  ∃ sb cb ds, e = .returned (.tuple #[.pointer (some ⟨sb, 0, none⟩), .nilIface]) ∧ SRep w' sb cb ds ∧ ds.length = v.n ∧ IsD v.n v.first v.links s (fun r => ds.getD r none) ∧ Below w.heap.size w w' ∧ w.heap.size ≤ sb ∧ w.heap.size ≤ cb
structure RInv (v : SideD) (A : SA) (w : World) (sb cb hb ab : Nat) (ds : List (Option Int)) (k : Int) (m1 : Nat → Option Int) (L : List LinkD) (j : Nat) (wr : World) : Prop where
  box : Cells wr w.heap.size 167 (sideCells A v)
  below : Below w.heap.size w wr
  size : sb < wr.heap.size ∧ cb < wr.heap.size
  dist : SRep wr sb cb ds
  rep : ∃ iv hs, HRep wr hb iv ab hs ∧ Holds hs v.n ((L.take j).foldl (relax1 ds k) m1) ∧ (∀ k ∈ hfoot hb iv ab, w.heap.size < k ∧ k ≠ sb ∧ k ≠ cb)
structure SInv (v : SideD) (s : Nat) (A : SA) (w : World) (sb cb hb ab : Nat) (g : Nat) (wr : World) : Prop where
  box : Cells wr w.heap.size 167 (sideCells A v)
  below : Below w.heap.size w wr
  size : sb < wr.heap.size ∧ cb < wr.heap.size
  rep : ∃ iv hs m ds, HRep wr hb iv ab hs ∧ Holds hs v.n m ∧ SRep wr sb cb ds ∧ CInv v s m ds (fun _ _ => True) ∧ g = v.n - ds.countP Option.isSome ∧ (∀ k ∈ hfoot hb iv ab, w.heap.size < k ∧ k ≠ sb ∧ k ≠ cb)
set_option maxRecDepth 100000 in
set_option maxHeartbeats 1000000 in
theorem search_any (v : SideD) (s : Nat) (A : SA) (w : World) (see : SSee w A v) (ok : SideOk v) (hs : s < v.n) :
    Calls Tryz.prog 91 #[.agg #[.int .i64 v.n, .slice A.a1 v.first.length A.c1, .slice A.a2 v.links.length A.c2, .slice A.a3 v.bfirst.length A.c3, .slice A.a4 v.back.length A.c4], .int .i64 s] w (SearchPost v s w) := by
  have hn := ok.n
  have SEE := Lib.hid see
  have OK := Lib.hid ok
  clear see ok
  go_enter Tryz.func91, Tryz.ntmps91
  go_wp2_with fail
  refine (stampNew_any v.n hn _).mono ?_
  rintro e w1 ⟨rfl, hS1, hb1⟩
  simp only [World.size_alloc] at hS1
  have bx1 := (Cells.new w 167 (sideCells A v)).below hb1 (by simp)
  have c10 : w1.cell? ⟨w.heap.size, 0, none⟩ = some (.int .i64 v.n) := bx1.cell rfl
  have hz1 : w.heap.size < w1.heap.size := bx1.lt
  have S1 := Lib.hid hS1
  have B1 := Lib.hid hb1
  have X1 := Lib.hid bx1
  clear hS1 hb1 bx1
  go_wp2_with fail
  refine (new_any v.n hn _).mono ?_
  rintro e w2 ⟨rfl, hH2, hb2⟩
  have H2 := Lib.hid hH2
  have B2 := Lib.hid hb2
  clear hH2 hb2
  go_wp2_with fail
  have hpu := push_any s 0 w2 H2.out ⟨⟨fun i x h => (by simp at h), fun id p h => by have := List.mem_of_getElem? h; simp at this⟩, fun j _ a b h => (by simp at h)⟩ (by simpa using hs)
  refine hpu.mono ?_
  rintro e w3 ⟨rfl, hN⟩
  have start : SInv v s A w (w.heap.size + 1 + 1) (w.heap.size + 1) (w1.heap.size + 1) w1.heap.size v.n w3 := by
    obtain ⟨iv3, hr3, ho3, hs3⟩ := hN
    have hz2 := B2.out.size
    have hz1' : w.heap.size + 1 + 1 < w1.heap.size := S1.out.lt1
    have f3 : ∀ k ∈ hfoot (w1.heap.size + 1) (.slice none 0 0) w1.heap.size, w1.heap.size ≤ k := by
      intro k hk
      simp [hfoot, Value.ownBlock] at hk
      omega
    have hsb : w.heap.size + 1 + 1 ∉ hfoot (w1.heap.size + 1) (.slice none 0 0) w1.heap.size := fun h => by have := f3 _ h; omega
    have hcb : w.heap.size + 1 ∉ hfoot (w1.heap.size + 1) (.slice none 0 0) w1.heap.size := fun h => by have := f3 _ h; omega
    have hvb : w.heap.size ∉ hfoot (w1.heap.size + 1) (.slice none 0 0) w1.heap.size := fun h => by have := f3 _ h; omega
    have hz3 := ho3.size
    refine ⟨(X1.out.below B2.out (by omega)).kept ho3 hvb, ?_, ⟨by omega, by omega⟩, iv3, _, _, _, hr3, (Holds.new v.n).pushed s 0 hs, (S1.out.below B2.out).kept ho3 hsb hcb, CInv.start hs, ?_, ?_⟩
    · exact (bt (bt ((Below.refl _ _).alloc (Nat.le_refl _) _) B1.out) B2.out).trans (ho3.below (by omega) (fun x hx => by have := f3 x hx; omega))
    · have : (List.replicate v.n (none : Option Int)).countP Option.isSome = 0 := by simp
      rw [this]; rfl
    · intro k hk
      rcases hs3 k hk with h | h
      · have := f3 k h; exact ⟨by omega, by omega, by omega⟩
      · exact ⟨by omega, by omega, by omega⟩
  have START := Lib.hid start
  clear start hN hpu
  go_wp2_with fail
  go_loopg [9] v.n (fun g _ wr => SInv v s A w (w.heap.size + 1 + 1) (w.heap.size + 1) (w1.heap.size + 1) w1.heap.size g wr)
  case atStart => exact START.out
  case round =>
    obtain ⟨hbox, hbel, ⟨hz4, hz5⟩, iv, hsx, m, ds, hrep, hhold, hsr, hci, hg, hft⟩ := hrel
    have HR := Lib.hid hrep
    have HH := Lib.hid hhold
    have HSR := Lib.hid hsr
    have HCI := Lib.hid hci
    have HGK := Lib.hid hg
    have HFT := Lib.hid hft
    have HBX := Lib.hid hbox
    have HBL := Lib.hid hbel
    clear hrep hhold hsr hci hg hft hbox hbel
    cases hx : hsx.1[0]? with
    | none =>
      have HX := Lib.hid hx
      clear hx
      go_wp2_with fail
      refine (pop_any _ HR.out HH.out.good).mono ?_
      rw [HX.out]
      rintro e w4 ⟨rfl, hN⟩
      simp only [topVal]
      have HN := Lib.hid hN
      clear hN
      go_wp2
      go_returns
      obtain ⟨iv4, hr4, ho4, hs4⟩ := HN.out
      have hsb : w.heap.size + 1 + 1 ∉ hfoot (w1.heap.size + 1) iv w1.heap.size := fun h => (HFT.out _ h).2.1 rfl
      have hcb : w.heap.size + 1 ∉ hfoot (w1.heap.size + 1) iv w1.heap.size := fun h => (HFT.out _ h).2.2 rfl
      exact ⟨_, _, ds, rfl, HSR.out.kept ho4 hsb hcb, HCI.out.len, HCI.out.done (HH.out.empty (by simpa using HX.out)), HBL.out.trans (ho4.below HBL.out.size (fun k hk => Nat.le_of_lt (HFT.out k hk).1)), by omega, by omega⟩
    | some x =>
      obtain ⟨k, id⟩ := x
      obtain ⟨hmid, hidn, hmin⟩ := HH.out.top hx
      have hset := HCI.out.settle hmid hmin
      have HX := Lib.hid hx
      have HMID := Lib.hid hmid
      have HSET := Lib.hid hset
      clear hx hmid hmin hset
      go_wp2_with fail
      refine (pop_any _ HR.out HH.out.good).mono ?_
      rw [HX.out]
      rintro e w4 ⟨rfl, hN⟩
      simp only [topVal]
      have HN := Lib.hid hN
      clear hN
      go_wp2_with fail
      obtain ⟨iv4, hr4, ho4, hs4⟩ := HN.out
      have hsb : w.heap.size + 1 + 1 ∉ hfoot (w1.heap.size + 1) iv w1.heap.size := fun h => (HFT.out _ h).2.1 rfl
      have hcb : w.heap.size + 1 ∉ hfoot (w1.heap.size + 1) iv w1.heap.size := fun h => (HFT.out _ h).2.2 rfl
      have hvb : w.heap.size ∉ hfoot (w1.heap.size + 1) iv w1.heap.size := fun h => by have := (HFT.out _ h).1; omega
      have HS4 := Lib.hid (HSR.out.kept ho4 hsb hcb)
      have HR4 := Lib.hid hr4
      have HO4 := Lib.hid ho4
      have HF4 := Lib.hid hs4
      have hidl : id < ds.length := by rw [HCI.out.len]; exact hidn
      clear hr4 ho4 hs4
      refine (stampSet_any id k _ HS4.out hidl).mono ?_
      rintro e w5 ⟨rfl, hS5, ho5⟩
      have hvb5 : w.heap.size ∉ [w.heap.size + 1 + 1, w.heap.size + 1] := by
        intro h
        simp at h
        omega
      have bx5 := (HBX.out.kept HO4.out hvb).kept ho5 hvb5
      have d0 : w5.cell? ⟨w.heap.size, 1, none⟩ = some (.slice A.a1 v.first.length A.c1) := bx5.cell rfl
      have d1 : w5.cell? ⟨w.heap.size, 2, none⟩ = some (.slice A.a2 v.links.length A.c2) := bx5.cell rfl
      have hsz5 := bx5.lt
      have hB5 : Below w.heap.size w w5 := by
        refine (HBL.out.trans (HO4.out.below HBL.out.size (fun k hk => Nat.le_of_lt (HFT.out k hk).1))).trans (ho5.below ?_ ?_)
        · have := HO4.out.size; have := HBL.out.size; omega
        · intro x hx; simp at hx; omega
      have hfl := OK.out.fwd.len
      obtain ⟨lo, hlo⟩ : ∃ lo, v.first[id]? = some lo := ⟨_, List.getElem?_eq_getElem (by omega)⟩
      obtain ⟨hi, hhi⟩ : ∃ hi, v.first[id + 1]? = some hi := ⟨_, List.getElem?_eq_getElem (by omega)⟩
      have hlh : lo ≤ hi := by
        have := OK.out.fwd.mono id hidn
        rw [getD_some hlo, getD_some hhi] at this
        exact this
      have hhl : hi ≤ v.links.length := by
        have := OK.out.fwd.last (id + 1) (by omega)
        rw [getD_some hhi] at this
        exact this
      have hseg : seg v.first v.links id = (v.links.take hi).drop lo := by unfold seg; rw [getD_some hlo, getD_some hhi]
      have hhc : hi ≤ A.c2 := Nat.le_trans hhl SEE.out.links.hcap
      obtain ⟨b1, o1, ea1, cc1⟩ := (SEE.out.first.below hB5).cell id lo hlo
      obtain ⟨b1', o1', ea1', cc2⟩ := (SEE.out.first.below hB5).cell (id + 1) hi hhi
      rw [ea1] at ea1'
      simp only [Option.some.injEq, Addr.mk.injEq, and_true] at ea1'
      obtain ⟨rfl, rfl⟩ := ea1'
      have cl := cc1 0 _ rfl
      have ch := cc2 0 _ rfl
      rw [Nat.mul_one, Nat.add_zero] at cl ch
      rw [ea1] at d0
      have hil : id < v.first.length := by omega
      have hil1 : id + 1 < v.first.length := by omega
      have hid65 : id < 65536 := by omega
      have hhi32 : hi < 4294967296 := SEE.out.b1 hi (List.mem_of_getElem? hhi)
      have S5 := Lib.hid hS5
      have O5 := Lib.hid ho5
      have X5 := Lib.hid bx5
      have BB5 := Lib.hid hB5
      have SG := Lib.hid hseg
      clear hS5 ho5 bx5 hB5 hfl hlo hhi cc1 cc2 hseg ea1
      have hsl := run_sub (P := Tryz.prog) 23 63 4 Tryz.underlying23 Tryz.sizeLink A.a2 v.links.length A.c2 lo hi .u32 .u32 hlh hhc
      obtain ⟨hk0, hk1, -⟩ := HCI.out.bnd id k (.inr HMID.out)
      have hk2 : k ≤ 9223231299366420480 := by omega
      have hLlen : ((v.links.take hi).drop lo).length = hi - lo := by simp; omega
      have hlinks : ∀ l ∈ (v.links.take hi).drop lo, l.to < v.n ∧ l.wt ≤ 140737488355328 ∧ l.ok := by
        intro l hl
        have h1 := OK.out.fwd.up id hidn l (by rw [SG.out]; exact hl)
        exact ⟨h1.2.1, h1.2.2, SEE.out.b2 l (List.mem_of_mem_take (List.mem_of_mem_drop hl))⟩
      have hSUB : ∀ W, Below w.heap.size w W → See W (slBase A.a2 lo A.c2 4) (A.c2 - lo) linkCells 4 ((v.links.take hi).drop lo) := fun W hW => (SEE.out.links.below hW).sub lo hi hhl
      have rstart : RInv v A w (w.heap.size + 1 + 1) (w.heap.size + 1) (w1.heap.size + 1) w1.heap.size (ds.set id (some k)) k (eraseM m id) ((v.links.take hi).drop lo) 0 w5 := by
        have f4 : ∀ x ∈ hfoot (w1.heap.size + 1) iv4 w1.heap.size, w.heap.size < x ∧ x ≠ w.heap.size + 1 + 1 ∧ x ≠ w.heap.size + 1 := by
          intro x hx
          rcases HF4.out x hx with h | h
          · exact HFT.out x h
          · exact ⟨by omega, by omega, by omega⟩
        have hz45 := HO4.out.size
        have hz55 := O5.out.size
        refine ⟨X5.out, BB5.out, ⟨by omega, by omega⟩, S5.out, iv4, popP hsx, HR4.out.kept O5.out ?_, HH.out.pop HX.out, f4⟩
        intro x hx hmem
        have := f4 x hx
        simp at hmem
        omega
      have RSTART := Lib.hid rstart
      have LL := Lib.hid hLlen
      have HLK := Lib.hid hlinks
      have HSUB := Lib.hid hSUB
      clear rstart hLlen hlinks hSUB hk1
      generalize (v.links.take hi).drop lo = L at *
      go_wp2_with fail
      go_quiet (fail)
      go_wp2_with fail
      obtain ⟨wo, rfl⟩ : ∃ wo : World, wo = wr := ⟨_, rfl⟩
      go_loopg [71] (hi - lo) (fun g vj wr => ∃ j : Nat, vj = .int .i64 j ∧ j ≤ hi - lo ∧ g = hi - lo - j ∧ RInv v A w (w.heap.size + 1 + 1) (w.heap.size + 1) (w1.heap.size + 1) w1.heap.size (ds.set id (some k)) k (eraseM m id) L j wr)
      case atStart =>
        obtain ⟨r1, r2, r3, r4, iv', hs', r5, r6, r7⟩ := RSTART.out
        exact ⟨0, rfl, Nat.zero_le _, rfl, r1.drewN _, below_drewN r2 _, r3, ⟨r4.hd.imp fun c hc => ⟨hc.1, hc.2.drewN _⟩, r4.cs.drewN _, r4.n, r4.ne⟩, iv', hs', r5.drewN _, r6, r7⟩
      case round =>
        obtain ⟨j, rfl, hj, hgj, hri⟩ := hrel
        have HRI := Lib.hid hri
        have HGJ := Lib.hid hgj
        clear hri hgj
        by_cases hjl : j < hi - lo
        · obtain ⟨l, hl⟩ : ∃ l, L[j]? = some l := ⟨_, List.getElem?_eq_getElem (by rw [LL.out]; exact hjl)⟩
          obtain ⟨hlt, hlw, hlok1, hlok2, -, -⟩ := HLK.out l (List.mem_of_getElem? hl)
          obtain ⟨b2, o2, ea2, cc2⟩ := (HSUB.out wr HRI.out.below).cell j l hl
          have e0 := cc2 0 _ rfl
          have e1 := cc2 1 _ rfl
          have e2 := cc2 2 _ rfl
          have e3 := cc2 3 _ rfl
          rw [Nat.add_zero] at e0
          have lb2 := block_lt e0
          have hto : (ds.set id (some k))[l.to]? = some ((ds.set id (some k)).getD l.to none) := by
            have : l.to < (ds.set id (some k)).length := by rw [List.length_set, HCI.out.len]; exact hlt
            simp [List.getD_eq_getElem?_getD, List.getElem?_eq_getElem this]
          have HTO := Lib.hid hto
          have HL := Lib.hid hl
          have EA := Lib.hid ea2
          clear hto hl cc2 ea2
          rw [EA.out]
          have hfold : (L.take (j + 1)).foldl (relax1 (ds.set id (some k)) k) (eraseM m id) = relax1 (ds.set id (some k)) k ((L.take j).foldl (relax1 (ds.set id (some k)) k) (eraseM m id)) l := by
            have hl' := HL.out
            obtain ⟨h1, h2⟩ := List.getElem?_eq_some_iff.1 hl'
            rw [List.take_succ_eq_append_getElem h1, List.foldl_append, h2]
            rfl
          cases hxd : (ds.set id (some k)).getD l.to none with
          | some e =>
            have hrl : relax1 (ds.set id (some k)) k ((L.take j).foldl (relax1 (ds.set id (some k)) k) (eraseM m id)) l = (L.take j).foldl (relax1 (ds.set id (some k)) k) (eraseM m id) := by
              unfold relax1; rw [hxd]; simp
            rw [hrl] at hfold
            have HF := Lib.hid hfold
            have hgt := HTO.out
            rw [hxd] at hgt
            have HGT := Lib.hid hgt
            clear hfold hrl hxd hgt
            go_wp2_with fail
            refine (stampGet_any l.to (some e) _ (HRI.out.dist.alloc _) HGT.out).mono ?_
            rintro e6 w6 ⟨rfl, hb6⟩
            simp only [getVal]
            have hB6 : Below wr.heap.size wr w6 := ((Below.refl _ _).alloc (Nat.le_refl _) _).trans (hb6.mono (by simp))
            have HB6 := Lib.hid hB6
            clear hb6 hB6
            go_wp2_with fail
            rw [← EA.out]
            go_roundg (hi - lo - (j + 1))
            case measure => rw [HGJ.out]; omega
            case rel =>
              obtain ⟨r1, r2, r3, r4, iv', hs', r5, r6, r7⟩ := HRI.out
              have hz6 := HB6.out.size
              exact ⟨j + 1, by go_num, by omega, rfl, r1.below HB6.out r1.lt, r2.trans (HB6.out.mono r2.size), ⟨by omega, by omega⟩, r4.below HB6.out, iv', hs', r5.below HB6.out, by rw [HF.out]; exact r6, r7⟩
          | none =>
            have hrl : relax1 (ds.set id (some k)) k ((L.take j).foldl (relax1 (ds.set id (some k)) k) (eraseM m id)) l = pushM ((L.take j).foldl (relax1 (ds.set id (some k)) k) (eraseM m id)) l.to (k + l.wt) := by
              unfold relax1; rw [hxd]; simp
            rw [hrl] at hfold
            have HF := Lib.hid hfold
            have hgt := HTO.out
            rw [hxd] at hgt
            have HGT := Lib.hid hgt
            clear hfold hrl hxd hgt
            go_wp2_with fail
            refine (stampGet_any l.to none _ (HRI.out.dist.alloc _) HGT.out).mono ?_
            rintro e6 w6 ⟨rfl, hb6⟩
            simp only [getVal]
            have hB6 : Below wr.heap.size wr w6 := ((Below.refl _ _).alloc (Nat.le_refl _) _).trans (hb6.mono (by simp))
            have q0 : w6.cell? ⟨wr.heap.size, 0, none⟩ = some (.int .u32 l.to) := ((Cells.new wr 63 (linkCells l)).below hb6 (by simp)).cell rfl
            have q1 : w6.cell? ⟨wr.heap.size, 1, none⟩ = some (.int .u64 l.wt) := ((Cells.new wr 63 (linkCells l)).below hb6 (by simp)).cell rfl
            have HB6 := Lib.hid hB6
            obtain ⟨r1, r2, r3, r4, iv', hs', r5, r6, r7⟩ := HRI.out
            have R1 := Lib.hid r1
            have R2 := Lib.hid r2
            have R3 := Lib.hid r3
            have R4 := Lib.hid r4
            have R5 := Lib.hid r5
            have R6 := Lib.hid r6
            have R7 := Lib.hid r7
            clear hb6 hB6 r1 r2 r3 r4 r5 r6 r7
            go_wp2_with fail
            refine (push_any l.to (k + l.wt) _ (R5.out.below HB6.out) R6.out.good (by rw [R6.out.len]; exact hlt)).mono ?_
            rintro e7 w7 ⟨rfl, hN7⟩
            have HN7 := Lib.hid hN7
            clear hN7
            go_wp2_with fail
            rw [← EA.out]
            go_roundg (hi - lo - (j + 1))
            case measure => rw [HGJ.out]; omega
            case rel =>
              obtain ⟨iv7, hr7, ho7, hs7⟩ := HN7.out
              have hz6 := HB6.out.size
              have hz7 := ho7.size
              have hr3 := R3.out
              have hlt0 := R1.out.lt
              have hsb : w.heap.size + 1 + 1 ∉ hfoot (w1.heap.size + 1) iv' w1.heap.size := fun h => (R7.out _ h).2.1 rfl
              have hcb : w.heap.size + 1 ∉ hfoot (w1.heap.size + 1) iv' w1.heap.size := fun h => (R7.out _ h).2.2 rfl
              have hvb : w.heap.size ∉ hfoot (w1.heap.size + 1) iv' w1.heap.size := fun h => by have := (R7.out _ h).1; omega
              have hb26 := R2.out.trans (HB6.out.mono R2.out.size)
              refine ⟨j + 1, by go_num, by omega, rfl, (R1.out.below HB6.out R1.out.lt).kept ho7 hvb, hb26.trans (ho7.below hb26.size (fun x hx => Nat.le_of_lt (R7.out x hx).1)), ⟨by omega, by omega⟩, (R4.out.below HB6.out).kept ho7 hsb hcb, iv7, _, hr7, ?_, ?_⟩
              · rw [HF.out]; exact R6.out.pushed l.to (k + l.wt) hlt
              · intro x hx
                rcases hs7 x hx with h | h
                · exact R7.out x h
                · exact ⟨by omega, by omega, by omega⟩
        · obtain rfl : j = hi - lo := by omega
          go_wp2_with fail
          have hdn : ds.getD id none = none := by
            cases hd : ds.getD id none with
            | none => rfl
            | some d => have := HCI.out.dis id d hd; rw [HMID.out] at this; cases this
          have hcp := countP_set_le ds id k hidl
          have hde : ds[id] = none := by
            have := List.getElem?_eq_getElem hidl
            rw [List.getD_eq_getElem?_getD, this] at hdn
            simpa using hdn
          rw [hde] at hcp
          have hcl := List.countP_le_length (p := Option.isSome) (l := ds.set id (some k))
          rw [List.length_set, HCI.out.len] at hcl
          go_roundg (v.n - (ds.set id (some k)).countP Option.isSome)
          case measure => rw [HGK.out]; simp at hcp; omega
          case rel =>
            obtain ⟨r1, r2, r3, r4, iv', hs', r5, r6, r7⟩ := HRI.out
            obtain ⟨t1, t2, t3⟩ := HSET.out
            have hnx := t1.next OK.out.fwd t2 t3
            rw [SG.out] at hnx
            rw [List.take_of_length_le (by rw [LL.out]; exact Nat.le_refl _)] at r6
            exact ⟨r1, r2, r3, iv', hs', _, _, r5, r6, r4, hnx, rfl, r7⟩
def SomeBool (w : World) (e : Ending) (w' : World) : Prop := ∃ b : Bool, e = .returned (.bool b) ∧ Below w.heap.size w w'
set_option maxRecDepth 100000 in
theorem stalled_any (v : SideD) (A : SA) (sb cb r : Nat) (d : Int) (ds : List (Option Int)) (w : World) (see : SSee w A v) (ok : SideOk v) (hr : r < v.n) (hds : SRep w sb cb ds) (hdl : ds.length = v.n) :
    Calls Tryz.prog 93 #[.agg #[.int .i64 v.n, .slice A.a1 v.first.length A.c1, .slice A.a2 v.links.length A.c2, .slice A.a3 v.bfirst.length A.c3, .slice A.a4 v.back.length A.c4], .pointer (some ⟨sb, 0, none⟩), .int .i64 r, .int .u64 d] w (SomeBool w) := by
  have hn := ok.n
  have hfl := ok.bwd.len
  obtain ⟨lo, hlo⟩ : ∃ lo, v.bfirst[r]? = some lo := ⟨_, List.getElem?_eq_getElem (by omega)⟩
  obtain ⟨hi, hhi⟩ : ∃ hi, v.bfirst[r + 1]? = some hi := ⟨_, List.getElem?_eq_getElem (by omega)⟩
  have hlh : lo ≤ hi := by
    have := ok.bwd.mono r hr
    rw [getD_some hlo, getD_some hhi] at this
    exact this
  have hhl : hi ≤ v.back.length := by
    have := ok.bwd.last (r + 1) (by omega)
    rw [getD_some hhi] at this
    exact this
  have hseg : seg v.bfirst v.back r = (v.back.take hi).drop lo := by unfold seg; rw [getD_some hlo, getD_some hhi]
  have hhc : hi ≤ A.c4 := Nat.le_trans hhl see.back.hcap
  have hhi32 : hi < 4294967296 := see.b3 hi (List.mem_of_getElem? hhi)
  obtain ⟨b1, o1, ea1, cc1⟩ := see.bfirst.cell r lo hlo
  obtain ⟨b1', o1', ea1', cc2⟩ := see.bfirst.cell (r + 1) hi hhi
  rw [ea1] at ea1'
  simp only [Option.some.injEq, Addr.mk.injEq, and_true] at ea1'
  obtain ⟨rfl, rfl⟩ := ea1'
  have cl := cc1 0 _ rfl
  have ch := cc2 0 _ rfl
  rw [Nat.mul_one, Nat.add_zero] at cl ch
  have lb1 := block_lt cl
  have hil : r < v.bfirst.length := by omega
  have hil1 : r + 1 < v.bfirst.length := by omega
  have hsl := run_sub (P := Tryz.prog) 23 63 4 Tryz.underlying23 Tryz.sizeLink A.a4 v.back.length A.c4 lo hi .u32 .u32 hlh hhc
  have hLlen : ((v.back.take hi).drop lo).length = hi - lo := by simp; omega
  have hlinks : ∀ l ∈ (v.back.take hi).drop lo, l.to < v.n := fun l hl => (ok.bwd.up r hr l (by rw [hseg]; exact hl)).2.1
  have hSUB : ∀ W, Below w.heap.size w W → See W (slBase A.a4 lo A.c4 4) (A.c4 - lo) linkCells 4 ((v.back.take hi).drop lo) := fun W hW => (see.back.below hW).sub lo hi hhl
  have LL := Lib.hid hLlen
  have HLK := Lib.hid hlinks
  have HSUB := Lib.hid hSUB
  have HDS := Lib.hid hds
  have HDL := Lib.hid hdl
  rw [ea1]
  clear see ok hfl hlo hhi hseg cc1 cc2 hLlen hlinks hSUB hds hdl hhl ea1
  generalize (v.back.take hi).drop lo = L at *
  go_enter Tryz.func93, Tryz.ntmps93
  go_wp2_with fail
  go_quiet (fail)
  go_wp2_with fail
  go_loopg [28] (hi - lo) (fun g vj wr => ∃ j : Nat, vj = .int .i64 j ∧ j ≤ hi - lo ∧ g = hi - lo - j ∧ Below w.heap.size w wr)
  case atStart => exact ⟨0, rfl, Nat.zero_le _, rfl, below_drewN ((Below.refl _ _).alloc (Nat.le_refl _) _) _⟩
  case round =>
    obtain ⟨j, rfl, hj, hgj, hbl⟩ := hrel
    have HBL := Lib.hid hbl
    have HGJ := Lib.hid hgj
    clear hbl hgj
    by_cases hjl : j < hi - lo
    · obtain ⟨l, hl⟩ : ∃ l, L[j]? = some l := ⟨_, List.getElem?_eq_getElem (by rw [LL.out]; exact hjl)⟩
      have hlt := HLK.out l (List.mem_of_getElem? hl)
      obtain ⟨b2, o2, ea2, cc2⟩ := (HSUB.out wr HBL.out).cell j l hl
      have e0 := cc2 0 _ rfl
      have e1 := cc2 1 _ rfl
      have e2 := cc2 2 _ rfl
      have e3 := cc2 3 _ rfl
      rw [Nat.add_zero] at e0
      have lb2 := block_lt e0
      have hto : ds[l.to]? = some (ds.getD l.to none) := by
        have : l.to < ds.length := by rw [HDL.out]; exact hlt
        simp [List.getD_eq_getElem?_getD, List.getElem?_eq_getElem this]
      have EA := Lib.hid ea2
      have HB0 := HBL.out.size
      clear hl cc2 ea2
      rw [EA.out]
      generalize hxd : ds.getD l.to none = x at *
      have HTO := Lib.hid hto
      clear hto hxd
      cases x with
      | none =>
        go_wp2_with fail
        refine (stampGet_any l.to none _ ((HDS.out.below HBL.out).alloc _) HTO.out).mono ?_
        rintro e6 w6 ⟨rfl, hb6⟩
        simp only [getVal]
        have hB6 : Below w.heap.size w w6 := HBL.out.trans (((Below.refl wr.heap.size wr).alloc (Nat.le_refl _) _).trans (hb6.mono (by simp)) |>.mono HB0)
        have HB6 := Lib.hid hB6
        clear hb6 hB6
        go_wp2_with fail
        rw [← EA.out]
        go_roundg (hi - lo - (j + 1))
        case measure => rw [HGJ.out]; omega
        case rel => exact ⟨j + 1, by go_num, by omega, rfl, HB6.out⟩
      | some e =>
        go_wp2_with fail
        refine (stampGet_any l.to (some e) _ ((HDS.out.below HBL.out).alloc _) HTO.out).mono ?_
        rintro e6 w6 ⟨rfl, hb6⟩
        simp only [getVal]
        have hB6 : Below w.heap.size w w6 := HBL.out.trans (((Below.refl wr.heap.size wr).alloc (Nat.le_refl _) _).trans (hb6.mono (by simp)) |>.mono HB0)
        have q1 : w6.cell? ⟨wr.heap.size, 1, none⟩ = some (.int .u64 l.wt) := ((Cells.new wr 63 (linkCells l)).below hb6 (by simp)).cell rfl
        have HB6 := Lib.hid hB6
        clear hb6 hB6
        by_cases hc : IntKind.u64.wrap (e + l.wt) < d
        · have hc2 : decide (IntKind.u64.wrap (e + l.wt) < d) = true := by simpa using hc
          go_wp2
          go_returns
          exact ⟨true, rfl, HB6.out⟩
        · have hc2 : decide (IntKind.u64.wrap (e + l.wt) < d) = false := by simpa using hc
          go_wp2_with fail
          rw [← EA.out]
          go_roundg (hi - lo - (j + 1))
          case measure => rw [HGJ.out]; omega
          case rel => exact ⟨j + 1, by go_num, by omega, rfl, HB6.out⟩
    · obtain rfl : j = hi - lo := by omega
      go_wp2
      go_returns
      exact ⟨false, rfl, HBL.out⟩
end Go.Proofs.YtblkkjfpggcgfaaGreatDoor
/- The contract of climb's climb. -/
namespace Go.Proofs.YtblkkjfpggcgfaaGreatDoor
open Go.ChangeShapes Go.WideShapes Go.ChangeAt Go.RowKit Go.Joins Go.Deep
def errV (n : Int) : Value := .iface 53 (.int .i64 n)
structure SeenD where
  rank : Nat
  dist : Int
  st : Bool
def seenCells (x : SeenD) : List Value := [.int .i64 x.rank, .int .u64 x.dist, .bool x.st]
theorem seenCells_len (x : SeenD) : (seenCells x).length = 3 := rfl
theorem Tryz.infoSeen : (Tryz.prog.info? 117).map (fun i => (i.zero, i.size, i.bytes)) = some (some (.agg #[.int .i64 0, .int .u64 0, .bool false]), 3, 24) := by kernel_rfl
def seenOf (n : Nat) (D : Nat → Option Int) : List (Nat × Int) := (List.range n).filterMap fun r => (D r).map fun d => (r, d)
def ClimbPost (n : Nat) (first : List Nat) (links : List LinkD) (s : Nat) (w : World) (e : Ending) (w' : World) : Prop :=
  ∃ (ao : Option Addr) (cap : Nat) (L : List SeenD) (D : Nat → Option Int), e = .returned (.tuple #[.slice ao L.length cap, .nilIface]) ∧ w'.ownsRow 0 117 3 (.slice ao L.length cap) L.length (L.flatMap seenCells) ∧ (∀ k, (Value.slice ao L.length cap).ownBlock = some k → w.heap.size ≤ k) ∧
    IsD n first links s D ∧ L.map (fun x => (x.rank, x.dist)) = seenOf n D ∧ Below w.heap.size w w'
theorem seenOf_allTo (ds : List (Option Int)) (k : Nat) : seenOf k (fun r => ds.getD r none) = (allTo ds k).map fun r => (r, (ds.getD r none).getD 0) := by
  unfold seenOf allTo
  induction k with
  | zero => rfl
  | succ k ih =>
    rw [List.range_succ, List.filterMap_append, List.filter_append, List.map_append, ih]
    congr 1
    cases h : ds.getD k none with
    | none =>
      rw [List.filter_cons_of_neg (p := fun i => (ds.getD i none).isSome) (by simp only [h]; simp)]
      simp only [List.filterMap_cons, List.filterMap_nil, h, Option.map_none, List.filter_nil, List.map_nil]
    | some d =>
      rw [List.filter_cons_of_pos (p := fun i => (ds.getD i none).isSome) (by simp only [h]; simp)]
      simp only [List.filterMap_cons, List.filterMap_nil, h, Option.map_some, List.filter_nil, List.map_cons, List.map_nil, Option.getD_some]
theorem mem_allTo {ds : List (Option Int)} {k r : Nat} (h : r ∈ allTo ds k) : r < k ∧ ∃ d, ds.getD r none = some d := by
  simp only [allTo, List.mem_filter, List.mem_range] at h
  exact ⟨h.1, Option.isSome_iff_exists.1 h.2⟩
set_option maxRecDepth 100000 in
set_option maxHeartbeats 1000000 in
theorem climb_any (v : SideD) (A : SA) (s : Nat) (w : World) (see : SSee w A v) (ok : SideOk v) (hs : s < v.n) :
    Calls Tryz.prog 76 #[.agg #[.int .i64 v.n, .slice A.a1 v.first.length A.c1, .slice A.a2 v.links.length A.c2, .slice A.a3 v.bfirst.length A.c3, .slice A.a4 v.back.length A.c4], .int .i64 s] w (ClimbPost v.n v.first v.links s w) := by
  have hn := ok.n
  have hd : decide (v.n ≤ s) = false := by simp; omega
  have SEE := Lib.hid see
  have OK := Lib.hid ok
  clear see ok
  go_enter Tryz.func76, Tryz.ntmps76
  go_wp2_with fail
  refine (search_any v s A _ (SEE.out.below ((Below.refl _ _).alloc (Nat.le_refl _) _)) OK.out hs).mono ?_
  rintro e w1 ⟨sb, cb, ds, rfl, hS1, hdl, hD, hb1, hsb, hcb⟩
  have bx1 := (Cells.new w 167 (sideCells A v)).below hb1 (by simp)
  have S1 := Lib.hid hS1
  have DL := Lib.hid hdl
  have HD := Lib.hid hD
  have B1 := Lib.hid hb1
  have X1 := Lib.hid bx1
  clear hS1 hdl hD hb1 bx1
  go_wp2_with fail
  refine (stampAll_any _ S1.out).mono ?_
  rintro e w2 ⟨⟨ao, cap, rfl, hown2, hnew2⟩, hb2⟩
  rw [DL.out] at hown2 hnew2
  have hsee2 := See.of_own (f := fun (n : Nat) => [Value.int .i64 (n : Int)]) (l := allTo ds v.n) (fun _ => rfl) (by
    have e : intCells (allTo ds v.n) = (allTo ds v.n).flatMap fun (n : Nat) => [Value.int .i64 (n : Int)] := by
      simp only [intCells]
      induction allTo ds v.n with
      | nil => rfl
      | cons a l ih => simp [ih]
    rw [e] at hown2
    exact hown2) (by decide)
  rw [DL.out]
  have hml : (allTo ds v.n).length ≤ v.n := allTo_le ds v.n
  have hb02 : Below w.heap.size w w2 := (((Below.refl w.heap.size w).alloc (Nat.le_refl _) _).trans (B1.out.mono (by simp))).trans (hb2.mono (by have := B1.out.size; simp at this; omega))
  have X2 := Lib.hid (X1.out.below hb2 X1.out.lt)
  have S2 := Lib.hid (S1.out.below hb2)
  have SEE2 := Lib.hid hsee2.1
  have BB2 := Lib.hid hb02
  clear hown2 hnew2 hsee2 hb2 hb02
  go_wp2_with fail
  go_loopg [8, 34] (allTo ds v.n).length (fun g vl vi wr => ∃ (k : Nat) (ao2 : Option Addr) (cap2 : Nat) (L : List SeenD), vi = .int .i64 k ∧ k ≤ (allTo ds v.n).length ∧ g = (allTo ds v.n).length - k ∧ vl = .slice ao2 L.length cap2 ∧ L.length = k ∧
    wr.ownsRow 0 117 3 (.slice ao2 L.length cap2) L.length (L.flatMap seenCells) ∧ (∀ b, (Value.slice ao2 L.length cap2).ownBlock = some b → w2.heap.size ≤ b) ∧ Below w2.heap.size w2 wr ∧
    L.map (fun x => (x.rank, x.dist)) = ((allTo ds v.n).take k).map fun r => (r, (ds.getD r none).getD 0))
  case atStart => exact ⟨0, none, 0, [], rfl, Nat.zero_le _, rfl, rfl, rfl, World.ownsRow_nil _ _ _ _, by simp [Value.ownBlock], Below.refl _ _, rfl⟩
  case round =>
    obtain ⟨k, ao2, cap2, L, rfl, hk, hg, rfl, hLk, hown, hnew, hbl, hmap⟩ := hrel
    have HGK := Lib.hid hg
    have HLK := Lib.hid hLk
    have HOWN := Lib.hid hown
    have HNEW := Lib.hid hnew
    have HBL := Lib.hid hbl
    have HMAP := Lib.hid hmap
    have hz2 := hbl.size
    clear hg hLk hown hnew hbl hmap
    by_cases hlt : k < (allTo ds v.n).length
    · obtain ⟨r, hr⟩ : ∃ r, (allTo ds v.n)[k]? = some r := ⟨_, List.getElem?_eq_getElem hlt⟩
      obtain ⟨hrn, d, hd⟩ := mem_allTo (List.mem_of_getElem? hr)
      have hdr : ds[r]? = some (some d) := by
        have : r < ds.length := by rw [DL.out]; exact hrn
        rw [List.getD_eq_getElem?_getD, List.getElem?_eq_getElem this] at hd
        rw [List.getElem?_eq_getElem this]
        simpa using hd
      obtain ⟨b2, o2, ea2, cc2⟩ := (SEE2.out.below HBL.out).cell k r hr
      have cr := cc2 0 _ rfl
      rw [Nat.mul_one, Nat.add_zero] at cr
      have EA := Lib.hid ea2
      have HR := Lib.hid hr
      have HD0 := Lib.hid hd
      have HDR := Lib.hid hdr
      clear hr hd hdr cc2 ea2
      rw [EA.out]
      go_wp2_with fail
      refine (stampGet_any r (some d) _ (S2.out.below HBL.out) HDR.out).mono ?_
      rintro e3 w3 ⟨rfl, hb3⟩
      simp only [getVal]
      have bx3 := (X2.out.below HBL.out X2.out.lt).below hb3 (by have := X2.out.lt; omega)
      have c0 : w3.cell? ⟨w.heap.size, 0, none⟩ = some (.int .i64 v.n) := bx3.cell rfl
      have c1 : w3.cell? ⟨w.heap.size, 1, none⟩ = some (.slice A.a1 v.first.length A.c1) := bx3.cell rfl
      have c2 : w3.cell? ⟨w.heap.size, 2, none⟩ = some (.slice A.a2 v.links.length A.c2) := bx3.cell rfl
      have c3 : w3.cell? ⟨w.heap.size, 3, none⟩ = some (.slice A.a3 v.bfirst.length A.c3) := bx3.cell rfl
      have c4 : w3.cell? ⟨w.heap.size, 4, none⟩ = some (.slice A.a4 v.back.length A.c4) := bx3.cell rfl
      have hb23 : Below w2.heap.size w2 w3 := HBL.out.trans (hb3.mono hz2)
      have hsz3 := bx3.lt
      have B23 := Lib.hid hb23
      have O3 := Lib.hid (own_kept (bs := []) HOWN.out (Only.of_below hb3) (fun _ _ => by simp))
      clear hb3 bx3 hb23
      go_wp2_with fail
      refine (stalled_any v A sb cb r d ds _ (SEE.out.below (bt BB2.out B23.out)) OK.out hrn (S2.out.below B23.out) DL.out).mono ?_
      rintro e4 w4 ⟨b, rfl, hb4⟩
      have hb24 : Below w2.heap.size w2 w4 := B23.out.trans (hb4.mono B23.out.size)
      have B24 := Lib.hid hb24
      have hz4 := hb24.size
      have O4 := Lib.hid (own_kept (bs := []) O3.out (Only.of_below hb4) (fun _ _ => by simp))
      have hL65 : L.length ≤ 65536 := by rw [HLK.out]; omega
      clear hb4 hb24
      go_wp2_with (at_builtin; refine wpList_app _ rfl _ _ 113 rfl 117 (.agg #[.int .i64 0, .int .u64 0, .bool false]) 3 24 Tryz.underlying113 Tryz.infoSeen rfl (by decide) (.slice ao2 L.length cap2) L.length (L.flatMap seenCells) rfl ?own ⟨w4.heap.size, 0, none⟩ 1 1 (seenCells ⟨r, d, b⟩) rfl rfl ?c1 ?c2 ?c3 ?c4 ?_)
      case own => exact O4.out.alloc _
      case c1 => exact cells_new w4 _ _
      case c2 => intro u hu; simp [seenCells] at hu; rcases hu with rfl | rfl | rfl <;> rfl
      case c3 => unfold maxLen; omega
      case c4 => omega
      intro ao5 cap5 w5 hown5 ho5 hk5
      have hnew5 : ∀ x, (Value.slice ao5 (L.length + 1) cap5).ownBlock = some x → w2.heap.size ≤ x := by
        intro x hx
        rcases hk5 x hx with h1 | h1
        · exact HNEW.out x h1
        · omega
      have hbl5 : Below w2.heap.size w2 w5 := (B24.out.alloc hz4 _).trans (ho5.below (by simp; omega) (fun x hx => HNEW.out x (by simpa using hx)))
      have hf5 : L.flatMap seenCells ++ seenCells (⟨r, d, b⟩ : SeenD) = (L ++ [(⟨r, d, b⟩ : SeenD)]).flatMap seenCells := by rw [List.flatMap_append]; simp
      rw [hf5] at hown5
      have O5 := Lib.hid hown5
      have N5 := Lib.hid hnew5
      have B5 := Lib.hid hbl5
      clear hown5 ho5 hk5 hnew5 hbl5 hf5
      go_wp2_with fail
      rw [← EA.out]
      go_roundg ((allTo ds v.n).length - (k + 1))
      case measure => rw [HGK.out]; omega
      case rel =>
        have hlen : (L ++ [(⟨r, d, b⟩ : SeenD)]).length = L.length + 1 := by simp
        refine ⟨k + 1, ao5, cap5, L ++ [(⟨r, d, b⟩ : SeenD)], by go_num, by omega, rfl, by rw [hlen], by rw [hlen, HLK.out], by rw [hlen]; exact O5.out, by rw [hlen]; exact N5.out, B5.out, ?_⟩
        rw [List.map_append, HMAP.out, List.take_add_one, HR.out]
        simp only [Option.toList_some, List.map_append, List.map_cons, List.map_nil]
        rw [HD0.out]
        rfl
    · obtain rfl : k = (allTo ds v.n).length := by omega
      go_wp2
      go_returns
      refine ⟨ao2, cap2, L, fun r => ds.getD r none, rfl, HOWN.out, ?_, HD.out, ?_, BB2.out.trans (HBL.out.mono BB2.out.size)⟩
      · intro x hx
        have := HNEW.out x hx
        have := BB2.out.size
        omega
      · rw [HMAP.out, List.take_length, seenOf_allTo]
end Go.Proofs.YtblkkjfpggcgfaaGreatDoor
