/- The contract of unpack's Path. -/
import Derived.Test.YtchhbgckonpedaaGreatDoorG23
import Derived.Test.YtchhbgckonpedaaGreatDoorG16
import Derived.Test.YtchhbgckonpedaaGreatDoorG19
import Derived.Test.YtchhbgckonpedaaGreatDoorG18
import Derived.Test.YtchhbgckonpedaaGreatDoorG17
import Derived.Deep.RegionHeld3
import Derived.Deep.AppendLies
import Derived.Laws.EntriesVeiled
import Derived.Sort.AtCall
import Derived.Deep.RegionLaw
namespace Go.Proofs.YtchhbgckonpedaaGreatDoor
open Go.ChangeShapes Go.WideShapes Go.ChangeAt Go.RowKit Go.Joins Go.Deep
theorem meetTo_some {D E : Nat → Option Int} : ∀ (k r : Nat) (d : Int), meetTo D E k = (r, d) → d ≠ 18446744073709551615 → ∃ a b, D r = some a ∧ E r = some b ∧ d = a + b := by
  intro k
  induction k with
  | zero =>
    intro r d h hd
    simp only [meetTo, Prod.mk.injEq] at h
    exact absurd h.2.symm hd
  | succ k ih =>
    intro r d h hd
    unfold meetTo at h
    split at h
    · rename_i x y hx hy
      split at h
      · simp only [Prod.mk.injEq] at h
        obtain ⟨rfl, rfl⟩ := h
        exact ⟨x, y, hx, hy, rfl⟩
      · exact ih r d h hd
    · exact ih r d h hd
theorem MeetIs.parts {h : HierD} {s t : Int} {r : Nat} {d : Int} {x : EV} (m : MeetIs h s t r d x) (hx : x = .nil) : ∃ D E : Nat → Option Int, checkErr h = .nil ∧ nodesErr h.node.length s t = .nil ∧
    IsD h.node.length h.upF h.up (h.node.idxOf s.toNat) D ∧ IsD h.node.length h.dnF h.dn (h.node.idxOf t.toNat) E ∧ meetTo D E h.node.length = (r, d) ∧ d ≠ 18446744073709551615 := by
  cases m with
  | form e => exact absurd hx e
  | nodes e k => exact absurd hx k
  | walk D E r d e k hD hE hm hd => exact ⟨D, E, e, k, hD, hE, hm, hd⟩
  | none D E e k hD hE hd => cases hx
theorem Tryz.eqlNilErr (b : Int) (w : World) : (binOp .eql 30 .nilIface (.iface 61 (.int .i64 b))).run Tryz.prog w = .ok (.bool false) w := by kernel_rfl
set_option maxRecDepth 100000 in
theorem is_nil (m : Int) (w : World) : Calls Tryz.prog 41 #[.nilIface, .iface 61 (.int .i64 m)] w fun e w' => e = .returned (.bool false) ∧ w' = w := by
  have hq := Tryz.eqlNilErr m
  go_enter Tryz.func41, Tryz.ntmps41
  go_wp2
  go_returns
  exact ⟨rfl, rfl⟩
def PathNew (h : HierD) (s t : Nat) (d : Int) (w : World) (e : Ending) (w' : World) : Prop :=
  ∃ (p : List Nat) (ao : Option Addr) (cap : Nat), e = .returned (.tuple #[.slice ao p.length cap, .nilIface]) ∧ PathIs h s t d p ∧ Nats w.heap.size w' (.slice ao p.length cap) p ∧ Below w.heap.size w w'
def PlainlyOk (A : HA) (h : HierD) (s t : Nat) : Prop :=
  ∀ (W : World) (d : Int) (ls : List Nat) (r : Nat), HSee W A h → checkErr h = .nil → (∀ x ∈ ls, x < cntOf h ∧ (linkAt h x).plain = true) → Chain h ls (h.node.idxOf s) (h.node.idxOf t) → 131072 < ls.length →
    ((((ls.map fun x => (linkAt h x).wt).sum : Nat) : Int)) = d → MeetIs h s t r d .nil → Calls Tryz.prog 47 #[hierVal A h, .int .i64 s, .int .i64 t] W (PathNew h s t d W)
def UPath (h : HierD) (s t : Int) (w : World) (e : Ending) (w' : World) : Prop :=
  ∃ (r : Nat) (d : Int) (x : EV) (v : Value) (p : List Nat) (ao : Option Addr) (cap : Nat), e = .returned (.tuple #[.slice ao p.length cap, v]) ∧ ErrIs w' v x ∧ MeetIs h s t r d x ∧ (x ≠ .nil → p = []) ∧ (x = .nil → PathIs h s.toNat t.toNat d p) ∧
    Nats w.heap.size w' (.slice ao p.length cap) p ∧ Below w.heap.size w w'
theorem ways_lit (A : HA) (h : HierD) (s top t : Nat) (D E : Nat → Option Int) (a b : Int) (w : World) (see : HSee w A h) (hc : checkErr h = .nil) (htot : cntOf h ≤ 1048576) (hs : s < h.node.length) (ht : t < h.node.length)
    (hD : IsD h.node.length h.upF h.up s D) (hE : IsD h.node.length h.dnF h.dn t E) (ha : D top = some a) (hb : E top = some b) :
    Calls Tryz.prog 46 #[.agg #[.slice A.a0 h.node.length A.c0, .slice A.a1 h.upF.length A.c1, .slice A.a2 h.up.length A.c2, .slice A.a3 h.dnF.length A.c3, .slice A.a4 h.dn.length A.c4], .int .i64 s, .int .i64 top, .int .i64 t] w (WaysPost h s t (a + b) w) :=
  ways_any A h s top t D E a b w see hc htot hs ht hD hE ha hb
theorem simple_lit (l : List Nat) (la : Option Addr) (lc : Nat) (w : World) (sl : See w la lc i64Cells 1 l) (hl : l.length ≤ 1048576) (hx : ∀ x ∈ l, x < 4294967296) :
    Calls Tryz.prog 48 #[.slice la l.length lc] w (NatsNew (simpleL [] l) w) := simple_any l la lc w sl hl hx
set_option maxRecDepth 100000 in
set_option maxHeartbeats 8000000 in
theorem upath_any (A : HA) (h : HierD) (s t : Int) (w : World) (see : HSee w A h) (hk : h.up.length + h.dn.length ≤ 281474976710656) (hs64 : s ≤ 9223372036854775807) (ht64 : t ≤ 9223372036854775807) (hp : PlainlyOk A h s.toNat t.toNat) :
    Calls Tryz.prog 19 #[hierVal A h, .int .i64 s, .int .i64 t] w (UPath h s t w) := by
  have SEE := Lib.hid see
  have HP := Lib.hid hp
  have HX := Lib.hid (Cells.new w 25 (hierCells A h))
  have HB := Lib.hid ((Below.refl w.heap.size w).alloc (Nat.le_refl _) (.cells (hierCells A h).toArray 25))
  clear see hp
  unfold hierVal
  go_enter Tryz.func19, Tryz.ntmps19
  go_wp2_with fail
  refine (qmeet_any A h s t _ (SEE.out.below HB.out) hs64 ht64).mono ?_
  rintro e w1 ⟨r, d, x, v, rfl, hv, hm, hb⟩
  have HX1 := Lib.hid (HX.out.below hb HX.out.lt)
  have HB1 := Lib.hid (HB.out.trans (hb.mono HB.out.size))
  obtain ⟨k0, k1, k2, k3, k4⟩ := hier_five HX1.out
  have HM := Lib.hid hm
  clear hb
  by_cases hx : x = .nil
  · subst hx
    obtain rfl := hv.nilv rfl
    obtain ⟨D, E, hc, hkk, hD, hE, hmt, hd⟩ := hm.parts rfl
    obtain ⟨⟨hs0, hsn⟩, ht0, htn⟩ := nodesErr_nil.1 hkk
    obtain ⟨s, rfl⟩ : ∃ q : Nat, s = q := ⟨s.toNat, by omega⟩
    obtain ⟨t, rfl⟩ : ∃ q : Nat, t = q := ⟨t.toNat, by omega⟩
    obtain ⟨a, b, ha, hb, hab⟩ := meetTo_some _ _ _ hmt hd
    have htot := cnt_small hc hk
    have htot2 : h.up.length + h.dn.length ≤ 1048576 := htot
    obtain ⟨u, dd⟩ := parts_firsts hc
    have hpp := checkErr_parts hc
    have hn := hpp.1.n
    have ord := order_nil hpp.2.2.2.1
    rw [Int.toNat_natCast] at hD hE
    have hms := ord.mem s (by omega)
    have hmt2 := ord.mem t (by omega)
    have his : h.node.idxOf s < h.node.length := List.idxOf_lt_length_of_mem hms
    have hit : h.node.idxOf t < h.node.length := List.idxOf_lt_length_of_mem hmt2
    have h0a := (hD.bnd (half_up hc) _ _ ha).1
    have h0b := (hE.bnd (half_dn hc) _ _ hb).1
    have HC := Lib.hid hc
    have HT := Lib.hid htot
    have HU := Lib.hid u
    have HDD := Lib.hid dd
    have HD := Lib.hid hD
    have HE := Lib.hid hE
    have HA1 := Lib.hid ha
    have HB2 := Lib.hid hb
    have HAB := Lib.hid hab
    have HMS := Lib.hid hms
    have HMT := Lib.hid hmt2
    have H0 := Lib.hid (show 0 ≤ d by omega)
    clear hv hc hkk hD hE hmt hd ha hb hab htot u dd hpp ord hms hmt2 hs0 ht0 h0a h0b
    go_wp2_with fail
    refine (ranks_any A h _ (SEE.out.below HB1.out)).mono ?_
    rintro e w2 (⟨v, rfl, -, hcc, -⟩ | ⟨rb, rfl, -, hrb, hrk, hb2⟩)
    · exact absurd HC.out hcc
    have HX2 := Lib.hid (HX1.out.below hb2 HX1.out.lt)
    have HB3 := Lib.hid (HB1.out.trans (hb2.mono HB1.out.size))
    have hsn2 : s < h.node.length := by omega
    have htn2 : t < h.node.length := by omega
    have q1 : w2.cell? ⟨rb, s, none⟩ = some (.int .i64 (h.node.idxOf s : Int)) := hrk.cell (by simp [rankCells, hsn2])
    have q2 : w2.cell? ⟨rb, t, none⟩ = some (.int .i64 (h.node.idxOf t : Int)) := hrk.cell (by simp [rankCells, htn2])
    have lrb := hrk.lt
    obtain ⟨j0, j1, j2, j3, j4⟩ := hier_five HX2.out
    obtain ⟨is, hie⟩ : ∃ is, h.node.idxOf s = is := ⟨_, rfl⟩
    obtain ⟨it, hje⟩ : ∃ it, h.node.idxOf t = it := ⟨_, rfl⟩
    rw [hie] at his q1
    rw [hje] at hit q2
    have HIE := Lib.hid hie
    have HJE := Lib.hid hje
    clear hrk hb2 hrb k0 k1 k2 k3 k4 hie hje hsn htn
    go_wp2_with fail
    go_region_held3 (fun W => W.cell? ⟨w.heap.size, 0, none⟩ = some (.slice A.a0 h.node.length A.c0) ∧ W.cell? ⟨w.heap.size, 1, none⟩ = some (.slice A.a1 h.upF.length A.c1) ∧ W.cell? ⟨w.heap.size, 2, none⟩ = some (.slice A.a2 h.up.length A.c2) ∧ W.cell? ⟨w.heap.size, 3, none⟩ = some (.slice A.a3 h.dnF.length A.c3) ∧ W.cell? ⟨w.heap.size, 4, none⟩ = some (.slice A.a4 h.dn.length A.c4) ∧ W.cell? ⟨rb, s, none⟩ = some (.int .i64 (is : Int)) ∧ W.cell? ⟨rb, t, none⟩ = some (.int .i64 (it : Int))) (go_keep)
      (first | (go_at_call 46; (with_reducible refine (ways_lit A h is r it D E a b _ ?_ HC.out HT.out his hit ?_ ?_ HA1.out HB2.out).mono ?_); exact (SEE.out.below HB3.out.drew); exact (by rw [← HIE.out]; exact HD.out); exact (by rw [← HJE.out]; exact HE.out); rintro e w3 ⟨l, lao, lcap, rfl, hway, hll, hln, hb3⟩; (have i0 := ck hb3 j0); (have i1 := ck hb3 j1); (have i2 := ck hb3 j2); (have i3 := ck hb3 j3); (have i4 := ck hb3 j4); (have i5 := ck hb3 q1); (have i6 := ck hb3 q2)))
    try dsimp only [Exit.then]
    rw [← HAB.out] at hway
    have hba := (Below.refl w2.heap.size w2).drew.trans hb3
    have HX3 := Lib.hid (HX2.out.below hba HX2.out.lt)
    have HB4 := Lib.hid (HB3.out.trans (hba.mono HB3.out.size))
    have HLN := Lib.hid (hln.mono (show w.heap.size ≤ w2.drew.heap.size from HB3.out.size))
    have HWY := Lib.hid hway
    have hz3 := HB4.out.size
    clear hln hb3 hba hway q1 q2 i5 i6 j0 j1 j2 j3 j4
    by_cases hl0 : l = []
    · subst hl0
      have hst : s = t := by
        have h1 : is = it := HWY.out.chain
        rw [← nodeAt_idx HMS.out, ← nodeAt_idx HMT.out, HIE.out, HJE.out, h1]
      have hpi := PathIs.one h s H0.out
      have HPI : Hid (PathIs h s t d [s]) := Lib.hid (by rw [← hst]; exact hpi)
      have HFR := Lib.hid ((Nats.fresh w3 [s] (by simp)).mono hz3)
      have hm2 := HM.out
      clear hst hpi i0 i1 i2 i3 i4
      go_wp2
      go_returns
      exact ⟨r, d, .nil, _, [s], some ⟨w3.heap.size, 0, none⟩, 1, rfl, rfl, HM.out, fun e => absurd rfl e, fun _ => HPI.out, HFR.out, HB4.out.alloc hz3 _⟩
    · have dl : ((l.length : Int) == 0) = false := by
        have : l.length ≠ 0 := fun e => hl0 (List.eq_nil_of_length_eq_zero e)
        simp; omega
      have HNL := Lib.hid hl0
      clear hl0
      go_wp2_with fail
      refine (ulay_any A h lao lcap l _ (SEE.out.below HB4.out) HC.out HT.out HLN.out.see.1 HWY.out.lt (by omega)).mono ?_
      rintro e w4 ⟨pao, pcap, v, rfl, hv, hpn, hb4⟩
      have hsl := stack_mem HC.out HWY.out.lt
      have hsc := stack_chain HC.out l _ _ HWY.out.lt HWY.out.chain
      have hsw : ((((stackOut h l).map fun x => (linkAt h x).wt).sum : Nat) : Int) = d := by rw [stack_wt HC.out l HWY.out.lt]; exact HWY.out.sum
      have hsn := stack_ne HC.out HWY.out.lt HNL.out
      have HB5 := Lib.hid (HB4.out.trans (hb4.mono hz3))
      have hz4 := (HB4.out.trans (hb4.mono hz3)).size
      have HX4 := Lib.hid (HX3.out.below hb4 HX3.out.lt)
      obtain ⟨m0, m1, m2, m3, m4⟩ := hier_five HX4.out
      by_cases hlong : (stackOut h l).length ≤ 131072
      · have hr : layRes h l = (stackOut h l, .nil) := by unfold layRes; rw [if_pos hlong]
        rw [hr] at hv hpn ⊢
        dsimp only at hv hpn ⊢
        obtain rfl := hv.nilv rfl
        obtain ⟨P, hP⟩ : ∃ P, stackOut h l = P := ⟨_, rfl⟩
        rw [hP] at hpn hlong hsl hsc hsw hsn ⊢
        have HPN := Lib.hid hpn
        have HSL := Lib.hid hsl
        have HPI : Hid (PathIs h s t d (simpleL [] (nodesL h P))) := Lib.hid (by
          have := PathIs.simple (d := d) hsl hsc hsn (by omega)
          rwa [← HIE.out, ← HJE.out, nodeAt_idx HMS.out, nodeAt_idx HMT.out] at this)
        have HLT := Lib.hid (fun x hx => (hsl x hx).1)
        have SP := Lib.hid hpn.see.1
        have hnl : (nodesL h P).length ≤ 1048576 := by have := nodesL_len (h := h) P; omega
        have HNB := Lib.hid (nodes_bnd HC.out P (fun x hx => (hsl x hx).1) SEE.out.bn)
        clear hv hr hP hpn hsl hsc hsw hsn hb4 i0 i1 i2 i3 i4
        go_wp2_with fail
        refine (is_nil 2 _).mono ?_
        rintro e w5 ⟨rfl, rfl⟩
        go_wp2_with fail
        go_region_held3 (fun W => W.cell? ⟨w.heap.size, 0, none⟩ = some (.slice A.a0 h.node.length A.c0) ∧ W.cell? ⟨w.heap.size, 1, none⟩ = some (.slice A.a1 h.upF.length A.c1) ∧ W.cell? ⟨w.heap.size, 2, none⟩ = some (.slice A.a2 h.up.length A.c2) ∧ W.cell? ⟨w.heap.size, 3, none⟩ = some (.slice A.a3 h.dnF.length A.c3) ∧ W.cell? ⟨w.heap.size, 4, none⟩ = some (.slice A.a4 h.dn.length A.c4)) (go_keep)
          (first
          | (go_at_call 43; (with_reducible refine (heads_lit A h _ ?_ HU.out HDD.out hn htot2).mono ?_); exact (SEE.out.below HB5.out.drew); rintro e w6 ⟨ao2, cap2, rfl, hn2, hb2⟩; (have n0 := ck hb2 m0); (have n1 := ck hb2 m1); (have n2 := ck hb2 m2); (have n3 := ck hb2 m3); (have n4 := ck hb2 m4); (have SA := Lib.hid hn2.see.1); (have HB6 := Lib.hid (HB5.out.drew.trans (hb2.mono HB5.out.size))); (have HSP := Lib.hid (SP.out.below ((Below.refl w5.heap.size w5).drew.trans hb2))); clear hn2 hb2)
          | (go_at_call 42; (with_reducible refine (unodes_lit A h ao2 pao cap2 pcap P _ ?_ HC.out HT.out SA.out HSP.out HLT.out hlong).mono ?_); exact (SEE.out.below HB6.out); rintro e w7 ⟨ao3, cap3, rfl, hn3, hb3⟩; (have o0 := ck hb3 n0); (have o1 := ck hb3 n1); (have o2 := ck hb3 n2); (have o3 := ck hb3 n3); (have o4 := ck hb3 n4); (have SB := Lib.hid hn3.see.1); (have HB7 := Lib.hid (HB6.out.trans (hb3.mono HB6.out.size))); clear hn3 hb3)
          | (go_at_call 48; (with_reducible refine (simple_lit (nodesL h P) ao3 cap3 _ SB.out hnl HNB.out).mono ?_); rintro e w8 ⟨ao4, cap4, rfl, hn4, hb5⟩; (have r0 := ck hb5 o0); (have r1 := ck hb5 o1); (have r2 := ck hb5 o2); (have r3 := ck hb5 o3); (have r4 := ck hb5 o4); (have HN8 := Lib.hid (hn4.mono HB7.out.size)); (have HB8 := Lib.hid (HB7.out.trans (hb5.mono HB7.out.size))); clear hn4 hb5))
        try dsimp only [Exit.then]
        go_wp2
        go_returns
        exact ⟨r, d, .nil, _, simpleL [] (nodesL h P), ao4, cap4, rfl, rfl, HM.out, fun e => absurd rfl e, fun _ => HPI.out, HN8.out, HB8.out⟩
      · have hr : layRes h l = ([], .code 2) := by unfold layRes; rw [if_neg hlong]
        rw [hr] at hv hpn ⊢
        dsimp only at hv hpn ⊢
        obtain rfl : v = errV 2 := hv
        have HSL := Lib.hid hsl
        have HSC := Lib.hid hsc
        have HSW := Lib.hid hsw
        have HLG := Lib.hid (show 131072 < (stackOut h l).length by omega)
        clear hr hpn hsl hsc hsw hsn hb4 i0 i1 i2 i3 i4 hlong
        unfold errV
        go_wp2_with fail
        refine (is_errno 2 2 _).mono ?_
        rintro e w5 ⟨rfl, rfl⟩
        go_wp2_with fail
        refine (HP.out _ d (stackOut h l) r (SEE.out.below HB5.out) HC.out HSL.out ?_ HLG.out HSW.out HM.out).mono ?_
        · rw [Int.toNat_natCast, Int.toNat_natCast, HIE.out, HJE.out]; exact HSC.out
        rintro e w6 ⟨p, ao6, cap6, rfl, hpi, hn6, hb6⟩
        have HPI := Lib.hid hpi
        have HN6 := Lib.hid (hn6.mono HB5.out.size)
        have HB6 := Lib.hid (HB5.out.trans (hb6.mono HB5.out.size))
        clear hpi hn6 hb6 m0 m1 m2 m3 m4
        go_wp2
        go_returns
        exact ⟨r, d, .nil, _, p, ao6, cap6, rfl, rfl, HM.out, fun e => absurd rfl e, fun _ => HPI.out, HN6.out, HB6.out⟩
  · obtain ⟨tt, u, rfl⟩ := hv.iface hx
    have HV := Lib.hid hv
    have HN := Lib.hid hx
    clear hv hm hx k0 k1 k2 k3 k4
    go_wp2
    go_returns
    exact ⟨r, d, x, _, [], none, 0, rfl, HV.out, HM.out, fun _ => rfl, fun e => absurd e HN.out, Nats.nil _ _, HB1.out⟩
set_option maxRecDepth 100000 in
theorem samenats_any (l : List Nat) (ao bo : Option Addr) (n m ca cb : Nat) (w : World) (hn : n = l.length) (hm : m = l.length) (sa : See w ao ca i64Cells 1 l) (sb : See w bo cb i64Cells 1 l) :
    Calls Tryz.prog 14 #[.slice ao n ca, .slice bo m cb] w (BoolIs true w) := by
  subst hn hm
  have hl := Nat.le_trans sa.hcap sa.hmax
  have SA := Lib.hid sa
  have SB := Lib.hid sb
  clear sa sb
  simp only [maxLen] at hl
  go_enter Tryz.func14, Tryz.ntmps14
  go_wp2_with fail
  go_loopg [13] l.length (fun g vi wr => ∃ k : Nat, vi = .int .i64 k ∧ k ≤ l.length ∧ g = l.length - k ∧ Below w.heap.size w wr)
  case atStart => exact ⟨0, rfl, Nat.zero_le _, rfl, Below.refl _ _⟩
  case round =>
    obtain ⟨k, rfl, hk, hg, hb⟩ := hrel
    obtain ⟨wo, rfl⟩ : ∃ wo : World, wo = wr := ⟨_, rfl⟩
    have HG := Lib.hid hg
    have HB := Lib.hid hb
    clear hg hb
    by_cases hlt : k < l.length
    · obtain ⟨x, hx⟩ : ∃ x, l[k]? = some x := ⟨_, List.getElem?_eq_getElem hlt⟩
      obtain ⟨b1, o1, e1, cc1⟩ := SA.out.cell k x hx
      obtain ⟨b2, o2, e2, cc2⟩ := SB.out.cell k x hx
      have c1 := ck HB.out (cc1 0 _ rfl)
      have c2 := ck HB.out (cc2 0 _ rfl)
      rw [Nat.mul_one, Nat.add_zero] at c1 c2
      have E1 := Lib.hid e1
      have E2 := Lib.hid e2
      have t0 : ((x : Int) != (x : Int)) = false := by simp
      clear hx cc1 cc2 e1 e2
      rw [E1.out, E2.out]
      go_wp2_with fail
      go_quiet (fail)
      go_wp2_with fail
      rw [← E1.out, ← E2.out]
      go_roundg (l.length - (k + 1))
      case measure => rw [HG.out]; omega
      case rel => exact ⟨k + 1, by go_num, by omega, rfl, below_drewN HB.out _⟩
    · obtain rfl : k = l.length := by omega
      go_wp2
      go_returns
      exact ⟨rfl, HB.out⟩
theorem three_links : linksRes threeD 1 = ([2, 0], .nil) := by decide +kernel
theorem three_nodes : nodesRes threeD 1 = ([0, 1, 2], .nil) := by decide +kernel
theorem three_step (x : Nat) (hx : x < cntOf threeD) (hp : (linkAt threeD x).plain = true) : stepOf threeD x = (1, 2) ∨ stepOf threeD x = (0, 1) := by
  have h3 : x < 3 := hx
  rcases (by omega : x = 0 ∨ x = 1 ∨ x = 2) with rfl | rfl | rfl
  · exact .inl (by decide +kernel)
  · exact absurd hp (by decide +kernel)
  · exact .inr (by decide +kernel)
theorem three_path {p : List Nat} {d : Int} (h : PathIs threeD 0 2 d p) : p = [0, 1, 2] := by
  obtain ⟨h1, h2, -, ls, hl, hs, -⟩ := h
  have hm : ∀ q ∈ steps p, q = (1, 2) ∨ q = (0, 1) := by
    intro q hq
    rw [hs, List.mem_map] at hq
    obtain ⟨x, hx, rfl⟩ := hq
    exact three_step x (hl x hx).1 (hl x hx).2
  match p, h1, h2, hm with
  | [a], h1, h2, _ =>
    simp at h1 h2
    omega
  | [a, b], h1, h2, hm =>
    simp at h1 h2
    have := hm (a, b) (by simp [steps])
    simp at this
    omega
  | [a, b, c], h1, h2, hm =>
    simp at h1 h2
    have := hm (a, b) (by simp [steps])
    have := hm (b, c) (by simp [steps])
    simp at *
    omega
  | a :: b :: c :: e :: l, h1, h2, hm =>
    simp at h1
    have h3 := hm (a, b) (by simp [steps])
    have h4 := hm (b, c) (by simp [steps])
    have h5 := hm (c, e) (by simp [steps])
    simp at h3 h4 h5
    omega
theorem three_plainly (A : HA) : PlainlyOk A threeD 0 2 := by
  intro W d ls r see hc hl hch hlong hsum hm
  obtain ⟨-, rfl, -⟩ := three_02 hm
  have key : ∀ l : List Nat, (∀ x ∈ l, x < cntOf threeD ∧ (linkAt threeD x).plain = true) → l.length ≤ (l.map fun x => (linkAt threeD x).wt).sum := by
    intro l
    induction l with
    | nil => intro _; simp
    | cons x l ih =>
      intro h
      have h1 := ih (fun y hy => h y (by simp [hy]))
      have h2 : 1 ≤ (linkAt threeD x).wt := by
        have h3 : x < 3 := (h x (by simp)).1
        rcases (by omega : x = 0 ∨ x = 1 ∨ x = 2) with rfl | rfl | rfl <;> decide +kernel
      rw [List.map_cons, List.sum_cons, List.length_cons]
      omega
  have := key ls hl
  omega
set_option maxRecDepth 100000 in
set_option maxHeartbeats 4000000 in
theorem awake22_any (w : World) : Calls Tryz.prog 9 #[] w (TrueNew w) := by
  go_enter Tryz.func9, Tryz.ntmps9
  go_wp2_with fail
  refine (three_any _).mono ?_
  rintro e w1 ⟨A1, rfl, s1, -, b1⟩
  have B1 := Lib.hid b1
  have S1 := Lib.hid s1
  clear b1 s1
  go_wp2_with fail
  refine (ulinks_any A1 threeD 1 _ S1.out (by decide) (by omega)).mono ?_
  rintro e w2 ⟨ao1, c1, v, rfl, hv, hn, hb⟩
  rw [three_links] at hv hn ⊢
  dsimp only at hv hn ⊢
  obtain rfl := hv.nilv rfl
  have L2 := Lib.hid hn.see.1
  have B2 := Lib.hid (B1.out.trans (hb.mono B1.out.size))
  clear hb hv hn B1 S1
  go_wp2_with fail
  refine (three_any _).mono ?_
  rintro e w3 ⟨A3, rfl, s3, -, b3⟩
  have B3 := Lib.hid (B2.out.trans (b3.mono B2.out.size))
  have L3 := Lib.hid (L2.out.below b3)
  have S3 := Lib.hid s3
  clear b3 s3 B2 L2
  go_wp2_with fail
  refine (unodesOf_any A3 threeD 1 _ S3.out (by decide) (by omega)).mono ?_
  rintro e w4 ⟨ao2, c2, v, rfl, hv, hn, hb⟩
  rw [three_nodes] at hv hn ⊢
  dsimp only at hv hn ⊢
  obtain rfl := hv.nilv rfl
  have N4 := Lib.hid hn.see.1
  have L4 := Lib.hid (L3.out.below hb)
  have B4 := Lib.hid (B3.out.trans (hb.mono B3.out.size))
  clear hb hv hn B3 S3 L3
  go_wp2_with fail
  refine (three_any _).mono ?_
  rintro e w5 ⟨A5, rfl, s5, -, b5⟩
  have B5 := Lib.hid (B4.out.trans (b5.mono B4.out.size))
  have L5 := Lib.hid (L4.out.below b5)
  have N5 := Lib.hid (N4.out.below b5)
  have S5 := Lib.hid s5
  clear b5 s5 B4 L4 N4
  go_wp2_with fail
  refine (upath_any A5 threeD 0 2 _ S5.out (by decide) (by omega) (by omega) (three_plainly A5)).mono ?_
  rintro e w6 ⟨r, d, x, v, p, ao3, c3, rfl, hv, hm, -, hp, hn, hb⟩
  obtain ⟨-, -, rfl⟩ := three_02 hm
  obtain rfl := hv.nilv rfl
  obtain rfl := three_path (hp rfl)
  have P6 := Lib.hid hn.see.1
  have L6 := Lib.hid (L5.out.below hb)
  have N6 := Lib.hid (N5.out.below hb)
  have B6 := Lib.hid (B5.out.trans (hb.mono B5.out.size))
  clear hb hv hn hp hm B5 S5 L5 N5
  go_wp2_with fail
  have z6 := B6.out.size
  refine (samenats_any [2, 0] ao1 _ 2 2 c1 2 _ rfl rfl (L6.out.below ((Below.refl _ _).alloc (Nat.le_refl _) _)) (Nats.fresh w6 [2, 0] (by simp)).see.1).mono ?_
  rintro e w7 ⟨rfl, hb⟩
  have N7 := Lib.hid ((N6.out.alloc (.cells #[.int .i64 2, .int .i64 0] 3)).below hb)
  have P7 := Lib.hid ((P6.out.alloc (.cells #[.int .i64 2, .int .i64 0] 3)).below hb)
  have B7 := Lib.hid ((B6.out.alloc z6 (.cells #[.int .i64 2, .int .i64 0] 3)).trans (hb.mono (by simp; omega)))
  clear hb N6 P6 L6
  go_wp2_with fail
  have z7 := B7.out.size
  refine (samenats_any [0, 1, 2] ao2 _ 3 3 c2 3 _ rfl rfl (N7.out.below ((Below.refl _ _).alloc (Nat.le_refl _) _)) (Nats.fresh w7 [0, 1, 2] (by simp)).see.1).mono ?_
  rintro e w8 ⟨rfl, hb⟩
  have P8 := Lib.hid ((P7.out.alloc (.cells #[.int .i64 0, .int .i64 1, .int .i64 2] 3)).below hb)
  have B8 := Lib.hid ((B7.out.alloc z7 (.cells #[.int .i64 0, .int .i64 1, .int .i64 2] 3)).trans (hb.mono (by simp; omega)))
  clear hb N7 P7
  go_wp2_with fail
  have z8 := B8.out.size
  refine (samenats_any [0, 1, 2] ao3 _ 3 3 c3 3 _ rfl rfl (P8.out.below ((Below.refl _ _).alloc (Nat.le_refl _) _)) (Nats.fresh w8 [0, 1, 2] (by simp)).see.1).mono ?_
  rintro e w9 ⟨rfl, hb⟩
  have B9 := Lib.hid ((B8.out.alloc z8 (.cells #[.int .i64 0, .int .i64 1, .int .i64 2] 3)).trans (hb.mono (by simp; omega)))
  clear hb P8
  go_wp2
  go_returns
  exact ⟨rfl, B9.out⟩
end Go.Proofs.YtchhbgckonpedaaGreatDoor
/- The reference's look at one link: a plain link; the error of its weight. -/
namespace Go.Proofs.YtchhbgckonpedaaGreatDoor
open Go.ChangeShapes Go.WideShapes Go.ChangeAt Go.RowKit Go.Joins Go.Deep
structure LK0 (A : HA) (h : HierD) (l : LinkD) (w : World) (bl be : Nat) (e1 : List Value) (x1 : EV) (wx : World) : Prop where
  l : Cells wx bl 65 (linkCells l)
  x : Cells wx w.heap.size 25 (hierCells A h)
  r : Cells wx (w.heap.size + 1) 36 errZero
  b : Below w.heap.size w wx
  e : Cells wx be 36 e1
  u : ErrV wx (.agg e1.toArray) x1
theorem LK0.below {A : HA} {h : HierD} {l : LinkD} {w : World} {bl be : Nat} {e1 : List Value} {x1 : EV} {wx wy : World} (k : LK0 A h l w bl be e1 x1 wx) (o : Below wx.heap.size wx wy) : LK0 A h l w bl be e1 x1 wy :=
  ⟨k.l.below o k.l.lt, k.x.below o k.x.lt, k.r.below o k.r.lt, k.b.trans (o.mono k.b.size), k.e.below o k.e.lt, k.u.below o⟩
end Go.Proofs.YtchhbgckonpedaaGreatDoor
/- The reference's look at a hierarchy: the copies of an error into the result; the loop over the links. -/
namespace Go.Proofs.YtchhbgckonpedaaGreatDoor
open Go.ChangeShapes Go.WideShapes Go.ChangeAt Go.RowKit Go.Joins Go.Deep
structure DK (A : HA) (h : HierD) (w wx : World) : Prop where
  x : Cells wx w.heap.size 25 (hierCells A h)
  r : Cells wx (w.heap.size + 1) 36 errZero
  b : Below w.heap.size w wx
theorem DK.below {A : HA} {h : HierD} {w wx wy : World} (k : DK A h w wx) (o : Below wx.heap.size wx wy) : DK A h w wy := ⟨k.x.below o k.x.lt, k.r.below o k.r.lt, k.b.trans (o.mono k.b.size)⟩
end Go.Proofs.YtchhbgckonpedaaGreatDoor
/- The reference's look at a hierarchy: the loop over the nodes. -/
namespace Go.Proofs.YtchhbgckonpedaaGreatDoor
open Go.ChangeShapes Go.WideShapes Go.ChangeAt Go.RowKit Go.Joins Go.Deep
theorem DK.set {A : HA} {h : HierD} {w wx : World} (k : DK A h w wx) {bs j : Nat} {v : Value} (h1 : w.heap.size ≠ bs) (h2 : w.heap.size + 1 ≠ bs) (h3 : w.heap.size ≤ bs) : DK A h w (wx.setCell ⟨bs, j, none⟩ v) :=
  ⟨k.x.other (a := ⟨bs, j, none⟩) h1 _, k.r.other (a := ⟨bs, j, none⟩) h2 _, k.b.setCell (p := ⟨bs, j, none⟩) h3 _⟩
def TwoErrs (v : Value) (x1 x2 : EV) (W : World) : Prop := ∃ (b : Nat) (c1 c2 : Int) (a1 a2 : Option Addr) (n1 k1 n2 k2 : Nat), v = .slice (some ⟨b, 0, none⟩) 2 2 ∧ Cells W b 36 [.int .i64 c1, .slice a1 n1 k1, .int .i64 c2, .slice a2 n2 k2] ∧ ErrV W (.agg #[.int .i64 c1, .slice a1 n1 k1]) x1 ∧ ErrV W (.agg #[.int .i64 c2, .slice a2 n2 k2]) x2
theorem TwoErrs.below {v : Value} {x1 x2 : EV} {W W' : World} (t : TwoErrs v x1 x2 W) (o : Below W.heap.size W W') : TwoErrs v x1 x2 W' := by
  obtain ⟨b, c1, c2, a1, a2, n1, k1, n2, k2, e, hc, h1, h2⟩ := t
  exact ⟨b, c1, c2, a1, a2, n1, k1, n2, k2, e, hc.below o hc.lt, h1.below o, h2.below o⟩
def I6 (s0 s5 s6 s7 s8 s9 s10 s11 s12 s13 s14 s15 s16 s17 s18 s19 s20 s21 s22 s23 s24 s25 s26 s27 s28 s29 s30 s31 s32 s33 s34 s35 s36 s37 s38 s39 s40 s41 s42 s43 s60 s61 s62 s63 s64 s65 s66 s67 s68 s69 s70 s71 s72 s73 s74 s75 s76 s77 s78 s79 s80 s81 s82 s83 s84 s85 s86 s87 s88 s89 s90 s91 s92 s93 s94 s95 s96 s97 s98 s99 s100 s101 s102 s103 s104 s105 s106 : Value) (A : HA) (h : HierD) (w : World) (x1 x2 x : EV) (n : Nat) (L : Array Bool) (a : Act) (w' : World) : Prop :=
  ∃ (dA dB dS dF d1 : Bool) (vA vB vS vF v1 : Value) (b4 : Nat), n + (cnt dA + cnt dB + cnt dS + cnt dF + cnt d1) = 6 ∧ L = #[true, true, true, true, true, true, dA, true, true, true, true, true, true, dB, dS, dF, d1, false] ∧
    a = ⟨#[s0, .pointer (some ⟨w.heap.size, 0, none⟩), .pointer (some ⟨(w.heap.size + 1), 0, none⟩), .int .i64 (h.node.length : Nat), v1, s5, s6, s7, s8, s9, s10, s11, s12, s13, s14, s15, s16, s17, s18, s19, s20, s21, s22, s23, s24, s25, s26, s27, s28, s29, s30, s31, s32, s33, s34, s35, s36, s37, s38, s39, s40, s41, s42, s43, .pointer (some ⟨w.heap.size, 1, none⟩), .slice A.a1 h.upF.length A.c1, .int .i64 (h.node.length : Nat), .pointer (some ⟨w.heap.size, 2, none⟩), .slice A.a2 h.up.length A.c2, .int .i64 (h.up.length : Nat), vA, .pointer (some ⟨w.heap.size, 3, none⟩), .slice A.a3 h.dnF.length A.c3, .int .i64 (h.node.length : Nat), .pointer (some ⟨w.heap.size, 4, none⟩), .slice A.a4 h.dn.length A.c4, .int .i64 (h.dn.length : Nat), vB, vS, vF, s60, s61, s62, s63, s64, s65, s66, s67, s68, s69, s70, s71, s72, s73, s74, s75, s76, s77, s78, s79, s80, s81, s82, s83, s84, s85, s86, s87, s88, s89, s90, s91, s92, s93, s94, s95, s96, s97, s98, s99, s100, s101, s102, s103, s104, s105, s106], []⟩ ∧ (dB = true → dA = true) ∧ (dS = true → dB = true) ∧ (dF = true → dS = true) ∧
    (dA = true → ErrV w' vA x1) ∧ (dB = true → ErrV w' vB x2) ∧ (dS = true → TwoErrs vS x1 x2 w') ∧ (dF = true → ErrV w' vF x) ∧
    (d1 = true → v1 = .pointer (some ⟨b4, 0, none⟩) ∧ Cells w' b4 36 errZero ∧ w.heap.size + 1 < b4) ∧ DK A h w w'
end Go.Proofs.YtchhbgckonpedaaGreatDoor
/- The reference's look at a hierarchy: the whole. -/
namespace Go.Proofs.YtchhbgckonpedaaGreatDoor
open Go.ChangeShapes Go.WideShapes Go.ChangeAt Go.RowKit Go.Joins Go.Deep
end Go.Proofs.YtchhbgckonpedaaGreatDoor
/- The reference's hierarchy turned about: number, turned, Turn. -/
namespace Go.Proofs.YtchhbgckonpedaaGreatDoor
open Go.ChangeShapes Go.WideShapes Go.ChangeAt Go.RowKit Go.Joins Go.Deep
theorem DistK.bnd {n : Nat} {first : List Nat} {links : List LinkD} {s k : Nat} {D : Nat → Option Int} (ok : HalfOk n first links) (hk : k ≤ n) (h : DistK n first links s k D) : ∀ r e, D r = some e → 0 ≤ e ∧ e ≤ r * 140737488355328 := by
  intro r
  induction r using Nat.strongRecOn with
  | _ r ih =>
    intro e he
    by_cases hr : r = s
    · subst hr
      rw [h.src] at he
      simp at he
      subst he
      exact ⟨by omega, by omega⟩
    · obtain ⟨x, d, l, hx, hxr, hd, hl, hto, rfl⟩ := h.bwd r e hr he
      obtain ⟨h1, h2, h3⟩ := ok.up x (by omega) l hl
      obtain ⟨h4, h5⟩ := ih x hxr d hd
      refine ⟨by omega, ?_⟩
      have : (x : Int) * 140737488355328 + 140737488355328 ≤ r * 140737488355328 := by omega
      omega
theorem Tryz.infoU64 : (Tryz.prog.info? 45).map (fun i => (i.zero, i.size, i.bytes)) = some (some (.int .u64 0), 1, 8) := by kernel_rfl
end Go.Proofs.YtchhbgckonpedaaGreatDoor
/- The reference's Meet: the end, the loop over the ranks. -/
namespace Go.Proofs.YtchhbgckonpedaaGreatDoor
open Go.ChangeShapes Go.WideShapes Go.ChangeAt Go.RowKit Go.Joins Go.Deep
end Go.Proofs.YtchhbgckonpedaaGreatDoor
/- The reference's DocMeet. -/
namespace Go.Proofs.YtchhbgckonpedaaGreatDoor
open Go.ChangeShapes Go.WideShapes Go.ChangeAt Go.RowKit Go.Joins Go.Deep
theorem rendCells_len (x : EndD) : (rendCells x).length = 3 := rfl
theorem Tryz.infoREnd : (Tryz.prog.info? 59).map (fun i => (i.zero, i.size, i.bytes)) = some (some (.agg #[.int .i64 0, .int .i64 0, .int .i64 0]), 3, 24) := by kernel_rfl
def ArcsNew (h : HierD) (w : World) (e : Ending) (w' : World) : Prop := ∃ ao cap, e = .returned (.slice ao (endsOf h).length cap) ∧ See w' ao cap rendCells 3 (endsOf h) ∧ (∀ b o, ao = some ⟨b, o, none⟩ → w.heap.size ≤ b) ∧ Below w.heap.size w w'
set_option maxRecDepth 100000 in
set_option maxHeartbeats 4000000 in
theorem arcs_any (A : HA) (h : HierD) (w : World) (see : HSee w A h) (u : FirstsOk h.node.length h.upF h.up.length) (d : FirstsOk h.node.length h.dnF h.dn.length) (hn : h.node.length ≤ 65536) (htot : h.up.length + h.dn.length ≤ 1048576) :
    Calls Tryz.prog 26 #[hierVal A h] w (ArcsNew h w) := by
  have hlen := endsOf_length u d
  have hrl : (ranksL h).length = (endsOf h).length := by unfold ranksL; simp
  have SEE := Lib.hid see
  have UOK := Lib.hid u
  have DOK := Lib.hid d
  have HX0 := Lib.hid (Cells.new w 25 (hierCells A h))
  have HB0 := Lib.hid ((Below.refl w.heap.size w).alloc (Nat.le_refl _) (.cells (hierCells A h).toArray 25))
  obtain ⟨k0, k1, k2, k3, k4⟩ := hier_five HX0.out
  have HLEN := Lib.hid hlen
  have HRL := Lib.hid hrl
  have hN : (endsOf h).length ≤ 1048576 := by omega
  clear see u d hlen hrl
  unfold hierVal
  go_enter Tryz.func26, Tryz.ntmps26
  go_wp2_with fail
  refine (rranks_any A h _ (SEE.out.below HB0.out) UOK.out DOK.out hn htot).mono ?_
  rintro e w1 ⟨ra, rc, rfl, sr, hb⟩
  rw [HRL.out]
  have SR := Lib.hid sr
  have HX := Lib.hid (HX0.out.below hb HX0.out.lt)
  have lz := HX.out.lt
  have HB := Lib.hid (HB0.out.trans (hb.mono HB0.out.size))
  clear sr hb HX0 HB0 k0 k1 k2 k3 k4
  obtain ⟨N, hNN⟩ : ∃ N, (endsOf h).length = N := ⟨_, rfl⟩
  rw [hNN]
  rw [hNN] at hN
  have HNN := Lib.hid hNN
  clear hNN
  go_wp2_with fail
  go_loopg [4, 10] N (fun g vm vi wr => ∃ (k : Nat) (ao2 : Option Addr) (cap2 : Nat), vi = .int .i64 k ∧ k ≤ N ∧ g = N - k ∧ vm = .slice ao2 k cap2 ∧
    wr.ownsRow 0 59 3 (.slice ao2 k cap2) k (((endsOf h).take k).flatMap rendCells) ∧ (∀ b, (Value.slice ao2 k cap2).ownBlock = some b → w1.heap.size ≤ b) ∧ Cells wr w.heap.size 25 (hierCells A h) ∧ Below w1.heap.size w1 wr)
  case atStart => exact ⟨0, none, 0, rfl, Nat.zero_le _, rfl, rfl, World.ownsRow_nil _ _ _ _, by simp [Value.ownBlock], HX.out, Below.refl _ _⟩
  case round =>
    obtain ⟨k, ao2, cap2, rfl, hk, hg, rfl, hown, hnew, hx, hbl⟩ := hrel
    obtain ⟨wo, rfl⟩ : ∃ wo : World, wo = wr := ⟨_, rfl⟩
    have HG := Lib.hid hg
    have HOWN := Lib.hid hown
    have HNEW := Lib.hid hnew
    have HX2 := Lib.hid hx
    have HBL := Lib.hid hbl
    clear hg hown hnew hx hbl HX
    by_cases hkl : k < N
    · obtain ⟨x, hx⟩ : ∃ x, (endsOf h)[k]? = some x := ⟨_, List.getElem?_eq_getElem (by rw [HNN.out]; exact hkl)⟩
      have hxd : (endsOf h).getD k default = x := by rw [List.getD_eq_getElem?_getD, hx]; rfl
      have HX := Lib.hid hx
      have HBW := Lib.hid (HB.out.trans (HBL.out.mono HB.out.size))
      obtain ⟨k0, k1, k2, k3, k4⟩ := hier_five HX2.out
      clear hx
      go_wp2_with fail
      have hrd := rendof_any A h k ra rc wo (SEE.out.below HBW.out) (SR.out.below HBL.out) UOK.out DOK.out htot (by have := HLEN.out; have := HNN.out; omega)
      rw [HRL.out, HNN.out, hxd] at hrd
      refine hrd.mono ?_
      rintro e w2 ⟨rfl, hb⟩
      have HB2 := Lib.hid hb
      have hbs := hb.size
      have hwo := HBL.out.size
      unfold rendVal
      clear hb hrd hxd k0 k1 k2 k3 k4
      have how := HOWN.out
      go_wp2_with (at_builtin; refine wpList_app _ rfl _ _ 56 rfl 59 (.agg #[.int .i64 0, .int .i64 0, .int .i64 0]) 3 24 Tryz.underlying56 Tryz.infoREnd rfl (by decide) (.slice ao2 k cap2) k (((endsOf h).take k).flatMap rendCells) rfl ?own ⟨w2.heap.size, 0, none⟩ 1 1 (rendCells x) rfl rfl ?c1 ?c2 ?c3 ?c4 ?_)
      case own => exact own_kept (bs := []) how ((Only.of_below HB2.out).alloc _) (fun q _ => by simp)
      case c1 => exact cells_new w2 59 (rendCells x)
      case c2 => intro u hu; simp [rendCells] at hu; rcases hu with rfl | rfl | rfl <;> rfl
      case c3 => unfold maxLen; omega
      case c4 => omega
      intro ao5 cap5 w5 hown5 ho5 hk5
      have hb1 := HBL.out.trans (HB2.out.mono HBL.out.size)
      have hbw := hb1.alloc hb1.size (.cells (rendCells x).toArray 59)
      have hnew5 : ∀ x, (Value.slice ao5 (k + 1) cap5).ownBlock = some x → w1.heap.size ≤ x := by
        intro x hx
        rcases hk5 x hx with h1 | h1
        · exact HNEW.out x h1
        · have := hbw.size; omega
      have hbl5 : Below w1.heap.size w1 w5 := hbw.trans (ho5.below hbw.size (fun q hq => HNEW.out q (by simpa using hq)))
      have hf5 : ((endsOf h).take k).flatMap rendCells ++ rendCells x = ((endsOf h).take (k + 1)).flatMap rendCells := by
        rw [List.take_add_one, HX.out, List.flatMap_append]
        simp
      rw [hf5] at hown5
      have hx5 := ((HX2.out.below HB2.out HX2.out.lt).alloc (.cells (rendCells x).toArray 59)).kept ho5 (by
        intro hm
        have h1 := HNEW.out _ (by simpa using hm)
        omega)
      have O5 := Lib.hid hown5
      have N5 := Lib.hid hnew5
      have B5 := Lib.hid hbl5
      have X5 := Lib.hid hx5
      clear hown5 ho5 hk5 hnew5 hbl5 hf5 hbw how hb1 hx5
      go_wp2_with fail
      go_roundg (N - (k + 1))
      case measure => rw [HG.out]; omega
      case rel => exact ⟨k + 1, ao5, cap5, by go_num, by omega, rfl, rfl, O5.out, N5.out, X5.out, B5.out⟩
    · obtain rfl : k = N := by omega
      go_wp2
      go_returns
      have hO := HOWN.out
      rw [List.take_of_length_le (by rw [HNN.out]; exact Nat.le_refl _)] at hO
      have hf := (See.of_own rendCells_len hO (by have := HNN.out; omega)).1
      exact ⟨ao2, cap2, congrArg (fun m => Ending.returned (.slice ao2 m cap2)) HNN.out.symm, hf, fun b o e => Nat.le_trans HB.out.size (HNEW.out b (by rw [e]; rfl)), HB.out.trans (HBL.out.mono HB.out.size)⟩
theorem step_app {P : Program} {ops : Array Oper} {o : Oper} {a : Act} {w : World} {K : Act → World → Prop} {Q : Exit → Act → World → Prop} {E : Prop} (hgd : o.guard = none) (s x : Operand) (t : TypeId)
    (ho : o.op = .call { callee := .builtin .append, args := #[s, x], argTypes := #[t, t] })
    (e : TypeId) (z : Value) (size bytes : Nat) (ht : P.underlying t = some (.slice e)) (hinfo : (P.info? e).map (fun i => (i.zero, i.size, i.bytes)) = some (some z, size, bytes)) (hzs : z.cells.size = size) (hsz : 0 < size)
    (v : Value) (n : Nat) (xs : List Value) (hs : a.eval s = v) (hown : w.ownsRow 0 e size v n xs)
    (ad : Addr) (m c : Nat) (news : List Value) (hx : a.eval x = .slice (some ad) m c) (hl : news.length = m * size) (hnews : ∀ j u, news[j]? = some u → w.cell? (ad.add j) = some u) (h1 : ∀ u ∈ news, u.oneCell' = true)
    (h63 : n + m ≤ maxLen) (hbytes : (n + m) * bytes ≤ 140737488355328)
    (h : ∀ ao cap w', w'.ownsRow 0 e size (.slice ao (n + m) cap) (n + m) (xs ++ news) → Only v.ownBlock.toList w w' → (∀ k, (Value.slice ao (n + m) cap).ownBlock = some k → v.ownBlock = some k ∨ w.heap.size ≤ k) → K (a.put o.dst (.slice ao (n + m) cap)) w') :
    if Region.wanted o (yielded ops a.tmps) = true then Oper.wp P o a w K Q else E := by
  have hw : Region.wanted o (yielded ops a.tmps) = true := by simp [Region.wanted, hgd]
  rw [if_pos hw]
  exact wp_app w s x t ho e z size bytes ht hinfo hzs hsz v n xs hs hown ad m c news hx hl hnews h1 h63 hbytes h
end Go.Proofs.YtchhbgckonpedaaGreatDoor
