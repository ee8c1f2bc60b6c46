/- The law of turning: its walk. -/
import Derived.Test.YtjbphoophgbmiaaLawQ1
import Derived.Test.YtjbphoophgbmiaaTurn4
namespace Go.Proofs.Ytjbphoophgbmiaa
open Go.ChangeShapes Go.WideShapes Go.ChangeAt Go.RowKit Go.Joins Go.Deep

set_option maxRecDepth 100000 in
set_option maxHeartbeats 4000000 in
theorem queryTurns_any (A : HA) (h : HierD) (s t : Int) (w : World) (see : HSee w A h) (form : HForm A) (hs64 : s ≤ 9223372036854775807) (ht64 : t ≤ 9223372036854775807) :
    Calls Try.prog 3 #[hierVal A h, .int .i64 s, .int .i64 t] w (TrueNew w) := by
  have SEE := Lib.hid see
  have FORM := Lib.hid form
  clear see form
  unfold hierVal
  go_enter Try.func3, Try.ntmps3
  go_wp2_with fail
  refine (awake_any _).mono ?_
  rintro e w1 ⟨rfl, hb⟩
  have hbx1 := (Cells.new w 25 (hierCells A h)).below hb (by simp)
  have HB1 := Lib.hid (((Below.refl w.heap.size w).alloc (Nat.le_refl _) _).trans (hb.mono (by simp)))
  obtain ⟨k0, k1, k2, k3, k4⟩ := hier_five hbx1
  have HBX1 := Lib.hid hbx1
  clear hb hbx1
  go_wp2_with fail
  refine (great_any A h _).mono ?_
  rintro e w2 ⟨bb, rfl, hb⟩
  have hbx2 := HBX1.out.below hb HBX1.out.lt
  have HB2 := Lib.hid (HB1.out.trans (hb.mono HB1.out.size))
  clear hb k0 k1 k2 k3 k4 HBX1 HB1
  cases bb
  case true =>
    clear hbx2
    go_wp2
    go_returns
    exact ⟨rfl, HB2.out⟩
  case false =>
  obtain ⟨k0, k1, k2, k3, k4⟩ := hier_five hbx2
  have HBX2 := Lib.hid hbx2
  clear hbx2
  go_wp2_with fail
  refine (turn_any A h _ (SEE.out.below HB2.out) FORM.out).mono ?_
  rintro e w3 (⟨v, rfl, hv, hne, hb⟩ | ⟨A', rfl, hc, see', form', hb⟩)
  · obtain ⟨tt, u, rfl⟩ := hv.iface hne
    have hbx3 := HBX2.out.below hb HBX2.out.lt
    have HB3 := Lib.hid (HB2.out.trans (hb.mono HB2.out.size))
    have lb := hbx3.lt
    have HNE := Lib.hid hne
    clear hb k0 k1 k2 k3 k4 hv hne
    obtain ⟨k0, k1, k2, k3, k4⟩ := hier_five hbx3
    clear hbx3
    unfold zeroHier
    go_wp2_with fail
    refine (hcheck_any A h _ (SEE.out.below (HB3.out.alloc HB3.out.size _))).mono ?_
    rintro e w4 ⟨v, rfl, hv, hb⟩
    obtain ⟨tt, u, rfl⟩ := hv.iface HNE.out
    have HB4 := Lib.hid ((HB3.out.alloc HB3.out.size (.cells #[.slice none 0 0, .slice none 0 0, .slice none 0 0, .slice none 0 0, .slice none 0 0] 25)).trans (hb.mono (by have := HB3.out.size; simp; omega)))
    clear hb hv k0 k1 k2 k3 k4
    go_wp2
    go_returns
    exact ⟨rfl, HB4.out⟩
  · have hc' : checkErr (turnD h) = .nil := turn_ok hc (by
      obtain ⟨f, e1, e2, -, -⟩ := checkErr_parts hc
      exact f.total SEE.out (firsts_nil f.u e1) (firsts_nil f.d e2))
    have hbx0 := HBX2.out.below hb HBX2.out.lt
    have hbx3 := hbx0.alloc (.cells (hierCells A' (turnD h)).toArray 25)
    have hby3 := Cells.new w3 25 (hierCells A' (turnD h))
    have HB3 := Lib.hid ((HB2.out.trans (hb.mono HB2.out.size)).alloc (Nat.le_trans HB2.out.size hb.size) (.cells (hierCells A' (turnD h)).toArray 25))
    have HC := Lib.hid hc
    have HC' := Lib.hid hc'
    have SEE' := Lib.hid (see'.below ((Below.refl _ _).alloc (Nat.le_refl _) (.cells (hierCells A' (turnD h)).toArray 25)))
    have hnl : h.node.length ≤ 65536 := (checkErr_parts hc).1.n
    have OK := Lib.hid (order_nil (checkErr_parts hc).2.2.2.1)
    clear hb k0 k1 k2 k3 k4 hc hc' see' form' FORM HBX2 HB2
    obtain ⟨k0, k1, k2, k3, k4⟩ := hier_five hbx0
    have lb3 := hbx0.lt
    have HX := Lib.hid hbx3
    have HY := Lib.hid hby3
    clear hbx3 hby3 hbx0
    unfold hierVal
    go_wp2_with fail
    refine (distance_any A h s t _ (SEE.out.below HB3.out) hs64 ht64).mono ?_
    rintro e w4 ⟨r1, d1, x1, v1, rfl, hv1, hm1, hb⟩
    have HV1 := Lib.hid hv1
    have HM1 := Lib.hid hm1
    have HB4 := Lib.hid (HB3.out.trans (hb.mono HB3.out.size))
    have HX4 := Lib.hid (HX.out.below hb HX.out.lt)
    have HY4 := Lib.hid (HY.out.below hb HY.out.lt)
    have SEE4 := Lib.hid (SEE'.out.below hb)
    clear hb hv1 hm1 k0 k1 k2 k3 k4 HX HY SEE'
    obtain ⟨k0, k1, k2, k3, k4⟩ := hier_five HX4.out
    obtain ⟨u0, u1, u2, u3, u4⟩ := hier_five HY4.out
    go_wp2_with fail
    refine (distance_any A' (turnD h) t s _ SEE4.out ht64 hs64).mono ?_
    rintro e w5 ⟨r2, d2, x2, v2, rfl, hv2, hm2, hb⟩
    have HV2 := Lib.hid hv2
    have HM2 := Lib.hid hm2
    have HB5 := Lib.hid (HB4.out.trans (hb.mono HB4.out.size))
    have HX5 := Lib.hid (HX4.out.below hb HX4.out.lt)
    have HY5 := Lib.hid (HY4.out.below hb HY4.out.lt)
    have SEE5 := Lib.hid (SEE4.out.below hb)
    clear hb hv2 hm2 k0 k1 k2 k3 k4 u0 u1 u2 u3 u4 HX4 HY4 SEE4 HB4
    obtain ⟨k0, k1, k2, k3, k4⟩ := hier_five HX5.out
    obtain ⟨u0, u1, u2, u3, u4⟩ := hier_five HY5.out
    go_wp2_with fail
    refine (qmeet_any A h s t _ (SEE.out.below HB5.out) hs64 ht64).mono ?_
    rintro e w6 ⟨r3, d3, x3, v3, rfl, hv3, hm3, hb⟩
    have HV3 := Lib.hid hv3
    have HM3 := Lib.hid hm3
    have HB6 := Lib.hid (HB5.out.trans (hb.mono HB5.out.size))
    have HX6 := Lib.hid (HX5.out.below hb HX5.out.lt)
    have HY6 := Lib.hid (HY5.out.below hb HY5.out.lt)
    have SEE6 := Lib.hid (SEE5.out.below hb)
    clear hb hv3 hm3 k0 k1 k2 k3 k4 u0 u1 u2 u3 u4 HX5 HY5 SEE5 HB5
    obtain ⟨k0, k1, k2, k3, k4⟩ := hier_five HX6.out
    obtain ⟨u0, u1, u2, u3, u4⟩ := hier_five HY6.out
    go_wp2_with fail
    refine (qmeet_any A' (turnD h) t s _ SEE6.out ht64 hs64).mono ?_
    rintro e w7 ⟨r4, d4, x4, v4, rfl, hv4, hm4, hb⟩
    have HB7 := Lib.hid (HB6.out.trans (hb.mono HB6.out.size))
    have hx7 := HX6.out.below hb HX6.out.lt
    obtain ⟨rfl, rfl, rfl⟩ := HM1.out.same HM3.out
    obtain ⟨rfl, rfl, rfl⟩ := HM2.out.same hm4
    obtain ⟨rfl, rfl, hxx⟩ := HM1.out.turned HC.out HC'.out HM2.out
    have HX7 := Lib.hid hx7
    clear hb hx7 hm4 k0 k1 k2 k3 k4 u0 u1 u2 u3 u4 HX6 HY6 SEE6 HB6 HM3
    obtain ⟨k0, k1, k2, k3, k4⟩ := hier_five HX7.out
    have lb7 := HX7.out.lt
    by_cases hnil : x1 = .nil
    · subst hnil
      have hx2 := hxx.1 rfl
      subst hx2
      obtain rfl := HV1.out.nilv rfl
      obtain rfl := HV2.out.nilv rfl
      obtain rfl := HV3.out.nilv rfl
      obtain rfl := hv4.nilv rfl
      have hin := HM1.out.nodes_in
      have hmem : s.toNat ∈ h.node := OK.out.mem _ (by omega)
      have HMEM := Lib.hid hmem
      obtain ⟨hs0, hs1⟩ := hin.1
      clear hxx hv4 hin hmem HV1 HV2 HV3
      go_wp2_with fail
      go_quiet (fail)
      go_wp2_with fail
      go_loopg [97] h.node.length (fun g vi wr => ∃ k : Nat, vi = .int .i64 k ∧ k ≤ h.node.length ∧ g = h.node.length - k ∧ (∀ (j x : Nat), j < k → h.node[j]? = some x → (x : Int) ≠ s) ∧ Cells wr w.heap.size 25 (hierCells A h) ∧ Below w.heap.size w wr)
      case atStart => exact ⟨0, rfl, Nat.zero_le _, rfl, fun j x hj => by omega, HX7.out, below_drewN HB7.out _⟩
      case round =>
        obtain ⟨k, rfl, hk, hg, hall, hcs, hbl⟩ := hrel
        have HG := Lib.hid hg
        have HALL := Lib.hid hall
        have HBL := Lib.hid hbl
        have HCS := Lib.hid hcs
        have lb := hcs.lt
        obtain ⟨k0, k1, k2, k3, k4⟩ := hier_five hcs
        clear hg hall hbl hcs
        by_cases hkl : k < h.node.length
        · obtain ⟨x, hx⟩ : ∃ x, h.node[k]? = some x := ⟨_, List.getElem?_eq_getElem (by omega)⟩
          obtain ⟨b, o, ea, cc⟩ := (SEE.out.below HBL.out).node.cell k x hx
          have e0 := cc 0 _ rfl
          rw [Nat.mul_one, Nat.add_zero] at e0
          have hx32 : x < 4294967296 := SEE.out.bn x (List.mem_of_getElem? hx)
          have EA := Lib.hid ea
          have HXX := Lib.hid hx
          clear cc ea hx
          by_cases hxs : (x : Int) = s
          · obtain rfl : s = (x : Int) := hxs.symm
            rw [EA.out]
            go_wp2_with fail
            rw [← EA.out]
            refine (distance_any A h x x _ (SEE.out.below HBL.out) (by omega) (by omega)).mono ?_
            rintro e w8 ⟨r8, d8, x8, v8, rfl, hv8, hm8, hb⟩
            obtain ⟨rfl, rfl, rfl⟩ := hm8.self HC.out HXX.out
            obtain rfl := hv8.nilv rfl
            have HB8 := Lib.hid (HBL.out.trans (hb.mono HBL.out.size))
            have hc8 := HCS.out.below hb HCS.out.lt
            clear k0 k1 k2 k3 k4 hb hv8 hm8 HBL HCS
            obtain ⟨k0, k1, k2, k3, k4⟩ := hier_five hc8
            clear hc8
            go_wp2_with fail
            refine (qmeet_any A h x x _ (SEE.out.below HB8.out) (by omega) (by omega)).mono ?_
            rintro e w9 ⟨r9, d9, x9, v9, rfl, hv9, hm9, hb⟩
            obtain ⟨rfl, rfl, rfl⟩ := hm9.self HC.out HXX.out
            obtain rfl := hv9.nilv rfl
            have HB9 := Lib.hid (HB8.out.trans (hb.mono HB8.out.size))
            clear k0 k1 k2 k3 k4 hb hv9 hm9 HB8
            go_wp2
            go_returns
            exact ⟨rfl, HB9.out⟩
          · have d1 : ((x : Int) == s) = false := by simpa using hxs
            have HXS := Lib.hid hxs
            clear hxs
            rw [EA.out]
            go_wp2_with fail
            rw [← EA.out]
            go_roundg (h.node.length - (k + 1))
            case measure => rw [HG.out]; omega
            case rel =>
              refine ⟨k + 1, by go_num, by omega, rfl, fun j y hj hy => ?_, HCS.out, HBL.out⟩
              rcases Nat.lt_or_ge j k with h1 | h1
              · exact HALL.out j y h1 hy
              · obtain rfl : j = k := by omega
                rw [HXX.out] at hy
                simp only [Option.some.injEq] at hy
                subst hy
                exact HXS.out
        · obtain rfl : k = h.node.length := by omega
          obtain ⟨j, hj⟩ := List.mem_iff_getElem?.1 HMEM.out
          exact absurd (by omega) (HALL.out j s.toNat (by have := (List.getElem?_eq_some_iff.1 hj).1; omega) hj)
    · have hx2 : x2 ≠ .nil := fun e => hnil (hxx.2 e)
      obtain ⟨t1, y1, rfl⟩ := HV1.out.iface hnil
      obtain ⟨t2, y2, rfl⟩ := HV2.out.iface hx2
      obtain ⟨t3, y3, rfl⟩ := HV3.out.iface hnil
      obtain ⟨t4, y4, rfl⟩ := hv4.iface hx2
      clear hxx hv4 HV1 HV2 HV3 hnil hx2
      go_wp2_with fail
      go_quiet (fail)
      go_wp2_with fail
      go_loopg [97] h.node.length (fun g vi wr => ∃ k : Nat, vi = .int .i64 k ∧ k ≤ h.node.length ∧ g = h.node.length - k ∧ (∀ (j x : Nat), j < k → h.node[j]? = some x → (x : Int) ≠ s) ∧ Cells wr w.heap.size 25 (hierCells A h) ∧ Below w.heap.size w wr)
      case atStart => exact ⟨0, rfl, Nat.zero_le _, rfl, fun j x hj => by omega, HX7.out, below_drewN HB7.out _⟩
      case round =>
        obtain ⟨k, rfl, hk, hg, hall, hcs, hbl⟩ := hrel
        have HG := Lib.hid hg
        have HALL := Lib.hid hall
        have HBL := Lib.hid hbl
        have HCS := Lib.hid hcs
        have lb := hcs.lt
        obtain ⟨k0, k1, k2, k3, k4⟩ := hier_five hcs
        clear hg hall hbl hcs
        by_cases hkl : k < h.node.length
        · obtain ⟨x, hx⟩ : ∃ x, h.node[k]? = some x := ⟨_, List.getElem?_eq_getElem (by omega)⟩
          obtain ⟨b, o, ea, cc⟩ := (SEE.out.below HBL.out).node.cell k x hx
          have e0 := cc 0 _ rfl
          rw [Nat.mul_one, Nat.add_zero] at e0
          have hx32 : x < 4294967296 := SEE.out.bn x (List.mem_of_getElem? hx)
          have EA := Lib.hid ea
          have HXX := Lib.hid hx
          clear cc ea hx
          by_cases hxs : (x : Int) = s
          · obtain rfl : s = (x : Int) := hxs.symm
            rw [EA.out]
            go_wp2_with fail
            rw [← EA.out]
            refine (distance_any A h x x _ (SEE.out.below HBL.out) (by omega) (by omega)).mono ?_
            rintro e w8 ⟨r8, d8, x8, v8, rfl, hv8, hm8, hb⟩
            obtain ⟨rfl, rfl, rfl⟩ := hm8.self HC.out HXX.out
            obtain rfl := hv8.nilv rfl
            have HB8 := Lib.hid (HBL.out.trans (hb.mono HBL.out.size))
            have hc8 := HCS.out.below hb HCS.out.lt
            clear k0 k1 k2 k3 k4 hb hv8 hm8 HBL HCS
            obtain ⟨k0, k1, k2, k3, k4⟩ := hier_five hc8
            clear hc8
            go_wp2_with fail
            refine (qmeet_any A h x x _ (SEE.out.below HB8.out) (by omega) (by omega)).mono ?_
            rintro e w9 ⟨r9, d9, x9, v9, rfl, hv9, hm9, hb⟩
            obtain ⟨rfl, rfl, rfl⟩ := hm9.self HC.out HXX.out
            obtain rfl := hv9.nilv rfl
            have HB9 := Lib.hid (HB8.out.trans (hb.mono HB8.out.size))
            clear k0 k1 k2 k3 k4 hb hv9 hm9 HB8
            go_wp2
            go_returns
            exact ⟨rfl, HB9.out⟩
          · have d1 : ((x : Int) == s) = false := by simpa using hxs
            have HXS := Lib.hid hxs
            clear hxs
            rw [EA.out]
            go_wp2_with fail
            rw [← EA.out]
            go_roundg (h.node.length - (k + 1))
            case measure => rw [HG.out]; omega
            case rel =>
              refine ⟨k + 1, by go_num, by omega, rfl, fun j y hj hy => ?_, HCS.out, HBL.out⟩
              rcases Nat.lt_or_ge j k with h1 | h1
              · exact HALL.out j y h1 hy
              · obtain rfl : j = k := by omega
                rw [HXX.out] at hy
                simp only [Option.some.injEq] at hy
                subst hy
                exact HXS.out
        · obtain rfl : k = h.node.length := by omega
          go_wp2
          go_returns
          exact ⟨rfl, HBL.out⟩
end Go.Proofs.Ytjbphoophgbmiaa
