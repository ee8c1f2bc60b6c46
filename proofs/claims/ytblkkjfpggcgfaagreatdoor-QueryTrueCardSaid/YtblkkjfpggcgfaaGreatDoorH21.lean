/- The web's search from a rank. -/
import Derived.Test.YtblkkjfpggcgfaaGreatDoorH15
import Derived.Test.YtblkkjfpggcgfaaGreatDoorH20
namespace Go.Proofs.YtblkkjfpggcgfaaGreatDoor
open Go.ChangeShapes Go.WideShapes Go.ChangeAt Go.RowKit Go.Joins Go.Deep
noncomputable def fromBody : Code := Tryz.f58.body.getD .skip
def FromNew (n : Nat) (W : Nat → List (Nat × Nat)) (r : Int) (u : Nat) (w : World) (e : Ending) (w' : World) : Prop :=
  ∃ b D, e = .returned (.slice (some ⟨b, 0, none⟩) n n) ∧ Cells w' b 35 (distCells n D) ∧ IsS W r u D ∧ (∀ v d, D v = some d → 0 ≤ d ∧ d ≤ 65535 * 140737488355328) ∧ w.heap.size ≤ b ∧ Below w.heap.size w w'
theorem HRep.foot_lt {w : World} {hb ab : Nat} {iv : Value} {s : HS} (h : HRep w hb iv ab s) : ∀ k ∈ hfoot hb iv ab, k < w.heap.size := by
  intro k hk
  simp only [hfoot, List.mem_cons] at hk
  rcases hk with rfl | rfl | hk
  · exact h.hd.lt
  · exact h.pl.lt
  · exact own_lt h.its (by simpa using hk)
structure FInv (n : Nat) (W : Nat → List (Nat × Nat)) (r : Int) (u : Nat) (bo hb ab : Nat) (w : World) (iv : Value) (hs : HS) (m D : Nat → Option Int) (P : Nat → Nat × Nat → Prop) (wx : World) : Prop where
  b : Below w.heap.size w wx
  x : Cells wx w.heap.size 87 [.slice (some ⟨bo, 0, none⟩) n n]
  d : Cells wx (w.heap.size + 1) 35 (distCells n D)
  h : HRep wx hb iv ab hs
  o : Holds hs n m
  i : DInv n W r u D m P
  f : ∀ k ∈ hfoot hb iv ab, w.heap.size + 1 < k
theorem FInv.below {n : Nat} {W : Nat → List (Nat × Nat)} {r : Int} {u bo hb ab : Nat} {w : World} {iv : Value} {hs : HS} {m D : Nat → Option Int} {P : Nat → Nat × Nat → Prop} {wx wy : World} (k : FInv n W r u bo hb ab w iv hs m D P wx) (o : Below wx.heap.size wx wy) : FInv n W r u bo hb ab w iv hs m D P wy :=
  ⟨k.b.trans (o.mono k.b.size), k.x.below o k.x.lt, k.d.below o k.d.lt, k.h.below o, k.o, k.i, k.f⟩
set_option linter.unusedSimpArgs false in
set_option maxRecDepth 100000 in
set_option maxHeartbeats 8000000 in
theorem from_loop {s0 s2 s4 s5 s6 s8 s10 s11 s12 s13 s14 s15 s16 s17 s18 s19 s20 s21 s22 s23 s24 s25 s26 s27 s28 s29 s30 s31 s32 s33 s34 s35 s36 s37 s38 s39 s40 s41 s42 s43 s44 s45 s46 s47 s48 s49 s50 s51 s52 s53 s54 s55 s56 s57 s58 s59 s60 s61 s62 s63 s64 s65 s66 s67 s68 s69 s70 s71 s72 s73 s74 s75 s76 s77 s78 s79 s80 s81 s82 s83 s84 s85 s86 s87 s88 s89 s90 s91 s92 s93 s94 s95 s96 s97 s98 s99 : Value} {n base bo u hb ab : Nat} {W : Nat → List (Nat × Nat)} {vs : Nat → Value} {r : Int} {w wx : World} {iv : Value} {hs : HS} {m D : Nat → Option Int} (wr : WRep base n W bo vs w) (hW : ∀ a s, a < n → s ∈ W a → s.1 < n ∧ s.2 ≤ 140737488355328) (hlen : ∀ a, a < n → (W a).length ≤ 1048576) (hn : n ≤ 65536) (k : FInv n W r u bo hb ab w iv hs m D (fun _ _ => True) wx) :
    Code.wp Tryz.prog (tailAt 7 fromBody) (bodyPost Tryz.prog Tryz.f58 (FromNew n W r u w)) ⟨#[s0, .int .i64 r, s2, .pointer (some ⟨w.heap.size, 0, none⟩), s4, s5, s6, .slice (some ⟨w.heap.size + 1, 0, none⟩) n n, s8, .pointer (some ⟨hb, 0, none⟩), s10, s11, s12, s13, s14, s15, s16, s17, s18, s19, s20, s21, s22, s23, s24, s25, s26, s27, s28, s29, s30, s31, s32, s33, s34, s35, s36, s37, s38, s39, s40, s41, s42, s43, s44, s45, s46, s47, s48, s49, s50, s51, s52, s53, s54, s55, s56, s57, s58, s59, s60, s61, s62, s63, s64, s65, s66, s67, s68, s69, s70, s71, s72, s73, s74, s75, s76, s77, s78, s79, s80, s81, s82, s83, s84, s85, s86, s87, s88, s89, s90, s91, s92, s93, s94, s95, s96, s97, s98, s99], []⟩ wx := by
  have K := Lib.hid k
  have WR := Lib.hid wr
  have HW := Lib.hid hW
  have HLEN := Lib.hid hlen
  clear k wr hW hlen
  conv => arg 2; whnf
  go_wp2_with fail
  go_loopg [11] (mu n D m) (fun g _ wr => ∃ iv hs m D, g = mu n D m ∧ FInv n W r u bo hb ab w iv hs m D (fun _ _ => True) wr)
  case atStart => exact ⟨_, _, _, _, rfl, K.out⟩
  case round =>
    obtain ⟨iv, hs, m, D, hg, hk⟩ := hrel
    obtain ⟨wo, rfl⟩ : ∃ wo : World, wo = wr := ⟨_, rfl⟩
    have HG := Lib.hid hg
    have KO := Lib.hid hk
    clear hg hk K
    cases hx : hs.1[0]? with
    | none =>
      have HX := Lib.hid hx
      clear hx
      go_wp2_with fail
      refine (pop_any _ KO.out.h KO.out.o.good).mono ?_
      rw [HX.out]
      rintro e w4 ⟨rfl, hN⟩
      simp only [topVal]
      have HN := Lib.hid hN
      clear hN
      go_wp2
      go_returns
      obtain ⟨iv4, hr4, ho4, hs4⟩ := HN.out
      refine ⟨w.heap.size + 1, D, rfl, KO.out.d.kept ho4 (fun h => by have := KO.out.f _ h; omega), KO.out.i.done (KO.out.o.empty (by simpa using HX.out)), fun v d h => KO.out.i.big hn h, by omega, KO.out.b.trans (ho4.below KO.out.b.size (fun q hq => by have := KO.out.f q hq; omega))⟩
    | some x =>
      obtain ⟨kk, id⟩ := x
      obtain ⟨hmid, hidn, hmin⟩ := KO.out.o.top hx
      have hDid := KO.out.i.q id kk hmid
      have hkb := KO.out.i.big hn hDid
      have hmu := mu_pop (D := D) hmid hidn
      have HX := Lib.hid hx
      have HDID := Lib.hid hDid
      have HMU := Lib.hid hmu
      clear hx hmid hmin hDid hmu
      go_wp2_with fail
      refine (pop_any _ KO.out.h KO.out.o.good).mono ?_
      rw [HX.out]
      rintro e w4 ⟨rfl, hN⟩
      simp only [topVal]
      obtain ⟨iv4, hr4, ho4, hs4⟩ := hN
      have hf4 : ∀ q ∈ hfoot hb iv4 ab, w.heap.size + 1 < q := fun q hq => by
        have h0 := KO.out.d.lt
        rcases hs4 q hq with c | c
        · exact KO.out.f q c
        · omega
      have K4 := Lib.hid (FInv.mk (KO.out.b.trans (ho4.below KO.out.b.size (fun q hq => by have := KO.out.f q hq; omega))) (KO.out.x.kept ho4 (fun h => by have := KO.out.f _ h; omega)) (KO.out.d.kept ho4 (fun h => by have := KO.out.f _ h; omega)) hr4 (KO.out.o.pop HX.out) (KO.out.i.pop id) hf4)
      have hme : eraseM m id id = none := if_pos rfl
      have HME := Lib.hid hme
      clear hr4 ho4 hs4 hf4 hme
      obtain ⟨ao, cap, hvs⟩ := own_form' (WR.out.own id hidn)
      have hown := WR.out.own id hidn
      rw [hvs] at hown
      have hsee := (See.of_own stepCells_len hown (by omega)).1
      have HSEE := Lib.hid hsee
      have e0 : w4.cell? ⟨bo, id, none⟩ = some (.slice ao (W id).length cap) := ck K4.out.b (WR.out.o.cell (by rw [List.getElem?_map, List.getElem?_range hidn, ← hvs]; rfl))
      have q3 : w4.cell? ⟨w.heap.size, 0, none⟩ = some (.slice (some ⟨bo, 0, none⟩) n n) := K4.out.x.cell rfl
      have hl := HLEN.out id hidn
      clear hown hsee hvs
      go_wp2_with fail
      go_loopg [61] (W id).length (fun g vj wr => ∃ (j : Nat) (iv : Value) (hs : HS) (m' D' : Nat → Option Int), vj = .int .i64 j ∧ j ≤ (W id).length ∧ g = (W id).length - j ∧ D' id = some kk ∧ m' id = none ∧ mu n D' m' + 1 ≤ mu n D m ∧ FInv n W r u bo hb ab w iv hs m' D' (fun a t => a = id → t ∈ (W id).take j) wr)
      case atStart => exact ⟨0, _, _, _, _, rfl, Nat.zero_le _, rfl, HDID.out, HME.out, by have := HMU.out; omega, ⟨K4.out.b, K4.out.x, K4.out.d, K4.out.h, K4.out.o, ⟨K4.out.i.src, K4.out.i.walk, K4.out.i.q, fun a x s ha hs' hr' hm' hP => K4.out.i.fwd a x s ha hs' hr' hm' (fun e => by have := hP e; simp at this), K4.out.i.bnd⟩, K4.out.f⟩⟩
      case round =>
        obtain ⟨j, iv5, hs5, m5, D5, rfl, hj, hgj, hd5, hm5, hmu5, hk5⟩ := hrel
        obtain ⟨wp, rfl⟩ : ∃ wp : World, wp = wr := ⟨_, rfl⟩
        have HGJ := Lib.hid hgj
        have HD5 := Lib.hid hd5
        have HM5 := Lib.hid hm5
        have HMU5 := Lib.hid hmu5
        have K5 := Lib.hid hk5
        clear hgj hd5 hm5 hmu5 hk5 e0 q3
        by_cases hjl : j < (W id).length
        · obtain ⟨s, hs⟩ : ∃ s, (W id)[j]? = some s := ⟨_, List.getElem?_eq_getElem hjl⟩
          have hsm := List.mem_of_getElem? hs
          obtain ⟨hs1, hs2⟩ := HW.out id s hidn hsm
          obtain ⟨b2, o2, ea2, cc2⟩ := (HSEE.out.below K5.out.b).cell j s hs
          have a0 := cc2 0 _ rfl
          have a1 := cc2 1 _ rfl
          rw [Nat.add_zero] at a0
          have EA := Lib.hid ea2
          have HS := Lib.hid hs
          have HSM := Lib.hid hsm
          have htk : (W id).take (j + 1) = (W id).take j ++ [s] := by rw [List.take_add_one, hs]; rfl
          have HTK := Lib.hid htk
          clear cc2 ea2 hs hsm htk
          obtain ⟨wq, hwq⟩ : ∃ wq, wp.alloc (.cells (stepCells s).toArray 139) = wq := ⟨_, rfl⟩
          have hst := Cells.new wp 139 (stepCells s)
          have ho := (Below.refl wp.heap.size wp).alloc (Nat.le_refl _) (.cells (stepCells s).toArray 139)
          rw [hwq] at hst ho
          have K6 := Lib.hid (K5.out.below ho)
          have lt5 := K5.out.d.lt
          have HFL := Lib.hid (fun q hq => K5.out.h.foot_lt q hq)
          have v0 : wq.cell? ⟨wp.heap.size, 0, none⟩ = some (.int .i64 (s.1 : Nat)) := hst.cell rfl
          have v1 : wq.cell? ⟨wp.heap.size, 1, none⟩ = some (.int .u64 (s.2 : Nat)) := hst.cell rfl
          have y0 : wq.cell? ⟨w.heap.size + 1, s.1, none⟩ = some (.int .u64 (farOf (D5 s.1))) := K6.out.d.cell (distCells_get hs1)
          have usum : IntKind.u64.wrap (kk + (s.2 : Int)) = kk + (s.2 : Int) := IntWalk.u64_in _ (by omega)
          have ucv : IntKind.u32.wrap (s.1 : Int) = (s.1 : Int) := IntWalk.u32_in _ (by omega)
          have HST := Lib.hid hst
          have HWQ := Lib.hid hwq
          clear hst ho hwq K5
          rw [EA.out]
          go_upto_region 18 with fail
          try rw [show wp.alloc (.cells #[.int .i64 (s.1 : Nat), .int .u64 (s.2 : Nat)] 139) = wq from HWQ.out]
          clear a0 a1
          by_cases hgt : r < (s.1 : Int)
          · have e1 : decide (r < (s.1 : Int)) = true := by simpa using hgt
            by_cases hlt : kk + (s.2 : Int) < farOf (D5 s.1)
            · have e2 : decide (kk + (s.2 : Int) < farOf (D5 s.1)) = true := by simpa using hlt
              have hrel := K6.out.i.relax hn HD5.out HM5.out HSM.out hgt hs1 hs2 hlt
              have HREL := Lib.hid hrel
              clear hrel
              go_quiet (fail)
              obtain ⟨wz, hwz⟩ : ∃ wz, wq.drewN nq = wz := ⟨_, rfl⟩
              have k7 := K6.out.below (below_drewN (Below.refl _ _) nq)
              have hst7 := HST.out.drewN nq
              rw [hwz] at k7 hst7 ⊢
              have K7 := Lib.hid k7
              have HST7 := Lib.hid hst7
              have v2 : wz.cell? ⟨wp.heap.size, 0, none⟩ = some (.int .i64 (s.1 : Nat)) := hst7.cell rfl
              have v3 : wz.cell? ⟨wp.heap.size, 1, none⟩ = some (.int .u64 (s.2 : Nat)) := hst7.cell rfl
              have y2 : wz.cell? ⟨w.heap.size + 1, s.1, none⟩ = some (.int .u64 (farOf (D5 s.1))) := k7.d.cell (distCells_get hs1)
              have f2 := k7.d.frozen s.1
              have l2 := k7.d.lt
              clear v0 v1 y0 hwz k7 hst7 hgt hlt e1 e2
              go_upto_region 20 with fail
              have hd8 := K7.out.d.set s.1 (.int .u64 (kk + (s.2 : Int)))
              rw [distCells_set (E := updD D5 s.1 (kk + (s.2 : Int))) (by simp [updD, farOf]) (fun x hx => if_neg hx)] at hd8
              have hst8 := HST7.out.other (a := ⟨w.heap.size + 1, s.1, none⟩) (by simp; omega) (.int .u64 (kk + (s.2 : Int)))
              have hx8 := K7.out.x.other (a := ⟨w.heap.size + 1, s.1, none⟩) (by simp) (.int .u64 (kk + (s.2 : Int)))
              have hh8 := K7.out.h.kept (bs := [w.heap.size + 1]) ((Only.refl [w.heap.size + 1] wz).setCell (p := ⟨w.heap.size + 1, s.1, none⟩) (.inl (by simp)) (.int .u64 (kk + (s.2 : Int)))) (fun q hq hm => by simp only [List.mem_singleton] at hm; have := K7.out.f q hq; omega)
              have hb8 := K7.out.b.setCell (p := ⟨w.heap.size + 1, s.1, none⟩) (by simp) (.int .u64 (kk + (s.2 : Int)))
              obtain ⟨wy, hwy⟩ : ∃ wy, wz.setCell ⟨w.heap.size + 1, s.1, none⟩ (.int .u64 (kk + (s.2 : Int))) = wy := ⟨_, rfl⟩
              rw [hwy] at hd8 hst8 hx8 hh8 hb8 ⊢
              have v4 : wy.cell? ⟨wp.heap.size, 0, none⟩ = some (.int .i64 (s.1 : Nat)) := hst8.cell rfl
              have y4 : wy.cell? ⟨w.heap.size + 1, s.1, none⟩ = some (.int .u64 (kk + (s.2 : Int))) := hd8.cell (by rw [distCells_get hs1]; simp [updD, farOf])
              have KF := Lib.hid K7.out.f
              have KO7 := Lib.hid K7.out.o
              have HD8 := Lib.hid hd8
              have HX8 := Lib.hid hx8
              have HH8 := Lib.hid hh8
              have HB8 := Lib.hid hb8
              have lt8 : w.heap.size + 1 < wy.heap.size := hd8.lt
              clear hd8 hst8 hx8 hh8 hb8 hwy v2 v3 y2 f2 l2 K7 HST7 HST K6
              go_region_held3 (fun W => W.cell? ⟨wp.heap.size, 0, none⟩ = some (.int .i64 (s.1 : Nat)) ∧ W.cell? ⟨w.heap.size + 1, s.1, none⟩ = some (.int .u64 (kk + (s.2 : Int)))) (go_keep)
                (first
                | (go_at_call 83; (with_reducible refine (push_any (hb := hb) (ab := ab) (iv := iv5) (s := hs5) s.1 (kk + (s.2 : Int)) _ (HH8.out.below (Below.refl _ _).drew) KO7.out.good (by rw [KO7.out.len]; exact hs1)).mono ?_); rintro e w9 ⟨rfl, hN⟩; (obtain ⟨iv9, hr9, ho9, hs9⟩ := hN); (have m0 := ho9.cell (show wy.drew.cell? ⟨wp.heap.size, 0, none⟩ = _ from v4) (fun h => by have := HFL.out _ h; omega)); (have m1 := ho9.cell (show wy.drew.cell? ⟨w.heap.size + 1, s.1, none⟩ = _ from y4) (fun h => by have := KF.out _ h; omega)); (have R9 := Lib.hid hr9); (have O9 := Lib.hid ho9); (have S9 := Lib.hid hs9); clear hr9 ho9 hs9))
              try dsimp only [Exit.then]
              go_wp2_with fail
              rw [← EA.out]
              go_roundg ((W id).length - (j + 1))
              case measure => rw [HGJ.out]; omega
              case rel =>
                obtain ⟨i1, i2, i3, i4⟩ := HREL.out
                have hbe := HMU5.out
                have ho9 : Only (hfoot hb iv5 ab) wy w9 := ⟨O9.out.os, O9.out.tape, O9.out.output, O9.out.size, O9.out.block⟩
                refine ⟨j + 1, iv9, _, _, _, by go_num, by omega, rfl, i3, i2, by omega, HB8.out.trans (ho9.below HB8.out.size (fun q hq => by have := KF.out q hq; omega)), HX8.out.kept ho9 (fun h => by have := KF.out _ h; omega), HD8.out.kept ho9 (fun h => by have := KF.out _ h; omega), R9.out, KO7.out.pushed s.1 (kk + (s.2 : Int)) hs1, by rw [HTK.out]; simpa only [List.mem_append, List.mem_singleton] using i1, fun q hq => ?_⟩
                rcases S9.out q hq with c | c
                · exact KF.out q c
                · have : wy.heap.size ≤ q := c
                  omega
            · have e2 : decide (kk + (s.2 : Int) < farOf (D5 s.1)) = false := by simpa using hlt
              have hsk := Lib.hid (K6.out.i.skip (s := s) hn HD5.out hs2 (fun _ => hlt))
              clear hgt hlt
              go_quiet (fail)
              go_wp2_with fail
              rw [← EA.out]
              go_roundg ((W id).length - (j + 1))
              case measure => rw [HGJ.out]; omega
              case rel =>
                have k7 := K6.out.below (below_drewN (Below.refl _ _) nq)
                exact ⟨j + 1, iv5, hs5, m5, D5, by go_num, by omega, rfl, HD5.out, HM5.out, HMU5.out, k7.b, k7.x, k7.d, k7.h, k7.o, by rw [HTK.out]; simpa only [List.mem_append, List.mem_singleton] using hsk.out, k7.f⟩
          · have e1 : decide (r < (s.1 : Int)) = false := by simpa using hgt
            have hsk := Lib.hid (K6.out.i.skip (s := s) hn HD5.out hs2 (fun h => absurd h hgt))
            clear hgt
            go_quiet (fail)
            go_wp2_with fail
            rw [← EA.out]
            go_roundg ((W id).length - (j + 1))
            case measure => rw [HGJ.out]; omega
            case rel =>
              have k7 := K6.out.below (below_drewN (Below.refl _ _) nq)
              exact ⟨j + 1, iv5, hs5, m5, D5, by go_num, by omega, rfl, HD5.out, HM5.out, HMU5.out, k7.b, k7.x, k7.d, k7.h, k7.o, by rw [HTK.out]; simpa only [List.mem_append, List.mem_singleton] using hsk.out, k7.f⟩
        · obtain rfl : j = (W id).length := by omega
          go_wp2_with fail
          go_roundg (mu n D5 m5)
          case measure => rw [HG.out]; have := HMU5.out; omega
          case rel =>
            have k5 := K5.out
            exact ⟨iv5, hs5, m5, D5, rfl, k5.b, k5.x, k5.d, k5.h, k5.o, k5.i.all (fun t ht => by rw [List.take_length]; exact ht), k5.f⟩
set_option linter.unusedSimpArgs false in
set_option maxRecDepth 100000 in
set_option maxHeartbeats 8000000 in
theorem from_push {s0 s4 s5 s6 s8 s10 s11 s12 s13 s14 s15 s16 s17 s18 s19 s20 s21 s22 s23 s24 s25 s26 s27 s28 s29 s30 s31 s32 s33 s34 s35 s36 s37 s38 s39 s40 s41 s42 s43 s44 s45 s46 s47 s48 s49 s50 s51 s52 s53 s54 s55 s56 s57 s58 s59 s60 s61 s62 s63 s64 s65 s66 s67 s68 s69 s70 s71 s72 s73 s74 s75 s76 s77 s78 s79 s80 s81 s82 s83 s84 s85 s86 s87 s88 s89 s90 s91 s92 s93 s94 s95 s96 s97 s98 s99 : Value} {n base bo u hb ab : Nat} {W : Nat → List (Nat × Nat)} {vs : Nat → Value} {r : Int} {w wx : World} (wr : WRep base n W bo vs w) (hW : ∀ a s, a < n → s ∈ W a → s.1 < n ∧ s.2 ≤ 140737488355328) (hlen : ∀ a, a < n → (W a).length ≤ 1048576) (hn : n ≤ 65536) (hu : u < n) (hb0 : Below w.heap.size w wx) (hx : Cells wx w.heap.size 87 [.slice (some ⟨bo, 0, none⟩) n n]) (hd : Cells wx (w.heap.size + 1) 35 (distCells n (startD u))) (hh : HRep wx hb (.slice none 0 0) ab ([], List.replicate n 0)) (hf : ∀ k ∈ hfoot hb (.slice none 0 0) ab, w.heap.size + 1 < k) :
    Code.wp Tryz.prog (tailAt 6 fromBody) (bodyPost Tryz.prog Tryz.f58 (FromNew n W r u w)) ⟨#[s0, .int .i64 r, .int .i64 (u : Nat), .pointer (some ⟨w.heap.size, 0, none⟩), s4, s5, s6, .slice (some ⟨w.heap.size + 1, 0, none⟩) n n, s8, .pointer (some ⟨hb, 0, none⟩), s10, s11, s12, s13, s14, s15, s16, s17, s18, s19, s20, s21, s22, s23, s24, s25, s26, s27, s28, s29, s30, s31, s32, s33, s34, s35, s36, s37, s38, s39, s40, s41, s42, s43, s44, s45, s46, s47, s48, s49, s50, s51, s52, s53, s54, s55, s56, s57, s58, s59, s60, s61, s62, s63, s64, s65, s66, s67, s68, s69, s70, s71, s72, s73, s74, s75, s76, s77, s78, s79, s80, s81, s82, s83, s84, s85, s86, s87, s88, s89, s90, s91, s92, s93, s94, s95, s96, s97, s98, s99], []⟩ wx := by
  have WR := Lib.hid wr
  have HW := Lib.hid hW
  have HLEN := Lib.hid hlen
  have HB := Lib.hid hb0
  have HX := Lib.hid hx
  have HD := Lib.hid hd
  have HH := Lib.hid hh
  have HF := Lib.hid hf
  have lbd := hd.lt
  have ucv : IntKind.u32.wrap (u : Int) = (u : Int) := IntWalk.u32_in _ (by omega)
  clear wr hW hlen hb0 hx hd hh hf
  conv => arg 2; whnf
  apply wp_seq_k
  intro KK hK
  have HKK := Lib.hid hK
  clear hK
  go_wp2_with fail
  refine (push_any (hb := hb) (ab := ab) (iv := .slice none 0 0) (s := ([], List.replicate n 0)) u 0 _ HH.out ⟨⟨fun i x h => (by simp at h), fun id p h => by have := List.mem_of_getElem? h; simp at this⟩, fun j _ a b h => (by simp at h)⟩ (by simpa using hu)).mono ?_
  rintro e w4 ⟨rfl, hN⟩
  obtain ⟨iv4, hr4, ho4, hs4⟩ := hN
  have KF := Lib.hid (FInv.mk (n := n) (W := W) (r := r) (u := u) (bo := bo) (w := w) (HB.out.trans (ho4.below HB.out.size (fun q hq => by have := HF.out q hq; omega))) (HX.out.kept ho4 (fun h => by have := HF.out _ h; omega)) (HD.out.kept ho4 (fun h => by have := HF.out _ h; omega)) hr4 ((Holds.new n).pushed u 0 hu) (DInv.start hu) (fun q hq => by
    rcases hs4 q hq with c | c
    · exact HF.out q c
    · omega))
  clear hr4 ho4 hs4
  go_wp2_with fail
  refine HKK.out _ _ ?_
  change Code.wp _ (tailAt 7 fromBody) _ _ _
  exact from_loop WR.out HW.out HLEN.out hn KF.out
set_option linter.unusedSimpArgs false in
set_option maxRecDepth 100000 in
set_option maxHeartbeats 8000000 in
theorem from_set {s0 s4 s5 s6 s8 s10 s11 s12 s13 s14 s15 s16 s17 s18 s19 s20 s21 s22 s23 s24 s25 s26 s27 s28 s29 s30 s31 s32 s33 s34 s35 s36 s37 s38 s39 s40 s41 s42 s43 s44 s45 s46 s47 s48 s49 s50 s51 s52 s53 s54 s55 s56 s57 s58 s59 s60 s61 s62 s63 s64 s65 s66 s67 s68 s69 s70 s71 s72 s73 s74 s75 s76 s77 s78 s79 s80 s81 s82 s83 s84 s85 s86 s87 s88 s89 s90 s91 s92 s93 s94 s95 s96 s97 s98 s99 : Value} {n base bo u hb ab : Nat} {W : Nat → List (Nat × Nat)} {vs : Nat → Value} {r : Int} {w wx : World} (wr : WRep base n W bo vs w) (hW : ∀ a s, a < n → s ∈ W a → s.1 < n ∧ s.2 ≤ 140737488355328) (hlen : ∀ a, a < n → (W a).length ≤ 1048576) (hn : n ≤ 65536) (hu : u < n) (hb0 : Below w.heap.size w wx) (hx : Cells wx w.heap.size 87 [.slice (some ⟨bo, 0, none⟩) n n]) (hd : Cells wx (w.heap.size + 1) 35 (distCells n (fun _ => none))) (hh : HRep wx hb (.slice none 0 0) ab ([], List.replicate n 0)) (hf : ∀ k ∈ hfoot hb (.slice none 0 0) ab, w.heap.size + 1 < k) :
    Code.wp Tryz.prog (tailAt 5 fromBody) (bodyPost Tryz.prog Tryz.f58 (FromNew n W r u w)) ⟨#[s0, .int .i64 r, .int .i64 (u : Nat), .pointer (some ⟨w.heap.size, 0, none⟩), s4, s5, s6, .slice (some ⟨w.heap.size + 1, 0, none⟩) n n, s8, .pointer (some ⟨hb, 0, none⟩), s10, s11, s12, s13, s14, s15, s16, s17, s18, s19, s20, s21, s22, s23, s24, s25, s26, s27, s28, s29, s30, s31, s32, s33, s34, s35, s36, s37, s38, s39, s40, s41, s42, s43, s44, s45, s46, s47, s48, s49, s50, s51, s52, s53, s54, s55, s56, s57, s58, s59, s60, s61, s62, s63, s64, s65, s66, s67, s68, s69, s70, s71, s72, s73, s74, s75, s76, s77, s78, s79, s80, s81, s82, s83, s84, s85, s86, s87, s88, s89, s90, s91, s92, s93, s94, s95, s96, s97, s98, s99], []⟩ wx := by
  have WR := Lib.hid wr
  have HW := Lib.hid hW
  have HLEN := Lib.hid hlen
  have HF := Lib.hid hf
  have y0 : wx.cell? ⟨w.heap.size + 1, u, none⟩ = some (.int .u64 18446744073709551615) := hd.cell (distCells_get hu)
  have f0 := hd.frozen u
  have lbd := hd.lt
  have hd2 := hd.set u (.int .u64 0)
  rw [distCells_set (E := startD u) (by simp [startD, farOf]) (fun x hx => by simp [startD, hx])] at hd2
  have HD := Lib.hid hd2
  have HX := Lib.hid (hx.other (a := ⟨w.heap.size + 1, u, none⟩) (by simp) (.int .u64 0))
  have HB := Lib.hid (hb0.setCell (p := ⟨w.heap.size + 1, u, none⟩) (by simp) (.int .u64 0))
  have HH := Lib.hid (hh.kept (bs := [w.heap.size + 1]) ((Only.refl [w.heap.size + 1] wx).setCell (p := ⟨w.heap.size + 1, u, none⟩) (.inl (by simp)) (.int .u64 0)) (fun q hq hm => by simp only [List.mem_singleton] at hm; have := hf q hq; omega))
  clear wr hW hlen hb0 hx hd hh hf hd2
  conv => arg 2; whnf
  apply wp_seq_k
  intro KK hK
  have HKK := Lib.hid hK
  clear hK
  go_wp2_with fail
  refine HKK.out _ _ ?_
  change Code.wp _ (tailAt 6 fromBody) _ _ _
  exact from_push WR.out HW.out HLEN.out hn hu HB.out HX.out HD.out HH.out HF.out
set_option linter.unusedSimpArgs false in
set_option maxRecDepth 100000 in
set_option maxHeartbeats 8000000 in
theorem from_new {s0 s4 s5 s6 s8 s9 s10 s11 s12 s13 s14 s15 s16 s17 s18 s19 s20 s21 s22 s23 s24 s25 s26 s27 s28 s29 s30 s31 s32 s33 s34 s35 s36 s37 s38 s39 s40 s41 s42 s43 s44 s45 s46 s47 s48 s49 s50 s51 s52 s53 s54 s55 s56 s57 s58 s59 s60 s61 s62 s63 s64 s65 s66 s67 s68 s69 s70 s71 s72 s73 s74 s75 s76 s77 s78 s79 s80 s81 s82 s83 s84 s85 s86 s87 s88 s89 s90 s91 s92 s93 s94 s95 s96 s97 s98 s99 : Value} {n base bo u : Nat} {W : Nat → List (Nat × Nat)} {vs : Nat → Value} {r : Int} {w wx : World} (wr : WRep base n W bo vs w) (hW : ∀ a s, a < n → s ∈ W a → s.1 < n ∧ s.2 ≤ 140737488355328) (hlen : ∀ a, a < n → (W a).length ≤ 1048576) (hn : n ≤ 65536) (hu : u < n) (hb0 : Below w.heap.size w wx) (hx : Cells wx w.heap.size 87 [.slice (some ⟨bo, 0, none⟩) n n]) (hd : Cells wx (w.heap.size + 1) 35 (distCells n (fun _ => none))) :
    Code.wp Tryz.prog (tailAt 3 fromBody) (bodyPost Tryz.prog Tryz.f58 (FromNew n W r u w)) ⟨#[s0, .int .i64 r, .int .i64 (u : Nat), .pointer (some ⟨w.heap.size, 0, none⟩), s4, s5, s6, .slice (some ⟨w.heap.size + 1, 0, none⟩) n n, s8, s9, s10, s11, s12, s13, s14, s15, s16, s17, s18, s19, s20, s21, s22, s23, s24, s25, s26, s27, s28, s29, s30, s31, s32, s33, s34, s35, s36, s37, s38, s39, s40, s41, s42, s43, s44, s45, s46, s47, s48, s49, s50, s51, s52, s53, s54, s55, s56, s57, s58, s59, s60, s61, s62, s63, s64, s65, s66, s67, s68, s69, s70, s71, s72, s73, s74, s75, s76, s77, s78, s79, s80, s81, s82, s83, s84, s85, s86, s87, s88, s89, s90, s91, s92, s93, s94, s95, s96, s97, s98, s99], []⟩ wx := by
  have WR := Lib.hid wr
  have HW := Lib.hid hW
  have HLEN := Lib.hid hlen
  have HB := Lib.hid hb0
  have HX := Lib.hid hx
  have HD := Lib.hid hd
  have q3 : wx.cell? ⟨w.heap.size, 0, none⟩ = some (.slice (some ⟨bo, 0, none⟩) n n) := hx.cell rfl
  have lbd := hd.lt
  clear wr hW hlen hb0 hx hd
  conv => arg 2; whnf
  apply wp_seq_k
  intro K0 hK
  have HK0 := Lib.hid hK
  clear hK
  go_wp2_with fail
  refine (new_any n hn _).mono ?_
  rintro e w2 ⟨rfl, hh, hb⟩
  have HH := Lib.hid hh
  have HB2 := Lib.hid (HB.out.trans (hb.mono HB.out.size))
  have HX2 := Lib.hid (HX.out.below hb HX.out.lt)
  have HD2 := Lib.hid (HD.out.below hb HD.out.lt)
  clear hh hb HB HX HD q3
  go_wp2_with fail
  refine HK0.out _ _ ?_
  clear HK0
  apply wp_seq_k
  intro KK hK
  have HKK := Lib.hid hK
  clear hK
  go_wp2_with fail
  refine HKK.out _ _ ?_
  change Code.wp _ (tailAt 5 fromBody) _ _ _
  exact from_set WR.out HW.out HLEN.out hn hu HB2.out HX2.out HD2.out HH.out (fun q hq => by simp [hfoot, Value.ownBlock] at hq; omega)
set_option linter.unusedSimpArgs false in
set_option maxRecDepth 100000 in
set_option maxHeartbeats 8000000 in
theorem from_fill {s0 s4 s5 s6 s8 s9 s10 s11 s12 s13 s14 s15 s16 s17 s18 s19 s20 s21 s22 s23 s24 s25 s26 s27 s28 s29 s30 s31 s32 s33 s34 s35 s36 s37 s38 s39 s40 s41 s42 s43 s44 s45 s46 s47 s48 s49 s50 s51 s52 s53 s54 s55 s56 s57 s58 s59 s60 s61 s62 s63 s64 s65 s66 s67 s68 s69 s70 s71 s72 s73 s74 s75 s76 s77 s78 s79 s80 s81 s82 s83 s84 s85 s86 s87 s88 s89 s90 s91 s92 s93 s94 s95 s96 s97 s98 s99 : Value} {n base bo u : Nat} {W : Nat → List (Nat × Nat)} {vs : Nat → Value} {r : Int} {w wx : World} (wr : WRep base n W bo vs w) (hW : ∀ a s, a < n → s ∈ W a → s.1 < n ∧ s.2 ≤ 140737488355328) (hlen : ∀ a, a < n → (W a).length ≤ 1048576) (hn : n ≤ 65536) (hu : u < n) (hb0 : Below w.heap.size w wx) (hx : Cells wx w.heap.size 87 [.slice (some ⟨bo, 0, none⟩) n n]) (hd : Cells wx (w.heap.size + 1) 35 (fillCells n 0)) :
    Code.wp Tryz.prog (tailAt 2 fromBody) (bodyPost Tryz.prog Tryz.f58 (FromNew n W r u w)) ⟨#[s0, .int .i64 r, .int .i64 (u : Nat), .pointer (some ⟨w.heap.size, 0, none⟩), s4, s5, s6, .slice (some ⟨w.heap.size + 1, 0, none⟩) n n, s8, s9, s10, s11, s12, s13, s14, s15, s16, s17, s18, s19, s20, s21, s22, s23, s24, s25, s26, s27, s28, s29, s30, s31, s32, s33, s34, s35, s36, s37, s38, s39, s40, s41, s42, s43, s44, s45, s46, s47, s48, s49, s50, s51, s52, s53, s54, s55, s56, s57, s58, s59, s60, s61, s62, s63, s64, s65, s66, s67, s68, s69, s70, s71, s72, s73, s74, s75, s76, s77, s78, s79, s80, s81, s82, s83, s84, s85, s86, s87, s88, s89, s90, s91, s92, s93, s94, s95, s96, s97, s98, s99], []⟩ wx := by
  have WR := Lib.hid wr
  have HW := Lib.hid hW
  have HLEN := Lib.hid hlen
  have HB0 := Lib.hid hb0
  have HX0 := Lib.hid hx
  have HD0 := Lib.hid hd
  clear wr hW hlen hb0 hx hd
  conv => arg 2; whnf
  apply wp_seq_k
  intro KK hK
  have HKK := Lib.hid hK
  clear hK
  go_wp2_with fail
  go_loopg [22] n (fun g vi wr => ∃ k : Nat, vi = .int .i64 k ∧ k ≤ n ∧ g = n - k ∧ Cells wr (w.heap.size + 1) 35 (fillCells n k) ∧ Cells wr w.heap.size 87 [.slice (some ⟨bo, 0, none⟩) n n] ∧ Below w.heap.size w wr)
  case atStart => exact ⟨0, rfl, Nat.zero_le _, rfl, HD0.out, HX0.out, HB0.out⟩
  case round =>
    obtain ⟨k, rfl, hk, hg, hcd, hcx, hbl⟩ := hrel
    have HG := Lib.hid hg
    have HD := Lib.hid hcd
    have HX := Lib.hid hcx
    have HB := Lib.hid hbl
    have ld := hcd.lt
    clear hg hcd hcx hbl
    by_cases hkl : k < n
    · have hf := HD.out.frozen k
      have hm : wr.cell? ⟨w.heap.size + 1, k, none⟩ = some (.int .u64 0) := HD.out.cell (by unfold fillCells; rw [List.getElem?_map, List.getElem?_range hkl]; simp)
      go_wp2_with fail
      go_roundg (n - (k + 1))
      case measure => rw [HG.out]; omega
      case rel => exact ⟨k + 1, by go_num, by omega, rfl, fillCells_set ▸ HD.out.set k _, HX.out.other (a := ⟨w.heap.size + 1, k, none⟩) (by simp) _, HB.out.setCell (p := ⟨w.heap.size + 1, k, none⟩) (by simp) _⟩
    · obtain rfl : k = n := by omega
      have hd1 := HD.out
      rw [fillCells_full] at hd1
      have HD1 := Lib.hid hd1
      clear hd1
      go_wp2_with fail
      refine HKK.out _ _ ?_
      change Code.wp _ (tailAt 3 fromBody) _ _ _
      exact from_new WR.out HW.out HLEN.out hn hu HB.out HX.out HD1.out
set_option linter.unusedSimpArgs false in
set_option maxRecDepth 100000 in
set_option maxHeartbeats 8000000 in
theorem from_any {n base bo u : Nat} {W : Nat → List (Nat × Nat)} {vs : Nat → Value} {r : Int} {w : World} (wr : WRep base n W bo vs w) (hW : ∀ a s, a < n → s ∈ W a → s.1 < n ∧ s.2 ≤ 140737488355328) (hlen : ∀ a, a < n → (W a).length ≤ 1048576) (hn : n ≤ 65536) (hu : u < n) :
    Calls Tryz.prog 58 #[webVal bo n, .int .i64 r, .int .i64 (u : Nat)] w (FromNew n W r u w) := by
  have hmk := run_make_n (P := Tryz.prog) 46 35 (.int .u64 0) 1 8 Tryz.underlying46 Tryz.infoU64 .i64 .i64 n (by omega) (by omega)
  have hfill : madeCells (Value.int .u64 0).cells (n * 1) = (fillCells n 0).toArray := by
    rw [fillCells_zero]
    exact madeCells_eq [Value.int .u64 0] n (by simp)
  rw [hfill] at hmk
  have WR := Lib.hid wr
  have HW := Lib.hid hW
  have HLEN := Lib.hid hlen
  have HX := Lib.hid ((Cells.new w 87 [.slice (some ⟨bo, 0, none⟩) n n]).alloc (.cells (fillCells n 0).toArray 35))
  have HD := Lib.hid (cells_at (w := w.alloc (.cells #[.slice (some ⟨bo, 0, none⟩) n n] 87)) (b := w.heap.size + 1) (by simp) 35 (fillCells n 0))
  have HB := Lib.hid (((Below.refl w.heap.size w).alloc (Nat.le_refl _) (.cells #[.slice (some ⟨bo, 0, none⟩) n n] 87)).alloc (by simp) (.cells (fillCells n 0).toArray 35))
  clear wr hW hlen hfill
  unfold webVal
  go_enter Tryz.func58, Tryz.ntmps58
  apply wp_seq_k
  intro K0 hK
  have HK0 := Lib.hid hK
  clear hK
  go_wp2_with fail
  refine HK0.out _ _ ?_
  clear HK0
  apply wp_seq_k
  intro KK hK
  have HKK := Lib.hid hK
  clear hK
  go_wp2_with fail
  refine HKK.out _ _ ?_
  change Code.wp _ (tailAt 2 fromBody) _ _ _
  exact from_fill WR.out HW.out HLEN.out hn hu HB.out HX.out HD.out
end Go.Proofs.YtblkkjfpggcgfaaGreatDoor
