/- The web's search from a rank. -/
import Derived.Test.YtjbphoophgbmiaaDoorM13
namespace Go.Proofs.YtjbphoophgbmiaaDoor
open Go.ChangeShapes Go.WideShapes Go.ChangeAt Go.RowKit Go.Joins Go.Deep

noncomputable def fromBody : Code := Tryd.f52.body.getD .skip
def FromNew (n : Nat) (W : Nat → List (Nat × Nat)) (r : Int) (u : Nat) (w : World) (e : Ending) (w' : World) : Prop :=
  ∃ b D, e = .returned (.slice (some ⟨b, 0, none⟩) n n) ∧ Cells w' b 37 (distCells n D) ∧ IsS W r u D ∧ (∀ v d, D v = some d → 0 ≤ d ∧ d ≤ 65535 * 140737488355328) ∧ w.heap.size ≤ b ∧ Below w.heap.size w w'
theorem HRep.foot_lt {w : World} {hb ab : Nat} {iv : Value} {s : HS} (h : HRep w hb iv ab s) : ∀ k ∈ hfoot hb iv ab, k < w.heap.size := by
  intro k hk
  simp only [hfoot, List.mem_cons] at hk
  rcases hk with rfl | rfl | hk
  · exact h.hd.lt
  · exact h.pl.lt
  · exact own_lt h.its (by simpa using hk)
/-- What holds ahead of each round. -/
structure FInv (n : Nat) (W : Nat → List (Nat × Nat)) (r : Int) (u : Nat) (bo hb ab : Nat) (w : World) (iv : Value) (hs : HS) (m D : Nat → Option Int) (P : Nat → Nat × Nat → Prop) (wx : World) : Prop where
  b : Below w.heap.size w wx
  x : Cells wx w.heap.size 92 [.slice (some ⟨bo, 0, none⟩) n n]
  d : Cells wx (w.heap.size + 1) 37 (distCells n D)
  h : HRep wx hb iv ab hs
  o : Holds hs n m
  i : DInv n W r u D m P
  f : ∀ k ∈ hfoot hb iv ab, w.heap.size + 1 < k
theorem FInv.below {n : Nat} {W : Nat → List (Nat × Nat)} {r : Int} {u bo hb ab : Nat} {w : World} {iv : Value} {hs : HS} {m D : Nat → Option Int} {P : Nat → Nat × Nat → Prop} {wx wy : World} (k : FInv n W r u bo hb ab w iv hs m D P wx) (o : Below wx.heap.size wx wy) : FInv n W r u bo hb ab w iv hs m D P wy :=
  ⟨k.b.trans (o.mono k.b.size), k.x.below o k.x.lt, k.d.below o k.d.lt, k.h.below o, k.o, k.i, k.f⟩

set_option linter.unusedSimpArgs false in
set_option maxRecDepth 100000 in
set_option maxHeartbeats 8000000 in
theorem from_loop {s0 s2 s4 s5 s6 s8 s10 s11 s12 s13 s14 s15 s16 s17 s18 s19 s20 s21 s22 s23 s24 s25 s26 s27 s28 s29 s30 s31 s32 s33 s34 s35 s36 s37 s38 s39 s40 s41 s42 s43 s44 s45 s46 s47 s48 s49 s50 s51 s52 s53 s54 s55 s56 s57 s58 s59 s60 s61 s62 s63 s64 s65 s66 s67 s68 s69 s70 s71 s72 s73 s74 s75 s76 s77 s78 s79 s80 s81 s82 s83 s84 s85 s86 s87 s88 s89 s90 s91 s92 s93 s94 s95 s96 s97 s98 s99 : Value} {n base bo u hb ab : Nat} {W : Nat → List (Nat × Nat)} {vs : Nat → Value} {r : Int} {w wx : World} {iv : Value} {hs : HS} {m D : Nat → Option Int} (wr : WRep base n W bo vs w) (hW : ∀ a s, a < n → s ∈ W a → s.1 < n ∧ s.2 ≤ 140737488355328) (hlen : ∀ a, a < n → (W a).length ≤ 1048576) (hn : n ≤ 65536) (k : FInv n W r u bo hb ab w iv hs m D (fun _ _ => True) wx) :
    Code.wp Tryd.prog (tailAt 7 fromBody) (bodyPost Tryd.prog Tryd.f52 (FromNew n W r u w)) ⟨#[s0, .int .i64 r, s2, .pointer (some ⟨w.heap.size, 0, none⟩), s4, s5, s6, .slice (some ⟨w.heap.size + 1, 0, none⟩) n n, s8, .pointer (some ⟨hb, 0, none⟩), s10, s11, s12, s13, s14, s15, s16, s17, s18, s19, s20, s21, s22, s23, s24, s25, s26, s27, s28, s29, s30, s31, s32, s33, s34, s35, s36, s37, s38, s39, s40, s41, s42, s43, s44, s45, s46, s47, s48, s49, s50, s51, s52, s53, s54, s55, s56, s57, s58, s59, s60, s61, s62, s63, s64, s65, s66, s67, s68, s69, s70, s71, s72, s73, s74, s75, s76, s77, s78, s79, s80, s81, s82, s83, s84, s85, s86, s87, s88, s89, s90, s91, s92, s93, s94, s95, s96, s97, s98, s99], []⟩ wx := by
  have K := Lib.hid k
  have WR := Lib.hid wr
  have HW := Lib.hid hW
  have HLEN := Lib.hid hlen
  clear k wr hW hlen
  conv => arg 2; whnf
  go_wp2_with fail
  go_loopg [11] (mu n D m) (fun g _ wr => ∃ iv hs m D, g = mu n D m ∧ FInv n W r u bo hb ab w iv hs m D (fun _ _ => True) wr)
  case atStart => exact ⟨_, _, _, _, rfl, K.out⟩
  case round =>
    obtain ⟨iv, hs, m, D, hg, hk⟩ := hrel
    obtain ⟨wo, rfl⟩ : ∃ wo : World, wo = wr := ⟨_, rfl⟩
    have HG := Lib.hid hg
    have KO := Lib.hid hk
    clear hg hk K
    cases hx : hs.1[0]? with
    | none =>
      have HX := Lib.hid hx
      clear hx
      go_wp2_with fail
      refine (pop_any _ KO.out.h KO.out.o.good).mono ?_
      rw [HX.out]
      rintro e w4 ⟨rfl, hN⟩
      simp only [topVal]
      have HN := Lib.hid hN
      clear hN
      go_wp2
      go_returns
      obtain ⟨iv4, hr4, ho4, hs4⟩ := HN.out
      refine ⟨w.heap.size + 1, D, rfl, KO.out.d.kept ho4 (fun h => by have := KO.out.f _ h; omega), KO.out.i.done (KO.out.o.empty (by simpa using HX.out)), fun v d h => KO.out.i.big hn h, by omega, KO.out.b.trans (ho4.below KO.out.b.size (fun q hq => by have := KO.out.f q hq; omega))⟩
    | some x =>
      obtain ⟨kk, id⟩ := x
      obtain ⟨hmid, hidn, hmin⟩ := KO.out.o.top hx
      have hDid := KO.out.i.q id kk hmid
      have hkb := KO.out.i.big hn hDid
      have hmu := mu_pop (D := D) hmid hidn
      have HX := Lib.hid hx
      have HDID := Lib.hid hDid
      have HMU := Lib.hid hmu
      clear hx hmid hmin hDid hmu
      go_wp2_with fail
      refine (pop_any _ KO.out.h KO.out.o.good).mono ?_
      rw [HX.out]
      rintro e w4 ⟨rfl, hN⟩
      simp only [topVal]
      obtain ⟨iv4, hr4, ho4, hs4⟩ := hN
      have hf4 : ∀ q ∈ hfoot hb iv4 ab, w.heap.size + 1 < q := fun q hq => by
        have h0 := KO.out.d.lt
        rcases hs4 q hq with c | c
        · exact KO.out.f q c
        · omega
      have K4 := Lib.hid (FInv.mk (KO.out.b.trans (ho4.below KO.out.b.size (fun q hq => by have := KO.out.f q hq; omega))) (KO.out.x.kept ho4 (fun h => by have := KO.out.f _ h; omega)) (KO.out.d.kept ho4 (fun h => by have := KO.out.f _ h; omega)) hr4 (KO.out.o.pop HX.out) (KO.out.i.pop id) hf4)
      have hme : eraseM m id id = none := if_pos rfl
      have HME := Lib.hid hme
      clear hr4 ho4 hs4 hf4 hme
      obtain ⟨ao, cap, hvs⟩ := own_form' (WR.out.own id hidn)
      have hown := WR.out.own id hidn
      rw [hvs] at hown
      have hsee := (See.of_own stepCells_len hown (by omega)).1
      have HSEE := Lib.hid hsee
      have e0 : w4.cell? ⟨bo, id, none⟩ = some (.slice ao (W id).length cap) := ck K4.out.b (WR.out.o.cell (by rw [List.getElem?_map, List.getElem?_range hidn, ← hvs]; rfl))
      have q3 : w4.cell? ⟨w.heap.size, 0, none⟩ = some (.slice (some ⟨bo, 0, none⟩) n n) := K4.out.x.cell rfl
      have hl := HLEN.out id hidn
      clear hown hsee hvs
      go_wp2_with fail
      go_loopg [61] (W id).length (fun g vj wr => ∃ (j : Nat) (iv : Value) (hs : HS) (m' D' : Nat → Option Int), vj = .int .i64 j ∧ j ≤ (W id).length ∧ g = (W id).length - j ∧ D' id = some kk ∧ m' id = none ∧ mu n D' m' + 1 ≤ mu n D m ∧ FInv n W r u bo hb ab w iv hs m' D' (fun a t => a = id → t ∈ (W id).take j) wr)
      case atStart => exact ⟨0, _, _, _, _, rfl, Nat.zero_le _, rfl, HDID.out, HME.out, by have := HMU.out; omega, ⟨K4.out.b, K4.out.x, K4.out.d, K4.out.h, K4.out.o, ⟨K4.out.i.src, K4.out.i.walk, K4.out.i.q, fun a x s ha hs' hr' hm' hP => K4.out.i.fwd a x s ha hs' hr' hm' (fun e => by have := hP e; simp at this), K4.out.i.bnd⟩, K4.out.f⟩⟩
      case round =>
        obtain ⟨j, iv5, hs5, m5, D5, rfl, hj, hgj, hd5, hm5, hmu5, hk5⟩ := hrel
        obtain ⟨wp, rfl⟩ : ∃ wp : World, wp = wr := ⟨_, rfl⟩
        have HGJ := Lib.hid hgj
        have HD5 := Lib.hid hd5
        have HM5 := Lib.hid hm5
        have HMU5 := Lib.hid hmu5
        have K5 := Lib.hid hk5
        clear hgj hd5 hm5 hmu5 hk5 e0 q3
        by_cases hjl : j < (W id).length
        · obtain ⟨s, hs⟩ : ∃ s, (W id)[j]? = some s := ⟨_, List.getElem?_eq_getElem hjl⟩
          have hsm := List.mem_of_getElem? hs
          obtain ⟨hs1, hs2⟩ := HW.out id s hidn hsm
          obtain ⟨b2, o2, ea2, cc2⟩ := (HSEE.out.below K5.out.b).cell j s hs
          have a0 := cc2 0 _ rfl
          have a1 := cc2 1 _ rfl
          rw [Nat.add_zero] at a0
          have EA := Lib.hid ea2
          have HS := Lib.hid hs
          have HSM := Lib.hid hsm
          have htk : (W id).take (j + 1) = (W id).take j ++ [s] := by rw [List.take_add_one, hs]; rfl
          have HTK := Lib.hid htk
          clear cc2 ea2 hs hsm htk
          obtain ⟨wq, hwq⟩ : ∃ wq, wp.alloc (.cells (stepCells s).toArray 142) = wq := ⟨_, rfl⟩
          have hst := Cells.new wp 142 (stepCells s)
          have ho := (Below.refl wp.heap.size wp).alloc (Nat.le_refl _) (.cells (stepCells s).toArray 142)
          rw [hwq] at hst ho
          have K6 := Lib.hid (K5.out.below ho)
          have lt5 := K5.out.d.lt
          have HFL := Lib.hid (fun q hq => K5.out.h.foot_lt q hq)
          have v0 : wq.cell? ⟨wp.heap.size, 0, none⟩ = some (.int .i64 (s.1 : Nat)) := hst.cell rfl
          have v1 : wq.cell? ⟨wp.heap.size, 1, none⟩ = some (.int .u64 (s.2 : Nat)) := hst.cell rfl
          have y0 : wq.cell? ⟨w.heap.size + 1, s.1, none⟩ = some (.int .u64 (farOf (D5 s.1))) := K6.out.d.cell (distCells_get hs1)
          have usum : IntKind.u64.wrap (kk + (s.2 : Int)) = kk + (s.2 : Int) := IntWalk.u64_in _ (by omega)
          have ucv : IntKind.u32.wrap (s.1 : Int) = (s.1 : Int) := IntWalk.u32_in _ (by omega)
          have HST := Lib.hid hst
          have HWQ := Lib.hid hwq
          clear hst ho hwq K5
          rw [EA.out]
          go_upto_region 18 with fail
          try rw [show wp.alloc (.cells #[.int .i64 (s.1 : Nat), .int .u64 (s.2 : Nat)] 142) = wq from HWQ.out]
          clear a0 a1
          by_cases hgt : r < (s.1 : Int)
          · have e1 : decide (r < (s.1 : Int)) = true := by simpa using hgt
            by_cases hlt : kk + (s.2 : Int) < farOf (D5 s.1)
            · have e2 : decide (kk + (s.2 : Int) < farOf (D5 s.1)) = true := by simpa using hlt
              have hrel := K6.out.i.relax hn HD5.out HM5.out HSM.out hgt hs1 hs2 hlt
              have HREL := Lib.hid hrel
              clear hrel
              go_quiet (fail)
              obtain ⟨wz, hwz⟩ : ∃ wz, wq.drewN nq = wz := ⟨_, rfl⟩
              have k7 := K6.out.below (below_drewN (Below.refl _ _) nq)
              have hst7 := HST.out.drewN nq
              rw [hwz] at k7 hst7 ⊢
              have K7 := Lib.hid k7
              have HST7 := Lib.hid hst7
              have v2 : wz.cell? ⟨wp.heap.size, 0, none⟩ = some (.int .i64 (s.1 : Nat)) := hst7.cell rfl
              have v3 : wz.cell? ⟨wp.heap.size, 1, none⟩ = some (.int .u64 (s.2 : Nat)) := hst7.cell rfl
              have y2 : wz.cell? ⟨w.heap.size + 1, s.1, none⟩ = some (.int .u64 (farOf (D5 s.1))) := k7.d.cell (distCells_get hs1)
              have f2 := k7.d.frozen s.1
              have l2 := k7.d.lt
              clear v0 v1 y0 hwz k7 hst7 hgt hlt e1 e2
              go_upto_region 20 with fail
              have hd8 := K7.out.d.set s.1 (.int .u64 (kk + (s.2 : Int)))
              rw [distCells_set (E := updD D5 s.1 (kk + (s.2 : Int))) (by simp [updD, farOf]) (fun x hx => if_neg hx)] at hd8
              have hst8 := HST7.out.other (a := ⟨w.heap.size + 1, s.1, none⟩) (by simp; omega) (.int .u64 (kk + (s.2 : Int)))
              have hx8 := K7.out.x.other (a := ⟨w.heap.size + 1, s.1, none⟩) (by simp) (.int .u64 (kk + (s.2 : Int)))
              have hh8 := K7.out.h.kept (bs := [w.heap.size + 1]) ((Only.refl [w.heap.size + 1] wz).setCell (p := ⟨w.heap.size + 1, s.1, none⟩) (.inl (by simp)) (.int .u64 (kk + (s.2 : Int)))) (fun q hq hm => by simp only [List.mem_singleton] at hm; have := K7.out.f q hq; omega)
              have hb8 := K7.out.b.setCell (p := ⟨w.heap.size + 1, s.1, none⟩) (by simp) (.int .u64 (kk + (s.2 : Int)))
              obtain ⟨wy, hwy⟩ : ∃ wy, wz.setCell ⟨w.heap.size + 1, s.1, none⟩ (.int .u64 (kk + (s.2 : Int))) = wy := ⟨_, rfl⟩
              rw [hwy] at hd8 hst8 hx8 hh8 hb8 ⊢
              have v4 : wy.cell? ⟨wp.heap.size, 0, none⟩ = some (.int .i64 (s.1 : Nat)) := hst8.cell rfl
              have y4 : wy.cell? ⟨w.heap.size + 1, s.1, none⟩ = some (.int .u64 (kk + (s.2 : Int))) := hd8.cell (by rw [distCells_get hs1]; simp [updD, farOf])
              have KF := Lib.hid K7.out.f
              have KO7 := Lib.hid K7.out.o
              have HD8 := Lib.hid hd8
              have HX8 := Lib.hid hx8
              have HH8 := Lib.hid hh8
              have HB8 := Lib.hid hb8
              have lt8 : w.heap.size + 1 < wy.heap.size := hd8.lt
              clear hd8 hst8 hx8 hh8 hb8 hwy v2 v3 y2 f2 l2 K7 HST7 HST K6
              go_region_held3 (fun W => W.cell? ⟨wp.heap.size, 0, none⟩ = some (.int .i64 (s.1 : Nat)) ∧ W.cell? ⟨w.heap.size + 1, s.1, none⟩ = some (.int .u64 (kk + (s.2 : Int)))) (go_keep)
                (first
                | (go_at_call 82; (with_reducible refine (push_any (hb := hb) (ab := ab) (iv := iv5) (s := hs5) s.1 (kk + (s.2 : Int)) _ (HH8.out.below (Below.refl _ _).drew) KO7.out.good (by rw [KO7.out.len]; exact hs1)).mono ?_); rintro e w9 ⟨rfl, hN⟩; (obtain ⟨iv9, hr9, ho9, hs9⟩ := hN); (have m0 := ho9.cell (show wy.drew.cell? ⟨wp.heap.size, 0, none⟩ = _ from v4) (fun h => by have := HFL.out _ h; omega)); (have m1 := ho9.cell (show wy.drew.cell? ⟨w.heap.size + 1, s.1, none⟩ = _ from y4) (fun h => by have := KF.out _ h; omega)); (have R9 := Lib.hid hr9); (have O9 := Lib.hid ho9); (have S9 := Lib.hid hs9); clear hr9 ho9 hs9))
              try dsimp only [Exit.then]
              go_wp2_with fail
              rw [← EA.out]
              go_roundg ((W id).length - (j + 1))
              case measure => rw [HGJ.out]; omega
              case rel =>
                obtain ⟨i1, i2, i3, i4⟩ := HREL.out
                have hbe := HMU5.out
                have ho9 : Only (hfoot hb iv5 ab) wy w9 := ⟨O9.out.os, O9.out.tape, O9.out.output, O9.out.size, O9.out.block⟩
                refine ⟨j + 1, iv9, _, _, _, by go_num, by omega, rfl, i3, i2, by omega, HB8.out.trans (ho9.below HB8.out.size (fun q hq => by have := KF.out q hq; omega)), HX8.out.kept ho9 (fun h => by have := KF.out _ h; omega), HD8.out.kept ho9 (fun h => by have := KF.out _ h; omega), R9.out, KO7.out.pushed s.1 (kk + (s.2 : Int)) hs1, by rw [HTK.out]; simpa only [List.mem_append, List.mem_singleton] using i1, fun q hq => ?_⟩
                rcases S9.out q hq with c | c
                · exact KF.out q c
                · have : wy.heap.size ≤ q := c
                  omega
            · have e2 : decide (kk + (s.2 : Int) < farOf (D5 s.1)) = false := by simpa using hlt
              have hsk := Lib.hid (K6.out.i.skip (s := s) hn HD5.out hs2 (fun _ => hlt))
              clear hgt hlt
              go_quiet (fail)
              go_wp2_with fail
              rw [← EA.out]
              go_roundg ((W id).length - (j + 1))
              case measure => rw [HGJ.out]; omega
              case rel =>
                have k7 := K6.out.below (below_drewN (Below.refl _ _) nq)
                exact ⟨j + 1, iv5, hs5, m5, D5, by go_num, by omega, rfl, HD5.out, HM5.out, HMU5.out, k7.b, k7.x, k7.d, k7.h, k7.o, by rw [HTK.out]; simpa only [List.mem_append, List.mem_singleton] using hsk.out, k7.f⟩
          · have e1 : decide (r < (s.1 : Int)) = false := by simpa using hgt
            have hsk := Lib.hid (K6.out.i.skip (s := s) hn HD5.out hs2 (fun h => absurd h hgt))
            clear hgt
            go_quiet (fail)
            go_wp2_with fail
            rw [← EA.out]
            go_roundg ((W id).length - (j + 1))
            case measure => rw [HGJ.out]; omega
            case rel =>
              have k7 := K6.out.below (below_drewN (Below.refl _ _) nq)
              exact ⟨j + 1, iv5, hs5, m5, D5, by go_num, by omega, rfl, HD5.out, HM5.out, HMU5.out, k7.b, k7.x, k7.d, k7.h, k7.o, by rw [HTK.out]; simpa only [List.mem_append, List.mem_singleton] using hsk.out, k7.f⟩
        · obtain rfl : j = (W id).length := by omega
          go_wp2_with fail
          go_roundg (mu n D5 m5)
          case measure => rw [HG.out]; have := HMU5.out; omega
          case rel =>
            have k5 := K5.out
            exact ⟨iv5, hs5, m5, D5, rfl, k5.b, k5.x, k5.d, k5.h, k5.o, k5.i.all (fun t ht => by rw [List.take_length]; exact ht), k5.f⟩

set_option linter.unusedSimpArgs false in
set_option maxRecDepth 100000 in
set_option maxHeartbeats 8000000 in
theorem from_push {s0 s4 s5 s6 s8 s10 s11 s12 s13 s14 s15 s16 s17 s18 s19 s20 s21 s22 s23 s24 s25 s26 s27 s28 s29 s30 s31 s32 s33 s34 s35 s36 s37 s38 s39 s40 s41 s42 s43 s44 s45 s46 s47 s48 s49 s50 s51 s52 s53 s54 s55 s56 s57 s58 s59 s60 s61 s62 s63 s64 s65 s66 s67 s68 s69 s70 s71 s72 s73 s74 s75 s76 s77 s78 s79 s80 s81 s82 s83 s84 s85 s86 s87 s88 s89 s90 s91 s92 s93 s94 s95 s96 s97 s98 s99 : Value} {n base bo u hb ab : Nat} {W : Nat → List (Nat × Nat)} {vs : Nat → Value} {r : Int} {w wx : World} (wr : WRep base n W bo vs w) (hW : ∀ a s, a < n → s ∈ W a → s.1 < n ∧ s.2 ≤ 140737488355328) (hlen : ∀ a, a < n → (W a).length ≤ 1048576) (hn : n ≤ 65536) (hu : u < n) (hb0 : Below w.heap.size w wx) (hx : Cells wx w.heap.size 92 [.slice (some ⟨bo, 0, none⟩) n n]) (hd : Cells wx (w.heap.size + 1) 37 (distCells n (startD u))) (hh : HRep wx hb (.slice none 0 0) ab ([], List.replicate n 0)) (hf : ∀ k ∈ hfoot hb (.slice none 0 0) ab, w.heap.size + 1 < k) :
    Code.wp Tryd.prog (tailAt 6 fromBody) (bodyPost Tryd.prog Tryd.f52 (FromNew n W r u w)) ⟨#[s0, .int .i64 r, .int .i64 (u : Nat), .pointer (some ⟨w.heap.size, 0, none⟩), s4, s5, s6, .slice (some ⟨w.heap.size + 1, 0, none⟩) n n, s8, .pointer (some ⟨hb, 0, none⟩), s10, s11, s12, s13, s14, s15, s16, s17, s18, s19, s20, s21, s22, s23, s24, s25, s26, s27, s28, s29, s30, s31, s32, s33, s34, s35, s36, s37, s38, s39, s40, s41, s42, s43, s44, s45, s46, s47, s48, s49, s50, s51, s52, s53, s54, s55, s56, s57, s58, s59, s60, s61, s62, s63, s64, s65, s66, s67, s68, s69, s70, s71, s72, s73, s74, s75, s76, s77, s78, s79, s80, s81, s82, s83, s84, s85, s86, s87, s88, s89, s90, s91, s92, s93, s94, s95, s96, s97, s98, s99], []⟩ wx := by
  have WR := Lib.hid wr
  have HW := Lib.hid hW
  have HLEN := Lib.hid hlen
  have HB := Lib.hid hb0
  have HX := Lib.hid hx
  have HD := Lib.hid hd
  have HH := Lib.hid hh
  have HF := Lib.hid hf
  have lbd := hd.lt
  have ucv : IntKind.u32.wrap (u : Int) = (u : Int) := IntWalk.u32_in _ (by omega)
  clear wr hW hlen hb0 hx hd hh hf
  conv => arg 2; whnf
  apply wp_seq_k
  intro KK hK
  have HKK := Lib.hid hK
  clear hK
  go_wp2_with fail
  refine (push_any (hb := hb) (ab := ab) (iv := .slice none 0 0) (s := ([], List.replicate n 0)) u 0 _ HH.out ⟨⟨fun i x h => (by simp at h), fun id p h => by have := List.mem_of_getElem? h; simp at this⟩, fun j _ a b h => (by simp at h)⟩ (by simpa using hu)).mono ?_
  rintro e w4 ⟨rfl, hN⟩
  obtain ⟨iv4, hr4, ho4, hs4⟩ := hN
  have KF := Lib.hid (FInv.mk (n := n) (W := W) (r := r) (u := u) (bo := bo) (w := w) (HB.out.trans (ho4.below HB.out.size (fun q hq => by have := HF.out q hq; omega))) (HX.out.kept ho4 (fun h => by have := HF.out _ h; omega)) (HD.out.kept ho4 (fun h => by have := HF.out _ h; omega)) hr4 ((Holds.new n).pushed u 0 hu) (DInv.start hu) (fun q hq => by
    rcases hs4 q hq with c | c
    · exact HF.out q c
    · omega))
  clear hr4 ho4 hs4
  go_wp2_with fail
  refine HKK.out _ _ ?_
  change Code.wp _ (tailAt 7 fromBody) _ _ _
  exact from_loop WR.out HW.out HLEN.out hn KF.out
set_option linter.unusedSimpArgs false in
set_option maxRecDepth 100000 in
set_option maxHeartbeats 8000000 in
theorem from_set {s0 s4 s5 s6 s8 s10 s11 s12 s13 s14 s15 s16 s17 s18 s19 s20 s21 s22 s23 s24 s25 s26 s27 s28 s29 s30 s31 s32 s33 s34 s35 s36 s37 s38 s39 s40 s41 s42 s43 s44 s45 s46 s47 s48 s49 s50 s51 s52 s53 s54 s55 s56 s57 s58 s59 s60 s61 s62 s63 s64 s65 s66 s67 s68 s69 s70 s71 s72 s73 s74 s75 s76 s77 s78 s79 s80 s81 s82 s83 s84 s85 s86 s87 s88 s89 s90 s91 s92 s93 s94 s95 s96 s97 s98 s99 : Value} {n base bo u hb ab : Nat} {W : Nat → List (Nat × Nat)} {vs : Nat → Value} {r : Int} {w wx : World} (wr : WRep base n W bo vs w) (hW : ∀ a s, a < n → s ∈ W a → s.1 < n ∧ s.2 ≤ 140737488355328) (hlen : ∀ a, a < n → (W a).length ≤ 1048576) (hn : n ≤ 65536) (hu : u < n) (hb0 : Below w.heap.size w wx) (hx : Cells wx w.heap.size 92 [.slice (some ⟨bo, 0, none⟩) n n]) (hd : Cells wx (w.heap.size + 1) 37 (distCells n (fun _ => none))) (hh : HRep wx hb (.slice none 0 0) ab ([], List.replicate n 0)) (hf : ∀ k ∈ hfoot hb (.slice none 0 0) ab, w.heap.size + 1 < k) :
    Code.wp Tryd.prog (tailAt 5 fromBody) (bodyPost Tryd.prog Tryd.f52 (FromNew n W r u w)) ⟨#[s0, .int .i64 r, .int .i64 (u : Nat), .pointer (some ⟨w.heap.size, 0, none⟩), s4, s5, s6, .slice (some ⟨w.heap.size + 1, 0, none⟩) n n, s8, .pointer (some ⟨hb, 0, none⟩), s10, s11, s12, s13, s14, s15, s16, s17, s18, s19, s20, s21, s22, s23, s24, s25, s26, s27, s28, s29, s30, s31, s32, s33, s34, s35, s36, s37, s38, s39, s40, s41, s42, s43, s44, s45, s46, s47, s48, s49, s50, s51, s52, s53, s54, s55, s56, s57, s58, s59, s60, s61, s62, s63, s64, s65, s66, s67, s68, s69, s70, s71, s72, s73, s74, s75, s76, s77, s78, s79, s80, s81, s82, s83, s84, s85, s86, s87, s88, s89, s90, s91, s92, s93, s94, s95, s96, s97, s98, s99], []⟩ wx := by
  have WR := Lib.hid wr
  have HW := Lib.hid hW
  have HLEN := Lib.hid hlen
  have HF := Lib.hid hf
  have y0 : wx.cell? ⟨w.heap.size + 1, u, none⟩ = some (.int .u64 18446744073709551615) := hd.cell (distCells_get hu)
  have f0 := hd.frozen u
  have lbd := hd.lt
  have hd2 := hd.set u (.int .u64 0)
  rw [distCells_set (E := startD u) (by simp [startD, farOf]) (fun x hx => by simp [startD, hx])] at hd2
  have HD := Lib.hid hd2
  have HX := Lib.hid (hx.other (a := ⟨w.heap.size + 1, u, none⟩) (by simp) (.int .u64 0))
  have HB := Lib.hid (hb0.setCell (p := ⟨w.heap.size + 1, u, none⟩) (by simp) (.int .u64 0))
  have HH := Lib.hid (hh.kept (bs := [w.heap.size + 1]) ((Only.refl [w.heap.size + 1] wx).setCell (p := ⟨w.heap.size + 1, u, none⟩) (.inl (by simp)) (.int .u64 0)) (fun q hq hm => by simp only [List.mem_singleton] at hm; have := hf q hq; omega))
  clear wr hW hlen hb0 hx hd hh hf hd2
  conv => arg 2; whnf
  apply wp_seq_k
  intro KK hK
  have HKK := Lib.hid hK
  clear hK
  go_wp2_with fail
  refine HKK.out _ _ ?_
  change Code.wp _ (tailAt 6 fromBody) _ _ _
  exact from_push WR.out HW.out HLEN.out hn hu HB.out HX.out HD.out HH.out HF.out

set_option linter.unusedSimpArgs false in
set_option maxRecDepth 100000 in
set_option maxHeartbeats 8000000 in
theorem from_new {s0 s4 s5 s6 s8 s9 s10 s11 s12 s13 s14 s15 s16 s17 s18 s19 s20 s21 s22 s23 s24 s25 s26 s27 s28 s29 s30 s31 s32 s33 s34 s35 s36 s37 s38 s39 s40 s41 s42 s43 s44 s45 s46 s47 s48 s49 s50 s51 s52 s53 s54 s55 s56 s57 s58 s59 s60 s61 s62 s63 s64 s65 s66 s67 s68 s69 s70 s71 s72 s73 s74 s75 s76 s77 s78 s79 s80 s81 s82 s83 s84 s85 s86 s87 s88 s89 s90 s91 s92 s93 s94 s95 s96 s97 s98 s99 : Value} {n base bo u : Nat} {W : Nat → List (Nat × Nat)} {vs : Nat → Value} {r : Int} {w wx : World} (wr : WRep base n W bo vs w) (hW : ∀ a s, a < n → s ∈ W a → s.1 < n ∧ s.2 ≤ 140737488355328) (hlen : ∀ a, a < n → (W a).length ≤ 1048576) (hn : n ≤ 65536) (hu : u < n) (hb0 : Below w.heap.size w wx) (hx : Cells wx w.heap.size 92 [.slice (some ⟨bo, 0, none⟩) n n]) (hd : Cells wx (w.heap.size + 1) 37 (distCells n (fun _ => none))) :
    Code.wp Tryd.prog (tailAt 3 fromBody) (bodyPost Tryd.prog Tryd.f52 (FromNew n W r u w)) ⟨#[s0, .int .i64 r, .int .i64 (u : Nat), .pointer (some ⟨w.heap.size, 0, none⟩), s4, s5, s6, .slice (some ⟨w.heap.size + 1, 0, none⟩) n n, s8, s9, s10, s11, s12, s13, s14, s15, s16, s17, s18, s19, s20, s21, s22, s23, s24, s25, s26, s27, s28, s29, s30, s31, s32, s33, s34, s35, s36, s37, s38, s39, s40, s41, s42, s43, s44, s45, s46, s47, s48, s49, s50, s51, s52, s53, s54, s55, s56, s57, s58, s59, s60, s61, s62, s63, s64, s65, s66, s67, s68, s69, s70, s71, s72, s73, s74, s75, s76, s77, s78, s79, s80, s81, s82, s83, s84, s85, s86, s87, s88, s89, s90, s91, s92, s93, s94, s95, s96, s97, s98, s99], []⟩ wx := by
  have WR := Lib.hid wr
  have HW := Lib.hid hW
  have HLEN := Lib.hid hlen
  have HB := Lib.hid hb0
  have HX := Lib.hid hx
  have HD := Lib.hid hd
  have q3 : wx.cell? ⟨w.heap.size, 0, none⟩ = some (.slice (some ⟨bo, 0, none⟩) n n) := hx.cell rfl
  have lbd := hd.lt
  clear wr hW hlen hb0 hx hd
  conv => arg 2; whnf
  apply wp_seq_k
  intro K0 hK
  have HK0 := Lib.hid hK
  clear hK
  go_wp2_with fail
  refine (new_any n hn _).mono ?_
  rintro e w2 ⟨rfl, hh, hb⟩
  have HH := Lib.hid hh
  have HB2 := Lib.hid (HB.out.trans (hb.mono HB.out.size))
  have HX2 := Lib.hid (HX.out.below hb HX.out.lt)
  have HD2 := Lib.hid (HD.out.below hb HD.out.lt)
  clear hh hb HB HX HD q3
  go_wp2_with fail
  refine HK0.out _ _ ?_
  clear HK0
  apply wp_seq_k
  intro KK hK
  have HKK := Lib.hid hK
  clear hK
  go_wp2_with fail
  refine HKK.out _ _ ?_
  change Code.wp _ (tailAt 5 fromBody) _ _ _
  exact from_set WR.out HW.out HLEN.out hn hu HB2.out HX2.out HD2.out HH.out (fun q hq => by simp [hfoot, Value.ownBlock] at hq; omega)
set_option linter.unusedSimpArgs false in
set_option maxRecDepth 100000 in
set_option maxHeartbeats 8000000 in
theorem from_fill {s0 s4 s5 s6 s8 s9 s10 s11 s12 s13 s14 s15 s16 s17 s18 s19 s20 s21 s22 s23 s24 s25 s26 s27 s28 s29 s30 s31 s32 s33 s34 s35 s36 s37 s38 s39 s40 s41 s42 s43 s44 s45 s46 s47 s48 s49 s50 s51 s52 s53 s54 s55 s56 s57 s58 s59 s60 s61 s62 s63 s64 s65 s66 s67 s68 s69 s70 s71 s72 s73 s74 s75 s76 s77 s78 s79 s80 s81 s82 s83 s84 s85 s86 s87 s88 s89 s90 s91 s92 s93 s94 s95 s96 s97 s98 s99 : Value} {n base bo u : Nat} {W : Nat → List (Nat × Nat)} {vs : Nat → Value} {r : Int} {w wx : World} (wr : WRep base n W bo vs w) (hW : ∀ a s, a < n → s ∈ W a → s.1 < n ∧ s.2 ≤ 140737488355328) (hlen : ∀ a, a < n → (W a).length ≤ 1048576) (hn : n ≤ 65536) (hu : u < n) (hb0 : Below w.heap.size w wx) (hx : Cells wx w.heap.size 92 [.slice (some ⟨bo, 0, none⟩) n n]) (hd : Cells wx (w.heap.size + 1) 37 (fillCells n 0)) :
    Code.wp Tryd.prog (tailAt 2 fromBody) (bodyPost Tryd.prog Tryd.f52 (FromNew n W r u w)) ⟨#[s0, .int .i64 r, .int .i64 (u : Nat), .pointer (some ⟨w.heap.size, 0, none⟩), s4, s5, s6, .slice (some ⟨w.heap.size + 1, 0, none⟩) n n, s8, s9, s10, s11, s12, s13, s14, s15, s16, s17, s18, s19, s20, s21, s22, s23, s24, s25, s26, s27, s28, s29, s30, s31, s32, s33, s34, s35, s36, s37, s38, s39, s40, s41, s42, s43, s44, s45, s46, s47, s48, s49, s50, s51, s52, s53, s54, s55, s56, s57, s58, s59, s60, s61, s62, s63, s64, s65, s66, s67, s68, s69, s70, s71, s72, s73, s74, s75, s76, s77, s78, s79, s80, s81, s82, s83, s84, s85, s86, s87, s88, s89, s90, s91, s92, s93, s94, s95, s96, s97, s98, s99], []⟩ wx := by
  have WR := Lib.hid wr
  have HW := Lib.hid hW
  have HLEN := Lib.hid hlen
  have HB0 := Lib.hid hb0
  have HX0 := Lib.hid hx
  have HD0 := Lib.hid hd
  clear wr hW hlen hb0 hx hd
  conv => arg 2; whnf
  apply wp_seq_k
  intro KK hK
  have HKK := Lib.hid hK
  clear hK
  go_wp2_with fail
  go_loopg [22] n (fun g vi wr => ∃ k : Nat, vi = .int .i64 k ∧ k ≤ n ∧ g = n - k ∧ Cells wr (w.heap.size + 1) 37 (fillCells n k) ∧ Cells wr w.heap.size 92 [.slice (some ⟨bo, 0, none⟩) n n] ∧ Below w.heap.size w wr)
  case atStart => exact ⟨0, rfl, Nat.zero_le _, rfl, HD0.out, HX0.out, HB0.out⟩
  case round =>
    obtain ⟨k, rfl, hk, hg, hcd, hcx, hbl⟩ := hrel
    have HG := Lib.hid hg
    have HD := Lib.hid hcd
    have HX := Lib.hid hcx
    have HB := Lib.hid hbl
    have ld := hcd.lt
    clear hg hcd hcx hbl
    by_cases hkl : k < n
    · have hf := HD.out.frozen k
      have hm : wr.cell? ⟨w.heap.size + 1, k, none⟩ = some (.int .u64 0) := HD.out.cell (by unfold fillCells; rw [List.getElem?_map, List.getElem?_range hkl]; simp)
      go_wp2_with fail
      go_roundg (n - (k + 1))
      case measure => rw [HG.out]; omega
      case rel => exact ⟨k + 1, by go_num, by omega, rfl, fillCells_set ▸ HD.out.set k _, HX.out.other (a := ⟨w.heap.size + 1, k, none⟩) (by simp) _, HB.out.setCell (p := ⟨w.heap.size + 1, k, none⟩) (by simp) _⟩
    · obtain rfl : k = n := by omega
      have hd1 := HD.out
      rw [fillCells_full] at hd1
      have HD1 := Lib.hid hd1
      clear hd1
      go_wp2_with fail
      refine HKK.out _ _ ?_
      change Code.wp _ (tailAt 3 fromBody) _ _ _
      exact from_new WR.out HW.out HLEN.out hn hu HB.out HX.out HD1.out
set_option linter.unusedSimpArgs false in
set_option maxRecDepth 100000 in
set_option maxHeartbeats 8000000 in
/-- **The web's search from a rank.** -/
theorem from_any {n base bo u : Nat} {W : Nat → List (Nat × Nat)} {vs : Nat → Value} {r : Int} {w : World} (wr : WRep base n W bo vs w) (hW : ∀ a s, a < n → s ∈ W a → s.1 < n ∧ s.2 ≤ 140737488355328) (hlen : ∀ a, a < n → (W a).length ≤ 1048576) (hn : n ≤ 65536) (hu : u < n) :
    Calls Tryd.prog 52 #[webVal bo n, .int .i64 r, .int .i64 (u : Nat)] w (FromNew n W r u w) := by
  have hmk := run_make_n (P := Tryd.prog) 57 37 (.int .u64 0) 1 8 Tryd.underlying57 Tryd.infoU64 .i64 .i64 n (by omega) (by omega)
  have hfill : madeCells (Value.int .u64 0).cells (n * 1) = (fillCells n 0).toArray := by
    rw [fillCells_zero]
    exact madeCells_eq [Value.int .u64 0] n (by simp)
  rw [hfill] at hmk
  have WR := Lib.hid wr
  have HW := Lib.hid hW
  have HLEN := Lib.hid hlen
  have HX := Lib.hid ((Cells.new w 92 [.slice (some ⟨bo, 0, none⟩) n n]).alloc (.cells (fillCells n 0).toArray 37))
  have HD := Lib.hid (cells_at (w := w.alloc (.cells #[.slice (some ⟨bo, 0, none⟩) n n] 92)) (b := w.heap.size + 1) (by simp) 37 (fillCells n 0))
  have HB := Lib.hid (((Below.refl w.heap.size w).alloc (Nat.le_refl _) (.cells #[.slice (some ⟨bo, 0, none⟩) n n] 92)).alloc (by simp) (.cells (fillCells n 0).toArray 37))
  clear wr hW hlen hfill
  unfold webVal
  go_enter Tryd.func52, Tryd.ntmps52
  apply wp_seq_k
  intro K0 hK
  have HK0 := Lib.hid hK
  clear hK
  go_wp2_with fail
  refine HK0.out _ _ ?_
  clear HK0
  apply wp_seq_k
  intro KK hK
  have HKK := Lib.hid hK
  clear hK
  go_wp2_with fail
  refine HKK.out _ _ ?_
  change Code.wp _ (tailAt 2 fromBody) _ _ _
  exact from_fill WR.out HW.out HLEN.out hn hu HB.out HX.out HD.out
end Go.Proofs.YtjbphoophgbmiaaDoor

/- Is a hierarchy true at a rank? -/
namespace Go.Proofs.YtjbphoophgbmiaaDoor
open Go.ChangeShapes Go.WideShapes Go.ChangeAt Go.RowKit Go.Joins Go.Deep

noncomputable def holdsBody : Code := Tryd.f50.body.getD .skip
/-- No two links of a rank make a way that is shorter than any above it. -/
def okPair (h : HierD) (r : Nat) (a b : LinkD) : Prop := a.to ≠ b.to → ∃ d, Wk (webD h) r a.to b.to d ∧ d ≤ (a.wt : Int) + (b.wt : Int)
def HoldsD (h : HierD) (r : Nat) : Prop := ∀ a ∈ seg h.dnF h.dn r, ∀ b ∈ seg h.upF h.up r, okPair h r a b
def HoldsPost (h : HierD) (r : Nat) (w : World) (e : Ending) (w' : World) : Prop := ∃ b : Bool, e = .returned (.bool b) ∧ (b = true ↔ HoldsD h r) ∧ Below w.heap.size w w'
theorem web_ok {h : HierD} (ok : HalfOk h.node.length h.upF h.up) (okd : HalfOk h.node.length h.dnF h.dn) : ∀ a s, a < h.node.length → s ∈ webD h a → s.1 < h.node.length ∧ s.2 ≤ 140737488355328 := by
  intro a s ha hs
  unfold webD at hs
  rw [webTo_mem] at hs
  rcases hs with ⟨h1, l, hl, rfl⟩ | ⟨h1, l, hl, h2, h3⟩
  · exact (ok.up a h1 l hl).2
  · exact ⟨h1, by rw [h3]; exact (okd.up s.1 h1 l hl).2.2⟩
theorem web_len {h : HierD} (u : FirstsOk h.node.length h.upF h.up.length) (d : FirstsOk h.node.length h.dnF h.dn.length) (htot : h.up.length + h.dn.length ≤ 1048576) : ∀ a, a < h.node.length → (webD h a).length ≤ 1048576 := by
  intro a _
  have h1 := webTo_len u d h.node.length (Nat.le_refl _) a
  have h2 := u.le h.node.length (Nat.le_refl _)
  have h3 := d.le h.node.length (Nat.le_refl _)
  unfold webD
  omega

set_option linter.unusedSimpArgs false in
set_option maxRecDepth 100000 in
set_option maxHeartbeats 8000000 in
theorem holds_any (A : HA) (h : HierD) (r base bo : Nat) (vs : Nat → Value) (w : World) (see : HSee w A h) (u : FirstsOk h.node.length h.upF h.up.length) (d : FirstsOk h.node.length h.dnF h.dn.length) (ok : HalfOk h.node.length h.upF h.up) (okd : HalfOk h.node.length h.dnF h.dn) (hn : h.node.length ≤ 65536) (htot : h.up.length + h.dn.length ≤ 1048576) (wr : WRep base h.node.length (webD h) bo vs w) (hrn : r < h.node.length) : Calls Tryd.prog 50 #[webVal bo h.node.length, hierVal A h, .int .i64 (r : Nat)] w (HoldsPost h r w) := by
  have WOK := Lib.hid (web_ok ok okd)
  have WLEN := Lib.hid (web_len u d htot)
  have SEE := Lib.hid see
  have UOK := Lib.hid u
  have DOK := Lib.hid d
  have OKU := Lib.hid ok
  have OKD := Lib.hid okd
  have WR := Lib.hid wr
  have HY0 := Lib.hid ((Cells.new w 92 [.slice (some ⟨bo, 0, none⟩) h.node.length h.node.length]).alloc (.cells (hierCells A h).toArray 25))
  have HX0 := Lib.hid (cells_at (w := w.alloc (.cells #[.slice (some ⟨bo, 0, none⟩) h.node.length h.node.length] 92)) (b := w.heap.size + 1) (by simp) 25 (hierCells A h))
  have HB0 := Lib.hid (((Below.refl w.heap.size w).alloc (Nat.le_refl _) (.cells #[.slice (some ⟨bo, 0, none⟩) h.node.length h.node.length] 92)).alloc (by simp) (.cells (hierCells A h).toArray 25))
  clear see u d ok okd wr
  unfold hierVal webVal
  go_enter Tryd.func50, Tryd.ntmps50
  apply wp_seq_k
  intro K0 hK
  have HK0 := Lib.hid hK
  clear hK
  go_wp2_with fail
  obtain ⟨wz, hwz⟩ : ∃ wz, (w.alloc (.cells #[.slice (some ⟨bo, 0, none⟩) h.node.length h.node.length] 92)).alloc (.cells (hierCells A h).toArray 25) = wz := ⟨_, rfl⟩
  have hx := HX0.out
  have hy := HY0.out
  have hb := HB0.out
  rw [hwz] at hx hy hb
  try rw [show (w.alloc (.cells #[.slice (some ⟨bo, 0, none⟩) h.node.length h.node.length] 92)).alloc (.cells #[.slice A.a0 h.node.length A.c0, .slice A.a1 h.upF.length A.c1, .slice A.a2 h.up.length A.c2, .slice A.a3 h.dnF.length A.c3, .slice A.a4 h.dn.length A.c4] 25) = wz from hwz]
  have HX := Lib.hid hx
  have HY := Lib.hid hy
  have HB := Lib.hid hb
  clear hx hy hb hwz HX0 HY0 HB0
  refine HK0.out _ _ ?_
  clear HK0
  apply wp_seq_k
  intro KK hK
  have HKK := Lib.hid hK
  clear hK
  have hflD := DOK.out.len
  obtain ⟨loD, hloD⟩ : ∃ lo, h.dnF[r]? = some lo := ⟨_, List.getElem?_eq_getElem (by omega)⟩
  obtain ⟨hiD, hhiD⟩ : ∃ hi, h.dnF[r + 1]? = some hi := ⟨_, List.getElem?_eq_getElem (by omega)⟩
  have gloD : h.dnF.getD r 0 = loD := by rw [List.getD_eq_getElem?_getD, hloD]; rfl
  have ghiD : h.dnF.getD (r + 1) 0 = hiD := by rw [List.getD_eq_getElem?_getD, hhiD]; rfl
  have hlhD : loD ≤ hiD := by rw [← gloD, ← ghiD]; exact DOK.out.mono r hrn
  have hhlD : hiD ≤ h.dn.length := by rw [← ghiD]; exact DOK.out.le (r + 1) (by omega)
  have hsegD : seg h.dnF h.dn r = (h.dn.take hiD).drop loD := by unfold seg; rw [gloD, ghiD]
  have suD := SEE.out.below HB.out
  have hhcD : hiD ≤ A.c4 := Nat.le_trans hhlD suD.dn.hcap
  have hh32D : hiD < 4294967296 := suD.bd hiD (List.mem_of_getElem? hhiD)
  obtain ⟨b1D, o1D, ea1D, lb1D, cc1D⟩ := see_one (f := fun (n : Nat) => Value.int .u32 n) suD.dnF (by omega)
  have clD := cc1D r loD hloD
  have chD := cc1D (r + 1) hiD hhiD
  obtain ⟨k0, k1, k2, k3, k4⟩ := hier_five HX.out
  rw [ea1D] at k3
  have hilD : r < h.dnF.length := by omega
  have hil1D : r + 1 < h.dnF.length := by omega
  have hslD := run_sub (P := Tryd.prog) 23 39 4 Tryd.underlying23 Tryd.sizeLink A.a4 h.dn.length A.c4 loD hiD .u32 .u32 hlhD hhcD
  have hLlenD : ((h.dn.take hiD).drop loD).length = hiD - loD := by simp; omega
  have hSUBD : ∀ X, Below w.heap.size w X → See X (slBase A.a4 loD A.c4 4) (A.c4 - loD) linkCells 4 ((h.dn.take hiD).drop loD) := fun X hX => (SEE.out.below hX).dn.sub loD hiD hhlD
  have hupD : ∀ y ∈ (h.dn.take hiD).drop loD, r < y.to ∧ y.to < h.node.length ∧ y.wt ≤ 140737488355328 := fun y hy => OKD.out.up r hrn y (by rw [hsegD]; exact hy)
  have LLD := Lib.hid hLlenD
  have HSUBD := Lib.hid hSUBD
  have HUPD := Lib.hid hupD
  have HSEGD := Lib.hid hsegD
  clear hflD hloD hhiD gloD ghiD hsegD suD cc1D ea1D hLlenD hSUBD hupD
  obtain ⟨LD, hLD⟩ : ∃ L, (h.dn.take hiD).drop loD = L := ⟨_, rfl⟩
  rw [hLD] at LLD HSUBD HUPD HSEGD
  clear hLD
  go_wp2_with fail
  go_quiet (fail)
  go_wp2_with fail
  have HB1 := Lib.hid (below_drewN HB.out nq)
  have HX1 := Lib.hid (HX.out.drewN nq)
  have HY1 := Lib.hid (HY.out.drewN nq)
  clear HB HX HY clD chD k0 k1 k2 k3 k4 hslD
  go_loopg [28] (hiD - loD) (fun g vj wr => ∃ j : Nat, vj = .int .i64 j ∧ j ≤ hiD - loD ∧ g = hiD - loD - j ∧ (∀ a ∈ LD.take j, ∀ b ∈ seg h.upF h.up r, okPair h r a b) ∧ Cells wr (w.heap.size + 1) 25 (hierCells A h) ∧ Cells wr w.heap.size 92 [.slice (some ⟨bo, 0, none⟩) h.node.length h.node.length] ∧ Below w.heap.size w wr)
  case atStart => exact ⟨0, rfl, Nat.zero_le _, rfl, by simp, HX1.out, HY1.out, HB1.out⟩
  case round =>
    obtain ⟨j, rfl, hj, hgj, hall, hx, hy, hb⟩ := hrel
    obtain ⟨wo, rfl⟩ : ∃ wo : World, wo = wr := ⟨_, rfl⟩
    have HGJ := Lib.hid hgj
    have HALL := Lib.hid hall
    have HX := Lib.hid hx
    have HY := Lib.hid hy
    have HB := Lib.hid hb
    clear hgj hall hx hy hb HX1 HY1 HB1
    by_cases hjl : j < hiD - loD
    · obtain ⟨a, ha⟩ : ∃ a, LD[j]? = some a := ⟨_, List.getElem?_eq_getElem (by rw [LLD.out]; exact hjl)⟩
      obtain ⟨ha1, ha2, ha3⟩ := HUPD.out a (List.mem_of_getElem? ha)
      obtain ⟨b2, o2, ea2, cc2⟩ := (HSUBD.out wo HB.out).cell j a ha
      have e0 := cc2 0 _ rfl
      have e1 := cc2 1 _ rfl
      have e2 := cc2 2 _ rfl
      have e3 := cc2 3 _ rfl
      rw [Nat.add_zero] at e0
      have EA := Lib.hid ea2
      have HAJ := Lib.hid ha
      have htk : LD.take (j + 1) = LD.take j ++ [a] := by rw [List.take_add_one, ha]; rfl
      have HTK := Lib.hid htk
      clear cc2 ea2 ha htk
      obtain ⟨wq, hwq⟩ : ∃ wq, wo.alloc (.cells (linkCells a).toArray 39) = wq := ⟨_, rfl⟩
      have hla := Cells.new wo 39 (linkCells a)
      have ho := (Below.refl wo.heap.size wo).alloc (Nat.le_refl _) (.cells (linkCells a).toArray 39)
      rw [hwq] at hla ho
      have hx2 := HX.out.below ho HX.out.lt
      have hy2 := HY.out.below ho HY.out.lt
      have hb2 := HB.out.trans (ho.mono HB.out.size)
      have HLA := Lib.hid hla
      have HWQ := Lib.hid hwq
      clear HX HY HB ho
      have HX := Lib.hid hx2
      have HY := Lib.hid hy2
      have HB := Lib.hid hb2
      clear hla hwq hx2 hy2 hb2
      rw [EA.out]
      go_upto_region 4 with fail
      try rw [show wo.alloc (.cells #[.int .u32 a.to, .int .u64 a.wt, .int .u32 a.left, .int .u32 a.right] 39) = wq from HWQ.out]
      clear e0 e1 e2 e3
      have hflU := UOK.out.len
      obtain ⟨loU, hloU⟩ : ∃ lo, h.upF[r]? = some lo := ⟨_, List.getElem?_eq_getElem (by omega)⟩
      obtain ⟨hiU, hhiU⟩ : ∃ hi, h.upF[r + 1]? = some hi := ⟨_, List.getElem?_eq_getElem (by omega)⟩
      have gloU : h.upF.getD r 0 = loU := by rw [List.getD_eq_getElem?_getD, hloU]; rfl
      have ghiU : h.upF.getD (r + 1) 0 = hiU := by rw [List.getD_eq_getElem?_getD, hhiU]; rfl
      have hlhU : loU ≤ hiU := by rw [← gloU, ← ghiU]; exact UOK.out.mono r hrn
      have hhlU : hiU ≤ h.up.length := by rw [← ghiU]; exact UOK.out.le (r + 1) (by omega)
      have hsegU : seg h.upF h.up r = (h.up.take hiU).drop loU := by unfold seg; rw [gloU, ghiU]
      have suU := SEE.out.below HB.out
      have hhcU : hiU ≤ A.c2 := Nat.le_trans hhlU suU.up.hcap
      have hh32U : hiU < 4294967296 := suU.bu hiU (List.mem_of_getElem? hhiU)
      obtain ⟨b1U, o1U, ea1U, lb1U, cc1U⟩ := see_one (f := fun (n : Nat) => Value.int .u32 n) suU.upF (by omega)
      have clU := cc1U r loU hloU
      have chU := cc1U (r + 1) hiU hhiU
      obtain ⟨k0, k1, k2, k3, k4⟩ := hier_five HX.out
      rw [ea1U] at k1
      have hilU : r < h.upF.length := by omega
      have hil1U : r + 1 < h.upF.length := by omega
      have hslU := run_sub (P := Tryd.prog) 23 39 4 Tryd.underlying23 Tryd.sizeLink A.a2 h.up.length A.c2 loU hiU .u32 .u32 hlhU hhcU
      have hLlenU : ((h.up.take hiU).drop loU).length = hiU - loU := by simp; omega
      have hSUBU : ∀ X, Below w.heap.size w X → See X (slBase A.a2 loU A.c2 4) (A.c2 - loU) linkCells 4 ((h.up.take hiU).drop loU) := fun X hX => (SEE.out.below hX).up.sub loU hiU hhlU
      have hupU : ∀ y ∈ (h.up.take hiU).drop loU, r < y.to ∧ y.to < h.node.length ∧ y.wt ≤ 140737488355328 := fun y hy => OKU.out.up r hrn y (by rw [hsegU]; exact hy)
      have LLU := Lib.hid hLlenU
      have HSUBU := Lib.hid hSUBU
      have HUPU := Lib.hid hupU
      have HSEGU := Lib.hid hsegU
      clear hflU hloU hhiU gloU ghiU hsegU suU cc1U ea1U hLlenU hSUBU hupU
      obtain ⟨LU, hLU⟩ : ∃ L, (h.up.take hiU).drop loU = L := ⟨_, rfl⟩
      rw [hLU] at LLU HSUBU HUPU HSEGU
      clear hLU
      go_quiet (fail)
      have HLA2 := Lib.hid (HLA.out.drewN nq)
      have HX2 := Lib.hid (HX.out.drewN nq)
      have HY2 := Lib.hid (HY.out.drewN nq)
      have HB2 := Lib.hid (below_drewN HB.out nq)
      obtain ⟨wy, hwy⟩ : ∃ wy, wq.drewN nq = wy := ⟨_, rfl⟩
      rw [hwy] at HLA2 HX2 HY2 HB2 ⊢
      clear HLA HX HY HB hwy clU chU k0 k1 k2 k3 k4 hslU HWQ
      by_cases hemp : hiU - loU = 0
      · have d1 : (((hiU - loU : Nat) : Int) == 0) = true := by simp [hemp]
        have hnil : LU = [] := List.eq_nil_of_length_eq_zero (by rw [LLU.out]; exact hemp)
        have HNIL := Lib.hid hnil
        clear hnil hemp
        go_wp2
        go_returns
        exact ⟨true, rfl, ⟨fun _ a _ b hb => by rw [HSEGU.out, HNIL.out] at hb; simp at hb, fun _ => rfl⟩, HB2.out⟩
      · have d1 : (((hiU - loU : Nat) : Int) == 0) = false := by simp; omega
        have y0 : wy.cell? ⟨w.heap.size, 0, none⟩ = some (.slice (some ⟨bo, 0, none⟩) h.node.length h.node.length) := HY2.out.cell rfl
        have v0 : wy.cell? ⟨wo.heap.size, 0, none⟩ = some (.int .u32 (a.to : Nat)) := HLA2.out.cell rfl
        have cv : IntKind.i64.wrap (a.to : Int) = (a.to : Int) := IntWalk.i64_in _ (by omega)
        clear hemp
        go_wp2_with fail
        refine (from_any (r := (r : Nat)) (WR.out.below HB2.out) WOK.out WLEN.out hn ha2).mono ?_
        rintro e w5 ⟨bd, D, rfl, hcd, hS, -, hlo5, hb5⟩
        have HS := Lib.hid hS
        have HD3 := Lib.hid hcd
        have HA3 := Lib.hid (HLA2.out.below hb5 HLA2.out.lt)
        have HX3 := Lib.hid (HX2.out.below hb5 HX2.out.lt)
        have HY3 := Lib.hid (HY2.out.below hb5 HY2.out.lt)
        have HB3 := Lib.hid (HB2.out.trans (hb5.mono HB2.out.size))
        clear hcd hS hb5 HLA2 HX2 HY2 HB2 y0 v0 hlo5
        go_wp2_with fail
        go_loopg [57] (hiU - loU) (fun g vi wr => ∃ i : Nat, vi = .int .i64 i ∧ i ≤ hiU - loU ∧ g = hiU - loU - i ∧ (∀ b ∈ LU.take i, okPair h r a b) ∧ Cells wr bd 37 (distCells h.node.length D) ∧ Cells wr wo.heap.size 39 (linkCells a) ∧ Cells wr (w.heap.size + 1) 25 (hierCells A h) ∧ Cells wr w.heap.size 92 [.slice (some ⟨bo, 0, none⟩) h.node.length h.node.length] ∧ Below w.heap.size w wr)
        case atStart => exact ⟨0, rfl, Nat.zero_le _, rfl, by simp, HD3.out, HA3.out, HX3.out, HY3.out, HB3.out⟩
        case round =>
          obtain ⟨i, rfl, hi, hgi, halli, hd4, ha4, hx4, hy4, hb4⟩ := hrel
          obtain ⟨wp, rfl⟩ : ∃ wp : World, wp = wr := ⟨_, rfl⟩
          have HGI := Lib.hid hgi
          have HALLI := Lib.hid halli
          have HD := Lib.hid hd4
          have HLA := Lib.hid ha4
          have HX := Lib.hid hx4
          have HY := Lib.hid hy4
          have HB := Lib.hid hb4
          clear hgi halli hd4 ha4 hx4 hy4 hb4 HD3 HA3 HX3 HY3 HB3
          by_cases hil2 : i < hiU - loU
          · obtain ⟨b, hb⟩ : ∃ b, LU[i]? = some b := ⟨_, List.getElem?_eq_getElem (by rw [LLU.out]; exact hil2)⟩
            have hbm := List.mem_of_getElem? hb
            obtain ⟨hb1', hb2', hb3'⟩ := HUPU.out b hbm
            obtain ⟨b3, o3, ea3, cc3⟩ := (HSUBU.out wp HB.out).cell i b hb
            have e0 := cc3 0 _ rfl
            have e1 := cc3 1 _ rfl
            have e2 := cc3 2 _ rfl
            have e3 := cc3 3 _ rfl
            rw [Nat.add_zero] at e0
            have EB := Lib.hid ea3
            have HBM := Lib.hid hbm
            have htk : LU.take (i + 1) = LU.take i ++ [b] := by rw [List.take_add_one, hb]; rfl
            have HTKU := Lib.hid htk
            clear cc3 ea3 hb hbm htk
            obtain ⟨wq, hwq⟩ : ∃ wq, wp.alloc (.cells (linkCells b).toArray 39) = wq := ⟨_, rfl⟩
            have hlb := Cells.new wp 39 (linkCells b)
            have ho := (Below.refl wp.heap.size wp).alloc (Nat.le_refl _) (.cells (linkCells b).toArray 39)
            rw [hwq] at hlb ho
            have hd5 := HD.out.below ho HD.out.lt
            have ha5 := HLA.out.below ho HLA.out.lt
            have hx5 := HX.out.below ho HX.out.lt
            have hy5 := HY.out.below ho HY.out.lt
            have hb5 := HB.out.trans (ho.mono HB.out.size)
            have v0 : wq.cell? ⟨wp.heap.size, 0, none⟩ = some (.int .u32 (b.to : Nat)) := hlb.cell rfl
            have v1 : wq.cell? ⟨wp.heap.size, 1, none⟩ = some (.int .u64 (b.wt : Nat)) := hlb.cell rfl
            have u0 : wq.cell? ⟨wo.heap.size, 0, none⟩ = some (.int .u32 (a.to : Nat)) := ha5.cell rfl
            have u1 : wq.cell? ⟨wo.heap.size, 1, none⟩ = some (.int .u64 (a.wt : Nat)) := ha5.cell rfl
            have y1 : wq.cell? ⟨bd, b.to, none⟩ = some (.int .u64 (farOf (D b.to))) := hd5.cell (distCells_get hb2')
            have usum : IntKind.u64.wrap ((a.wt : Int) + (b.wt : Int)) = (a.wt : Int) + (b.wt : Int) := IntWalk.u64_in _ (by omega)
            have HWQ := Lib.hid hwq
            have HD5 := Lib.hid hd5
            have HA5 := Lib.hid ha5
            have HX5 := Lib.hid hx5
            have HY5 := Lib.hid hy5
            have HB5 := Lib.hid hb5
            clear hwq hlb ho hd5 ha5 hx5 hy5 hb5 HD HLA HX HY HB
            rw [EB.out]
            go_upto_region 11 with fail
            try rw [show wp.alloc (.cells #[.int .u32 b.to, .int .u64 b.wt, .int .u32 b.left, .int .u32 b.right] 39) = wq from HWQ.out]
            clear e0 e1 e2 e3
            have fin : ∀ nq, okPair h r a b → (∀ c ∈ LU.take (i + 1), okPair h r a c) ∧ Cells (wq.drewN nq) bd 37 (distCells h.node.length D) ∧ Cells (wq.drewN nq) wo.heap.size 39 (linkCells a) ∧ Cells (wq.drewN nq) (w.heap.size + 1) 25 (hierCells A h) ∧ Cells (wq.drewN nq) w.heap.size 92 [.slice (some ⟨bo, 0, none⟩) h.node.length h.node.length] ∧ Below w.heap.size w (wq.drewN nq) := fun nq hok =>
              ⟨fun c hc => by
                rw [HTKU.out, List.mem_append, List.mem_singleton] at hc
                rcases hc with hc | rfl
                · exact HALLI.out c hc
                · exact hok, HD5.out.drewN nq, HA5.out.drewN nq, HX5.out.drewN nq, HY5.out.drewN nq, below_drewN HB5.out nq⟩
            have FIN := Lib.hid fin
            clear fin
            by_cases heq : a.to = b.to
            · have t1 : ((a.to : Int) != (b.to : Int)) = false := by simp; omega
              have hok := Lib.hid (show okPair h r a b from fun hne => absurd heq hne)
              clear heq
              go_quiet (fail)
              go_wp2_with fail
              rw [← EB.out]
              go_roundg (hiU - loU - (i + 1))
              case measure => rw [HGI.out]; omega
              case rel => exact ⟨i + 1, by go_num, by omega, rfl, FIN.out _ hok.out⟩
            · have t1 : ((a.to : Int) != (b.to : Int)) = true := by simp; omega
              by_cases hlt : (a.wt : Int) + (b.wt : Int) < farOf (D b.to)
              · have t2 : decide ((a.wt : Int) + (b.wt : Int) < farOf (D b.to)) = true := by simpa using hlt
                have hno := Lib.hid (show ¬ HoldsD h r from fun hh => by
                  obtain ⟨dd, hw, hle⟩ := hh a (by rw [HSEGD.out]; exact List.mem_of_getElem? HAJ.out) b (by rw [HSEGU.out]; exact HBM.out) heq
                  obtain ⟨d0, h1, h2⟩ := HS.out.least _ _ hw
                  rw [h1] at hlt
                  simp only [farOf] at hlt
                  omega)
                clear hlt heq
                go_quiet (fail)
                go_wp2
                go_returns
                exact ⟨false, rfl, ⟨fun e => (by cases e), fun hh => absurd hh hno.out⟩, below_drewN HB5.out _⟩
              · have t2 : decide ((a.wt : Int) + (b.wt : Int) < farOf (D b.to)) = false := by simpa using hlt
                have hok := Lib.hid (show okPair h r a b from fun _ => by
                  cases hDb : D b.to with
                  | none => rw [hDb] at hlt; simp only [farOf] at hlt; omega
                  | some d0 => rw [hDb] at hlt; simp only [farOf] at hlt; exact ⟨d0, HS.out.walk _ _ hDb, by omega⟩)
                clear hlt heq
                go_quiet (fail)
                go_wp2_with fail
                rw [← EB.out]
                go_roundg (hiU - loU - (i + 1))
                case measure => rw [HGI.out]; omega
                case rel => exact ⟨i + 1, by go_num, by omega, rfl, FIN.out _ hok.out⟩
          · obtain rfl : i = hiU - loU := by omega
            go_wp2_with fail
            rw [← EA.out]
            go_roundg (hiD - loD - (j + 1))
            case measure => rw [HGJ.out]; omega
            case rel =>
              refine ⟨j + 1, by go_num, by omega, rfl, fun c hc b hb => ?_, HX.out, HY.out, HB.out⟩
              rw [HTK.out, List.mem_append, List.mem_singleton] at hc
              rcases hc with hc | rfl
              · exact HALL.out c hc b hb
              · exact HALLI.out b (by rw [List.take_of_length_le (by rw [LLU.out]; exact Nat.le_refl _), ← HSEGU.out]; exact hb)
    · obtain rfl : j = hiD - loD := by omega
      have hfull := HALL.out
      rw [List.take_of_length_le (by rw [LLD.out]; exact Nat.le_refl _), ← HSEGD.out] at hfull
      have HF := Lib.hid hfull
      clear hfull
      go_wp2_with fail
      refine HKK.out _ _ ?_
      conv => arg 2; whnf
      go_wp2
      go_returns
      exact ⟨true, rfl, ⟨fun _ => HF.out, fun _ => rfl⟩, HB.out⟩
end Go.Proofs.YtjbphoophgbmiaaDoor

/- sound.Check. -/
namespace Go.Proofs.YtjbphoophgbmiaaDoor
open Go.ChangeShapes Go.WideShapes Go.ChangeAt Go.RowKit Go.Joins Go.Deep

noncomputable def scheckBody : Code := Tryd.f17.body.getD .skip
/-- What sound.Check answers. -/
def SCheck (h : HierD) (x : EV) : Prop := (checkErr h ≠ .nil ∧ x = checkErr h) ∨ (checkErr h = .nil ∧ (∀ r, r < h.node.length → HoldsD h r) ∧ x = .nil) ∨
  (checkErr h = .nil ∧ ∃ r, r < h.node.length ∧ ¬ HoldsD h r ∧ (∀ q, q < r → HoldsD h q) ∧ x = .at 3 r 15)
def SCheckNew (h : HierD) (w : World) (e : Ending) (w' : World) : Prop := ∃ v x, e = .returned v ∧ ErrIs w' v x ∧ SCheck h x ∧ Below w.heap.size w w'
theorem weave_lit (A : HA) (h : HierD) (w : World) (see : HSee w A h) (u : FirstsOk h.node.length h.upF h.up.length) (d : FirstsOk h.node.length h.dnF h.dn.length) (ok : HalfOk h.node.length h.upF h.up) (okd : HalfOk h.node.length h.dnF h.dn) (hn : h.node.length ≤ 65536) (htot : h.up.length + h.dn.length ≤ 1048576) : Calls Tryd.prog 49 #[.agg #[.slice A.a0 h.node.length A.c0, .slice A.a1 h.upF.length A.c1, .slice A.a2 h.up.length A.c2, .slice A.a3 h.dnF.length A.c3, .slice A.a4 h.dn.length A.c4]] w (WeaveNew h w) := weave_any A h w see u d ok okd hn htot

set_option linter.unusedSimpArgs false in
set_option maxRecDepth 100000 in
set_option maxHeartbeats 8000000 in
theorem scheck_loop {s0 s2 s3 s5 s6 s7 s8 s9 s10 s11 s12 s13 s14 s15 s16 s17 s18 s19 s20 s21 s22 s23 s24 s25 s26 s27 : Value} {A : HA} {h : HierD} {w wx : World} {b4 bo base : Nat} {vs : Nat → Value} (see : HSee w A h) (hc : checkErr h = .nil) (htot : h.up.length + h.dn.length ≤ 1048576) (hb : Below w.heap.size w wx) (hx : Cells wx w.heap.size 25 (hierCells A h)) (h4 : Cells wx b4 92 [.slice (some ⟨bo, 0, none⟩) h.node.length h.node.length]) (wr : WRep base h.node.length (webD h) bo vs wx) :
    Code.wp Tryd.prog (tailAt 3 scheckBody) (bodyPost Tryd.prog Tryd.f17 (SCheckNew h w)) ⟨#[s0, .pointer (some ⟨w.heap.size, 0, none⟩), s2, s3, .pointer (some ⟨b4, 0, none⟩), s5, s6, s7, s8, s9, s10, s11, s12, s13, s14, s15, s16, s17, s18, s19, s20, s21, s22, s23, s24, s25, s26, s27], []⟩ wx := by
  have hp := checkErr_parts hc
  have hn := hp.1.n
  have u := firsts_nil hp.1.u hp.2.1
  have d := firsts_nil hp.1.d hp.2.2.1
  have ok := half_up hc
  have okd := half_dn hc
  have UOK := Lib.hid u
  have DOK := Lib.hid d
  have OKU := Lib.hid ok
  have OKD := Lib.hid okd
  have SEE := Lib.hid see
  have HC := Lib.hid hc
  clear hp u d ok okd see hc
  have HB0 := Lib.hid hb
  have HX0 := Lib.hid hx
  have H40 := Lib.hid h4
  have WR := Lib.hid wr
  obtain ⟨k0, k1, k2, k3, k4⟩ := hier_five hx
  clear hb hx h4 wr
  conv => arg 2; whnf
  apply wp_seq_k
  intro KK hK
  have HKK := Lib.hid hK
  clear hK
  go_wp2_with fail
  clear k0 k1 k2 k3 k4
  go_loopg [16] h.node.length (fun g vi wr => ∃ r : Nat, vi = .int .i64 r ∧ r ≤ h.node.length ∧ g = h.node.length - r ∧ (∀ q, q < r → HoldsD h q) ∧ Below wx.heap.size wx wr)
  case atStart => exact ⟨0, rfl, Nat.zero_le _, rfl, fun q hq => absurd hq (by omega), Below.refl _ _⟩
  case round =>
    obtain ⟨r, rfl, hrl, hg, hall, hbr⟩ := hrel
    obtain ⟨wo, rfl⟩ : ∃ wo : World, wo = wr := ⟨_, rfl⟩
    have HG := Lib.hid hg
    have HALL := Lib.hid hall
    have HBR := Lib.hid hbr
    have HB := Lib.hid (HB0.out.trans (hbr.mono HB0.out.size))
    have HX := Lib.hid (HX0.out.below hbr HX0.out.lt)
    have H4 := Lib.hid (H40.out.below hbr H40.out.lt)
    have WR2 := Lib.hid (WR.out.below hbr)
    clear hg hall hbr
    by_cases hrn : r < h.node.length
    · obtain ⟨k0, k1, k2, k3, k4⟩ := hier_five HX.out
      have q0 : wo.cell? ⟨b4, 0, none⟩ = some (.slice (some ⟨bo, 0, none⟩) h.node.length h.node.length) := H4.out.cell rfl
      go_wp2_with fail
      refine (holds_any A h r base bo vs _ (SEE.out.below HB.out) UOK.out DOK.out OKU.out OKD.out hn htot WR2.out hrn).mono ?_
      rintro e w1 ⟨b, rfl, hbi, hb1⟩
      have HBI := Lib.hid hbi
      have HB1 := Lib.hid hb1
      clear hbi hb1 k0 k1 k2 k3 k4 q0
      cases b
      · have hno : ¬ HoldsD h r := fun hh => by have := HBI.out.2 hh; cases this
        have HNO := Lib.hid hno
        clear hno
        go_wp2_with fail
        refine (at_any 3 r 15 _).mono ?_
        rintro e w2 ⟨v, rfl, hv, hb2⟩
        have HV := Lib.hid hv
        have HB2 := Lib.hid hb2
        clear hv hb2
        go_wp2
        go_returns
        exact ⟨v, .at 3 r 15, rfl, HV.out, .inr (.inr ⟨HC.out, r, hrn, HNO.out, HALL.out, rfl⟩), (HB.out.trans (HB1.out.mono HB.out.size)).trans (HB2.out.mono (HB.out.trans (HB1.out.mono HB.out.size)).size)⟩
      · have HOK := Lib.hid (HBI.out.1 rfl)
        go_wp2_with fail
        go_roundg (h.node.length - (r + 1))
        case measure => rw [HG.out]; omega
        case rel =>
          refine ⟨r + 1, by go_num, by omega, rfl, fun q hq => ?_, HBR.out.trans (HB1.out.mono HBR.out.size)⟩
          rcases Nat.lt_or_ge q r with c | c
          · exact HALL.out q c
          · obtain rfl : q = r := by omega
            exact HOK.out
    · obtain rfl : r = h.node.length := by omega
      go_wp2_with fail
      refine HKK.out _ _ ?_
      conv => arg 2; whnf
      go_wp2
      go_returns
      exact ⟨_, .nil, rfl, rfl, .inr (.inl ⟨HC.out, HALL.out, rfl⟩), HB.out⟩

set_option linter.unusedSimpArgs false in
set_option maxRecDepth 100000 in
set_option maxHeartbeats 8000000 in
theorem scheck_weave {s0 s2 s3 s4 s5 s6 s7 s8 s9 s10 s11 s12 s13 s14 s15 s16 s17 s18 s19 s20 s21 s22 s23 s24 s25 s26 s27 : Value} {A : HA} {h : HierD} {w wx : World} (see : HSee w A h) (hc : checkErr h = .nil) (htot : h.up.length + h.dn.length ≤ 1048576) (hb : Below w.heap.size w wx) (hx : Cells wx w.heap.size 25 (hierCells A h)) :
    Code.wp Tryd.prog (tailAt 2 scheckBody) (bodyPost Tryd.prog Tryd.f17 (SCheckNew h w)) ⟨#[s0, .pointer (some ⟨w.heap.size, 0, none⟩), s2, s3, s4, s5, s6, s7, s8, s9, s10, s11, s12, s13, s14, s15, s16, s17, s18, s19, s20, s21, s22, s23, s24, s25, s26, s27], []⟩ wx := by
  have hp := checkErr_parts hc
  have hn := hp.1.n
  have u := firsts_nil hp.1.u hp.2.1
  have d := firsts_nil hp.1.d hp.2.2.1
  have ok := half_up hc
  have okd := half_dn hc
  have UOK := Lib.hid u
  have DOK := Lib.hid d
  have OKU := Lib.hid ok
  have OKD := Lib.hid okd
  have SEE := Lib.hid see
  have HC := Lib.hid hc
  clear hp u d ok okd see hc
  have HB := Lib.hid hb
  have HX := Lib.hid hx
  obtain ⟨k0, k1, k2, k3, k4⟩ := hier_five hx
  clear hb hx
  conv => arg 2; whnf
  apply wp_seq_k
  intro KK hK
  have HKK := Lib.hid hK
  clear hK
  go_wp2_with fail
  refine (weave_lit A h _ (SEE.out.below HB.out) UOK.out DOK.out OKU.out OKD.out hn htot).mono ?_
  rintro e w1 ⟨bo, base, vs, rfl, hw, -, -, hb1⟩
  have ho := (Below.refl w1.heap.size w1).alloc (Nat.le_refl _) (.cells #[.slice (some ⟨bo, 0, none⟩) h.node.length h.node.length] 92)
  have HB1 := Lib.hid ((HB.out.trans (hb1.mono HB.out.size)).alloc (HB.out.trans (hb1.mono HB.out.size)).size (.cells #[.slice (some ⟨bo, 0, none⟩) h.node.length h.node.length] 92))
  have HX1 := Lib.hid ((HX.out.below hb1 HX.out.lt).alloc (.cells #[.slice (some ⟨bo, 0, none⟩) h.node.length h.node.length] 92))
  have HW1 := Lib.hid (hw.below ho)
  have H41 := Lib.hid (Cells.new w1 92 [.slice (some ⟨bo, 0, none⟩) h.node.length h.node.length])
  clear hb1 hw ho HB HX k0 k1 k2 k3 k4
  unfold webVal
  go_wp2_with fail
  refine HKK.out _ _ ?_
  change Code.wp _ (tailAt 3 scheckBody) _ _ _
  exact scheck_loop SEE.out HC.out htot HB1.out HX1.out H41.out HW1.out
set_option linter.unusedSimpArgs false in
set_option maxRecDepth 100000 in
set_option maxHeartbeats 8000000 in
/-- **sound.Check.** -/
theorem scheck_any (A : HA) (h : HierD) (w : World) (see : HSee w A h) : Calls Tryd.prog 17 #[hierVal A h] w (SCheckNew h w) := by
  have SEE := Lib.hid see
  have HX0 := Lib.hid (Cells.new w 25 (hierCells A h))
  have HB0 := Lib.hid ((Below.refl w.heap.size w).alloc (Nat.le_refl _) (.cells (hierCells A h).toArray 25))
  obtain ⟨k0, k1, k2, k3, k4⟩ := hier_five HX0.out
  clear see
  unfold hierVal
  go_enter Tryd.func17, Tryd.ntmps17
  apply wp_seq_k
  intro K0 hK
  have HK0 := Lib.hid hK
  clear hK
  go_wp2_with fail
  refine HK0.out _ _ ?_
  clear HK0
  apply wp_seq_k
  intro KK hK
  have HKK := Lib.hid hK
  clear hK
  go_wp2_with fail
  refine (hcheck_any A h _ (SEE.out.below HB0.out)).mono ?_
  rintro e w1 ⟨v, rfl, hv, hb⟩
  have HV := Lib.hid hv
  have HX := Lib.hid (HX0.out.below hb HX0.out.lt)
  have HB := Lib.hid (HB0.out.trans (hb.mono HB0.out.size))
  clear hv hb HX0 HB0 k0 k1 k2 k3 k4
  by_cases hc : checkErr h = .nil
  · obtain rfl := HV.out.nilv hc
    have hp := checkErr_parts hc
    have HT := Lib.hid (hp.1.total SEE.out (firsts_nil hp.1.u hp.2.1) (firsts_nil hp.1.d hp.2.2.1))
    have HC := Lib.hid hc
    clear hc hp
    go_wp2_with fail
    refine HKK.out _ _ ?_
    change Code.wp _ (tailAt 2 scheckBody) _ _ _
    exact scheck_weave SEE.out HC.out HT.out HB.out HX.out
  · obtain ⟨t1, v1, rfl⟩ := HV.out.iface hc
    have HC := Lib.hid hc
    clear hc
    go_wp2
    go_returns
    exact ⟨_, _, rfl, HV.out, .inl ⟨HC.out, rfl⟩, HB.out⟩
end Go.Proofs.YtjbphoophgbmiaaDoor

/- sound.Above. -/
namespace Go.Proofs.YtjbphoophgbmiaaDoor
open Go.ChangeShapes Go.WideShapes Go.ChangeAt Go.RowKit Go.Joins Go.Deep

noncomputable def aboveBody : Code := Tryd.f18.body.getD .skip
/-- What sound.Above answers. -/
inductive SAbove (h : HierD) (r s t : Int) : Int → EV → Prop
  | form (e : checkErr h ≠ .nil) : SAbove h r s t 0 (checkErr h)
  | arg (e : checkErr h = .nil) (a : r < -1 ∨ (h.node.length : Int) ≤ r) : SAbove h r s t 0 (.code 1)
  | node (e : checkErr h = .nil) (a : ¬ (r < -1 ∨ (h.node.length : Int) ≤ r)) (b : (s ≤ r ∨ (h.node.length : Int) ≤ s) ∨ t ≤ r ∨ (h.node.length : Int) ≤ t) : SAbove h r s t 0 (.code 7)
  | walk (D : Nat → Option Int) (d : Int) (e : checkErr h = .nil) (a : ¬ (r < -1 ∨ (h.node.length : Int) ≤ r)) (b : ¬ ((s ≤ r ∨ (h.node.length : Int) ≤ s) ∨ t ≤ r ∨ (h.node.length : Int) ≤ t)) (i : IsS (webD h) r s.toNat D) (f : D t.toNat = some d) : SAbove h r s t d .nil
  | none (D : Nat → Option Int) (e : checkErr h = .nil) (a : ¬ (r < -1 ∨ (h.node.length : Int) ≤ r)) (b : ¬ ((s ≤ r ∨ (h.node.length : Int) ≤ s) ∨ t ≤ r ∨ (h.node.length : Int) ≤ t)) (i : IsS (webD h) r s.toNat D) (f : D t.toNat = none) : SAbove h r s t 0 (.code 16)
def AboveNew (h : HierD) (r s t : Int) (w : World) (e : Ending) (w' : World) : Prop := ∃ d v x, e = .returned (.tuple #[.int .u64 d, v]) ∧ ErrIs w' v x ∧ SAbove h r s t d x ∧ Below w.heap.size w w'
theorem IsS.big {W : Nat → List (Nat × Nat)} {r : Int} {u : Nat} {D : Nat → Option Int} (h : IsS W r u D) {v : Nat} {d : Int} (hd : D v = some d) : 0 ≤ d := (h.walk v d hd).nonneg

set_option linter.unusedSimpArgs false in
set_option maxRecDepth 100000 in
set_option maxHeartbeats 8000000 in
theorem above_walk {s0 s5 s6 s7 s8 s9 s10 s11 s12 s13 s14 s15 s16 s17 s18 s19 s20 s21 s22 s23 s24 s25 s26 s27 s28 s29 s30 s31 s32 s33 s34 s35 s36 s37 s38 s39 s40 s41 s42 s43 s44 s45 s46 s47 s48 s49 s50 s51 s52 s53 s54 s55 s56 s57 s58 s59 s60 : Value} {A : HA} {h : HierD} {r : Int} {sn tn : Nat} {w wx : World} (see : HSee w A h) (hc : checkErr h = .nil) (htot : h.up.length + h.dn.length ≤ 1048576) (hb : Below w.heap.size w wx) (hx : Cells wx w.heap.size 25 (hierCells A h)) (a : ¬ (r < -1 ∨ (h.node.length : Int) ≤ r)) (b : ¬ (((sn : Int) ≤ r ∨ (h.node.length : Int) ≤ sn) ∨ (tn : Int) ≤ r ∨ (h.node.length : Int) ≤ tn)) :
    Code.wp Tryd.prog (tailAt 5 aboveBody) (bodyPost Tryd.prog Tryd.f18 (AboveNew h r sn tn w)) ⟨#[s0, .int .i64 r, .int .i64 (sn : Nat), .int .i64 (tn : Nat), .pointer (some ⟨w.heap.size, 0, none⟩), s5, s6, s7, s8, s9, s10, s11, s12, s13, s14, s15, s16, s17, s18, s19, s20, s21, s22, s23, s24, s25, s26, s27, s28, s29, s30, s31, s32, s33, s34, s35, s36, s37, s38, s39, s40, s41, s42, s43, s44, s45, s46, s47, s48, s49, s50, s51, s52, s53, s54, s55, s56, s57, s58, s59, s60], []⟩ wx := by
  have hp := checkErr_parts hc
  have hn := hp.1.n
  have u := firsts_nil hp.1.u hp.2.1
  have d := firsts_nil hp.1.d hp.2.2.1
  have ok := half_up hc
  have okd := half_dn hc
  have UOK := Lib.hid u
  have DOK := Lib.hid d
  have OKU := Lib.hid ok
  have OKD := Lib.hid okd
  have SEE := Lib.hid see
  have HC := Lib.hid hc
  clear hp u d ok okd see hc
  have hsn : sn < h.node.length := by omega
  have htn : tn < h.node.length := by omega
  have WOK := Lib.hid (web_ok OKU.out OKD.out)
  have WLEN := Lib.hid (web_len UOK.out DOK.out htot)
  have HB := Lib.hid hb
  have HX := Lib.hid hx
  have HA1 := Lib.hid a
  have HA2 := Lib.hid b
  obtain ⟨k0, k1, k2, k3, k4⟩ := hier_five hx
  clear hb hx a b
  conv => arg 2; whnf
  apply wp_seq_k
  intro KK hK
  have HKK := Lib.hid hK
  clear hK
  go_wp2_with fail
  refine (weave_lit A h _ (SEE.out.below HB.out) UOK.out DOK.out OKU.out OKD.out hn htot).mono ?_
  rintro e w1 ⟨bo, base, vs, rfl, hw, -, -, hb1⟩
  have HB1 := Lib.hid (HB.out.trans (hb1.mono HB.out.size))
  have HW1 := Lib.hid hw
  clear hb1 hw HB HX k0 k1 k2 k3 k4
  go_wp2_with fail
  refine (from_any (r := r) HW1.out WOK.out WLEN.out hn hsn).mono ?_
  rintro e w2 ⟨bd, D, rfl, hcd, hS, hbig0, -, hb2⟩
  have HB2 := Lib.hid (HB1.out.trans (hb2.mono HB1.out.size))
  have HS := Lib.hid hS
  have y0 : w2.cell? ⟨bd, tn, none⟩ = some (.int .u64 (farOf (D tn))) := hcd.cell (distCells_get htn)
  clear hcd hS hb2 HB1 HW1
  have hbig : ∀ d0, D tn = some d0 → d0 ≠ 18446744073709551615 := fun d0 hd0 => by have := hbig0 tn d0 hd0; omega
  clear hbig0
  cases hDt : D tn with
  | none =>
    rw [hDt] at y0
    simp only [farOf] at y0
    have HDT := Lib.hid hDt
    clear hDt hbig
    go_wp2_with fail
    refine HKK.out _ _ ?_
    conv => arg 2; whnf
    go_wp2
    go_returns
    exact ⟨0, _, .code 16, rfl, rfl, .none D HC.out HA1.out HA2.out (by rw [Int.toNat_natCast]; exact HS.out) (by rw [Int.toNat_natCast]; exact HDT.out), HB2.out⟩
  | some d0 =>
    have h0 := hbig d0 hDt
    rw [hDt] at y0
    simp only [farOf] at y0
    have e1 : (d0 == 18446744073709551615) = false := by simpa using h0
    have HDT := Lib.hid hDt
    clear hDt hbig h0
    go_wp2_with fail
    refine HKK.out _ _ ?_
    conv => arg 2; whnf
    go_wp2
    go_returns
    exact ⟨d0, _, .nil, rfl, rfl, .walk D d0 HC.out HA1.out HA2.out (by rw [Int.toNat_natCast]; exact HS.out) (by rw [Int.toNat_natCast]; exact HDT.out), HB2.out⟩

set_option linter.unusedSimpArgs false in
set_option maxRecDepth 100000 in
set_option maxHeartbeats 8000000 in
theorem above_nodes {s0 s5 s6 s7 s8 s9 s10 s12 s13 s14 s15 s16 s17 s18 s19 s20 s21 s22 s23 s24 s25 s26 s27 s28 s29 s30 s31 s32 s33 s34 s35 s36 s37 s38 s39 s40 s41 s42 s43 s44 s45 s46 s47 s48 s49 s50 s51 s52 s53 s54 s55 s56 s57 s58 s59 s60 : Value} {A : HA} {h : HierD} {r s t : Int} {w wx : World} (see : HSee w A h) (hc : checkErr h = .nil) (htot : h.up.length + h.dn.length ≤ 1048576) (hb : Below w.heap.size w wx) (hx : Cells wx w.heap.size 25 (hierCells A h)) (a : ¬ (r < -1 ∨ (h.node.length : Int) ≤ r)) :
    Code.wp Tryd.prog (tailAt 4 aboveBody) (bodyPost Tryd.prog Tryd.f18 (AboveNew h r s t w)) ⟨#[s0, .int .i64 r, .int .i64 s, .int .i64 t, .pointer (some ⟨w.heap.size, 0, none⟩), s5, s6, s7, s8, s9, s10, .int .i64 (h.node.length : Nat), s12, s13, s14, s15, s16, s17, s18, s19, s20, s21, s22, s23, s24, s25, s26, s27, s28, s29, s30, s31, s32, s33, s34, s35, s36, s37, s38, s39, s40, s41, s42, s43, s44, s45, s46, s47, s48, s49, s50, s51, s52, s53, s54, s55, s56, s57, s58, s59, s60], []⟩ wx := by
  have SEE := Lib.hid see
  have HC := Lib.hid hc
  have HB := Lib.hid hb
  have HX := Lib.hid hx
  have HA1 := Lib.hid a
  have hbb := (Below.refl wx.heap.size wx).alloc (Nat.le_refl _) (.cells #[.int .i64 s, .int .i64 t] 3)
  have hlst := Cells.new wx 3 [.int .i64 s, .int .i64 t]
  have HB1 := Lib.hid (HB.out.trans (hbb.mono HB.out.size))
  have HX1 := Lib.hid (HX.out.below hbb HX.out.lt)
  have HL1 := Lib.hid hlst
  clear see hc hb hx a hbb hlst
  conv => arg 2; whnf
  apply wp_seq_k
  intro KK hK
  have HKK := Lib.hid hK
  clear hK
  go_wp2_with fail
  obtain ⟨wz, hwz⟩ : ∃ wz, wx.alloc (.cells #[.int .i64 s, .int .i64 t] 3) = wz := ⟨_, rfl⟩
  have hl := HL1.out
  have hx1 := HX1.out
  have hb1 := HB1.out
  rw [hwz] at hl hx1 hb1
  try rw [hwz]
  have l0 : wz.cell? ⟨wx.heap.size, 0, none⟩ = some (.int .i64 s) := hl.cell rfl
  have l1 : wz.cell? ⟨wx.heap.size, 1, none⟩ = some (.int .i64 t) := hl.cell rfl
  have HXZ := Lib.hid hx1
  have HBZ := Lib.hid hb1
  clear hl hx1 hb1 hwz HL1 HX1 HB1 HX HB
  by_cases cs1 : s ≤ r
  case pos =>
    have ds1 : decide (s ≤ r) = true := by simpa using cs1
    have HN := Lib.hid (show SAbove h r s t 0 (.code 7) from .node HC.out HA1.out (.inl (.inl cs1)))
    clear cs1   
    refine wp_loop_rounds 3 ?_
    rw [rounds_succ]
    go_wp2_with fail
    go_returns
    exact ⟨0, _, .code 7, rfl, rfl, HN.out, HBZ.out⟩
  have ds1 : decide (s ≤ r) = false := by simpa using cs1
  by_cases cs2 : (h.node.length : Int) ≤ s
  case pos =>
    have ds2 : decide ((h.node.length : Int) ≤ s) = true := by simpa using cs2
    have HN := Lib.hid (show SAbove h r s t 0 (.code 7) from .node HC.out HA1.out (.inl (.inr cs2)))
    clear cs2 cs1  
    refine wp_loop_rounds 3 ?_
    rw [rounds_succ]
    go_wp2_with fail
    go_returns
    exact ⟨0, _, .code 7, rfl, rfl, HN.out, HBZ.out⟩
  have ds2 : decide ((h.node.length : Int) ≤ s) = false := by simpa using cs2
  by_cases ct1 : t ≤ r
  case pos =>
    have dt1 : decide (t ≤ r) = true := by simpa using ct1
    have HN := Lib.hid (show SAbove h r s t 0 (.code 7) from .node HC.out HA1.out (.inr (.inl ct1)))
    clear ct1  cs1 cs2 
    refine wp_loop_rounds 3 ?_
    rw [rounds_succ]
    go_wp2_with fail
    rw [rounds_succ]
    go_wp2_with fail
    go_returns
    exact ⟨0, _, .code 7, rfl, rfl, HN.out, HBZ.out⟩
  have dt1 : decide (t ≤ r) = false := by simpa using ct1
  by_cases ct2 : (h.node.length : Int) ≤ t
  case pos =>
    have dt2 : decide ((h.node.length : Int) ≤ t) = true := by simpa using ct2
    have HN := Lib.hid (show SAbove h r s t 0 (.code 7) from .node HC.out HA1.out (.inr (.inr ct2)))
    clear ct2   cs1 cs2 ct1
    refine wp_loop_rounds 3 ?_
    rw [rounds_succ]
    go_wp2_with fail
    rw [rounds_succ]
    go_wp2_with fail
    go_returns
    exact ⟨0, _, .code 7, rfl, rfl, HN.out, HBZ.out⟩
  have dt2 : decide ((h.node.length : Int) ≤ t) = false := by simpa using ct2
  obtain ⟨sn, rfl⟩ : ∃ sn : Nat, s = sn := ⟨s.toNat, by have := HA1.out; omega⟩
  obtain ⟨tn, rfl⟩ : ∃ tn : Nat, t = tn := ⟨t.toNat, by have := HA1.out; omega⟩
  have HA2 := Lib.hid (show ¬ (((sn : Int) ≤ r ∨ (h.node.length : Int) ≤ sn) ∨ (tn : Int) ≤ r ∨ (h.node.length : Int) ≤ tn) by omega)
  have ds3 : decide (h.node.length ≤ sn) = false := by simp; omega
  have dt3 : decide (h.node.length ≤ tn) = false := by simp; omega
  clear cs1 cs2 ct1 ct2
  refine wp_loop_rounds 3 ?_
  rw [rounds_succ]
  go_wp2_with fail
  rw [rounds_succ]
  go_wp2_with fail
  rw [rounds_succ]
  go_wp2_with fail
  refine HKK.out _ _ ?_
  change Code.wp _ (tailAt 5 aboveBody) _ _ _
  exact above_walk SEE.out HC.out htot HBZ.out HXZ.out HA1.out HA2.out

set_option linter.unusedSimpArgs false in
set_option maxRecDepth 100000 in
set_option maxHeartbeats 8000000 in
/-- **sound.Above.** -/
theorem above_any (A : HA) (h : HierD) (r s t : Int) (w : World) (see : HSee w A h) : Calls Tryd.prog 18 #[hierVal A h, .int .i64 r, .int .i64 s, .int .i64 t] w (AboveNew h r s t w) := by
  have SEE := Lib.hid see
  have HX0 := Lib.hid (Cells.new w 25 (hierCells A h))
  have HB0 := Lib.hid ((Below.refl w.heap.size w).alloc (Nat.le_refl _) (.cells (hierCells A h).toArray 25))
  obtain ⟨k0, k1, k2, k3, k4⟩ := hier_five HX0.out
  clear see
  unfold hierVal
  go_enter Tryd.func18, Tryd.ntmps18
  apply wp_seq_k
  intro K0 hK
  have HK0 := Lib.hid hK
  clear hK
  go_wp2_with fail
  refine HK0.out _ _ ?_
  clear HK0
  apply wp_seq_k
  intro K1 hK
  have HK1 := Lib.hid hK
  clear hK
  go_wp2_with fail
  refine (hcheck_any A h _ (SEE.out.below HB0.out)).mono ?_
  rintro e w1 ⟨v, rfl, hv, hb⟩
  have HV := Lib.hid hv
  have HX := Lib.hid (HX0.out.below hb HX0.out.lt)
  have HB := Lib.hid (HB0.out.trans (hb.mono HB0.out.size))
  clear hv hb HX0 HB0 k0 k1 k2 k3 k4
  by_cases hc : checkErr h = .nil
  · obtain rfl := HV.out.nilv hc
    have hp := checkErr_parts hc
    have HT := Lib.hid (hp.1.total SEE.out (firsts_nil hp.1.u hp.2.1) (firsts_nil hp.1.d hp.2.2.1))
    have HC := Lib.hid hc
    obtain ⟨k0, k1, k2, k3, k4⟩ := hier_five HX.out
    clear hc hp
    go_wp2_with fail
    refine HK1.out _ _ ?_
    clear HK1
    apply wp_seq_k
    intro K2 hK
    have HK2 := Lib.hid hK
    clear hK
    go_wp2_with fail
    refine HK2.out _ _ ?_
    clear HK2 k0 k1 k2 k3 k4
    apply wp_seq_k
    intro K3 hK
    have HK3 := Lib.hid hK
    clear hK
    by_cases a1 : r < -1
    · have d1 : decide (r < -1) = true := by simpa using a1
      have HN := Lib.hid (show SAbove h r s t 0 (.code 1) from .arg HC.out (.inl a1))
      clear a1
      go_wp2
      go_returns
      exact ⟨0, _, .code 1, rfl, rfl, HN.out, HB.out⟩
    have d1 : decide (r < -1) = false := by simpa using a1
    by_cases a2 : (h.node.length : Int) ≤ r
    · have d2 : decide ((h.node.length : Int) ≤ r) = true := by simpa using a2
      have HN := Lib.hid (show SAbove h r s t 0 (.code 1) from .arg HC.out (.inr a2))
      clear a1 a2
      go_wp2
      go_returns
      exact ⟨0, _, .code 1, rfl, rfl, HN.out, HB.out⟩
    have d2 : decide ((h.node.length : Int) ≤ r) = false := by simpa using a2
    have HA1 := Lib.hid (show ¬ (r < -1 ∨ (h.node.length : Int) ≤ r) by omega)
    clear a1 a2
    go_wp2_with fail
    refine HK3.out _ _ ?_
    change Code.wp _ (tailAt 4 aboveBody) _ _ _
    exact above_nodes SEE.out HC.out HT.out HB.out HX.out HA1.out
  · obtain ⟨t1, v1, rfl⟩ := HV.out.iface hc
    have HC := Lib.hid hc
    clear hc
    go_wp2
    go_returns
    exact ⟨0, _, _, rfl, HV.out, .form HC.out, HB.out⟩
end Go.Proofs.YtjbphoophgbmiaaDoor
