/- The law UnpackFixed: its walk. -/
import Derived.Test.YtchhbgckonpedaaGreatDoorG44
import Derived.Test.YtchhbgckonpedaaGreatDoorG16
import Derived.Test.YtchhbgckonpedaaGreatDoorG26
import Derived.Test.YtchhbgckonpedaaGreatDoorCards
import Derived.Test.YtchhbgckonpedaaGreatDoorTie
import Derived.ChangeSame
import Derived.ChangeVars
import Derived.JoinedOf
import Derived.LaidLaws
import Derived.LaidHandle
import Derived.Stop.Joined
import Derived.SevenTiedAt
namespace Go.Proofs.YtchhbgckonpedaaGreatDoor
open Go.ChangeShapes Go.WideShapes Go.ChangeAt Go.RowKit Go.Joins Go.Deep
theorem uf_links : linksRes threeD 2 = ([2], .nil) := by decide +kernel
theorem uf_nodes : nodesRes threeD 2 = ([0, 1], .nil) := by decide +kernel
theorem uf_count : (linksRes threeD 1).1.length = 2 ∧ (linksRes threeD 1).2 = .nil := by decide +kernel
theorem uf_links3 : linksRes threeD 3 = ([], .code 1) := by decide +kernel
theorem uf_nodesm : nodesRes threeD (-1) = ([], .code 1) := by decide +kernel
def zeroA : HA := ⟨none, none, none, none, none, 0, 0, 0, 0, 0⟩
def zeroD : HierD := ⟨[], [], [], [], []⟩
theorem zero_see (w : World) : HSee w zeroA zeroD := by
  refine ⟨⟨by decide, by decide, fun i x h => by cases h⟩, ⟨by decide, by decide, fun i x h => by cases h⟩, ⟨by decide, by decide, fun i x h => by cases h⟩, ⟨by decide, by decide, fun i x h => by cases h⟩, ⟨by decide, by decide, fun i x h => by cases h⟩, ?_, ?_, ?_, ?_, ?_⟩ <;> exact fun x h => by cases h
theorem uf_zero : linksRes zeroD (-1) = ([], .code 14) := by decide +kernel
theorem uf_11 {r : Nat} {d : Int} {x : EV} (a : MeetIs threeD 1 1 r d x) : x = .nil := by
  have h := MeetIs.is three_form (by decide +kernel) a
  rw [show (if _ = _ then _ else _ : Nat × Int × EV) = (0, 0, .nil) from by decide +kernel] at h
  simp only [Prod.mk.injEq] at h
  exact h.2.2.symm
theorem uf_20 {r : Nat} {d : Int} {x : EV} (a : MeetIs threeD 2 0 r d x) : x = .code 16 := by
  have h := MeetIs.is three_form (by decide +kernel) a
  rw [show (if _ = _ then _ else _ : Nat × Int × EV) = (0, 0, .code 16) from by decide +kernel] at h
  simp only [Prod.mk.injEq] at h
  exact h.2.2.symm
theorem meet_bad {h : HierD} {s t : Int} {r : Nat} {d : Int} {x : EV} (hc : checkErr h = .nil) (hn : nodesErr h.node.length s t ≠ .nil) (m : MeetIs h s t r d x) : x = nodesErr h.node.length s t := by
  cases m with
  | form e => exact absurd hc e
  | nodes e k => rfl
  | walk D E r d e k => exact absurd k hn
  | none D E e k => exact absurd k hn
theorem uf_03 {r : Nat} {d : Int} {x : EV} (a : MeetIs threeD 0 3 r d x) : x = .at 3 1 7 := (meet_bad three_form (by decide +kernel) a).trans (by decide +kernel)
theorem uf_3m {r : Nat} {d : Int} {x : EV} (a : MeetIs threeD 3 (-1) r d x) : x = .at 3 0 7 := (meet_bad three_form (by decide +kernel) a).trans (by decide +kernel)
theorem path_one {h : HierD} {s : Nat} {d : Int} {p : List Nat} (a : PathIs h s s d p) : p = [s] := by
  obtain ⟨h1, h2, h3, -⟩ := a
  match p, h1, h2, h3 with
  | [a], h1, _, _ => simp at h1; rw [h1]
  | a :: b :: l, h1, h2, h3 =>
    simp at h1
    subst h1
    rw [List.getLast?_cons_cons] at h2
    have := List.mem_of_getLast? h2
    simp only [List.nodup_cons] at h3
    exact absurd this h3.1
structure ThreeF (h : HierD) : Prop where
  small : h.up.length + h.dn.length ≤ 281474976710656
  l2 : linksRes h 2 = ([2], .nil)
  n2 : nodesRes h 2 = ([0, 1], .nil)
  c1 : (linksRes h 1).1.length = 2 ∧ (linksRes h 1).2 = .nil
  l3 : linksRes h 3 = ([], .code 1)
  nm : nodesRes h (-1) = ([], .code 1)
  m11 : ∀ (r : Nat) (d : Int) (x : EV), MeetIs h 1 1 r d x → x = .nil
  m20 : ∀ (r : Nat) (d : Int) (x : EV), MeetIs h 2 0 r d x → x = .code 16
  m03 : ∀ (r : Nat) (d : Int) (x : EV), MeetIs h 0 3 r d x → x = .at 3 1 7
  m3m : ∀ (r : Nat) (d : Int) (x : EV), MeetIs h 3 (-1) r d x → x = .at 3 0 7
  pl : ∀ (A : HA) (s t : Nat), PlainlyOk A h s t
theorem threeF : ThreeF threeD :=
  ⟨by decide, uf_links, uf_nodes, uf_count, uf_links3, uf_nodesm, fun _ _ _ => uf_11, fun _ _ _ => uf_20, fun _ _ _ => uf_03, fun _ _ _ => uf_3m, fun A s t => plainly_ok A threeD s t (by decide)⟩
set_option linter.unusedSimpArgs false in
set_option maxRecDepth 100000 in
set_option maxHeartbeats 8000000 in
theorem unpackFixed_any (w : World) (hg : EVar w) : Calls Tryz.prog 8 #[] w (BoolIs true w) := by
  have HG := Lib.hid hg
  clear hg
  go_enter Tryz.func8, Tryz.ntmps8
  go_wp2_with fail
  refine (awake22_any _).mono ?_
  rintro e w1 ⟨rfl, hb⟩
  have B1 := Lib.hid hb
  clear hb
  go_wp2_with fail
  refine (three_any _).mono ?_
  rintro e w2 ⟨A, rfl, hs, -, hb⟩
  have HF := Lib.hid threeF
  obtain ⟨h, hh⟩ : ∃ h, threeD = h := ⟨_, rfl⟩
  rw [hh] at hs HF ⊢
  clear hh
  have ho := (Below.refl w2.heap.size w2).alloc (Nat.le_refl _) (.cells (hierCells A h).toArray 25)
  have K2 := Lib.hid (UDX.mk (A := A) (h := h) (Cells.new w2 25 (hierCells A h)) ((B1.out.trans (hb.mono B1.out.size)).alloc (B1.out.trans (hb.mono B1.out.size)).size (.cells (hierCells A h).toArray 25)) (hs.below ho))
  obtain ⟨B, hB⟩ : ∃ B, w2.heap.size = B := ⟨_, rfl⟩
  rw [hB] at K2
  obtain ⟨wz2, hwz⟩ : ∃ wz, w2.alloc (.cells (hierCells A h).toArray 25) = wz := ⟨_, rfl⟩
  rw [hwz] at K2
  clear hs hb ho B1
  have HB := Lib.hid hB
  have HWZ := Lib.hid hwz
  clear hB hwz
  unfold hierVal
  go_upto_region 4 with fail
  rw [show w2.alloc (.cells #[.slice A.a0 h.node.length A.c0, .slice A.a1 h.upF.length A.c1, .slice A.a2 h.up.length A.c2, .slice A.a3 h.dnF.length A.c3, .slice A.a4 h.dn.length A.c4] 25) = wz2 from HWZ.out, HB.out]
  clear HB HWZ
  obtain ⟨k0, k1, k2, k3, k4⟩ := hier_five K2.out.x
  go_wp2_with fail
  refine (ulinks_any A h 2 _ K2.out.s HF.out.small (by omega)).mono ?_
  rintro e w3 ⟨aoa, ca, v, rfl, hv, hn, hb⟩
  rw [HF.out.l2] at hv hn ⊢
  dsimp only at hv hn ⊢
  obtain rfl := hv.nilv rfl
  have K3 := Lib.hid (K2.out.below hb)
  have Law3 := Lib.hid (hn.see.1)
  clear hb k0 k1 k2 k3 k4 K2
  obtain ⟨k0, k1, k2, k3, k4⟩ := hier_five K3.out.x
  go_wp2_with fail
  refine (unodesOf_any A h 2 _ K3.out.s HF.out.small (by omega)).mono ?_
  rintro e w4 ⟨aob, cb, v, rfl, hv, hn, hb⟩
  rw [HF.out.n2] at hv hn ⊢
  dsimp only at hv hn ⊢
  obtain rfl := hv.nilv rfl
  have K4 := Lib.hid (K3.out.below hb)
  have Law4 := Lib.hid (Law3.out.below hb)
  have Lbw4 := Lib.hid (hn.see.1)
  clear hb k0 k1 k2 k3 k4 K3 Law3
  obtain ⟨k0, k1, k2, k3, k4⟩ := hier_five K4.out.x
  go_wp2_with fail
  refine (ucount_any A h 1 _ K4.out.s HF.out.small (by omega)).mono ?_
  rintro e w5 ⟨v, rfl, hv, hb⟩
  rw [HF.out.c1.2] at hv
  rw [HF.out.c1.1]
  obtain rfl := hv.nilv rfl
  have K5 := Lib.hid (K4.out.below hb)
  have Law5 := Lib.hid (Law4.out.below hb)
  have Lbw5 := Lib.hid (Lbw4.out.below hb)
  clear hb k0 k1 k2 k3 k4 K4 Law4 Lbw4
  obtain ⟨k0, k1, k2, k3, k4⟩ := hier_five K5.out.x
  go_wp2_with fail
  refine (upath_any A h 1 1 _ K5.out.s HF.out.small (by omega) (by omega) (HF.out.pl A _ _)).mono ?_
  rintro e w6 ⟨r, d, x, v, p, aop, cp, rfl, hv, hm, -, hp, hn, hb⟩
  obtain rfl := HF.out.m11 _ _ _ hm
  obtain rfl := hv.nilv rfl
  obtain rfl := path_one (hp rfl)
  have K6 := Lib.hid (K5.out.below hb)
  have Law6 := Lib.hid (Law5.out.below hb)
  have Lbw6 := Lib.hid (Lbw5.out.below hb)
  have Lpw6 := Lib.hid (hn.see.1)
  clear hb k0 k1 k2 k3 k4 K5 Law5 Lbw5
  go_wp2_with fail
  refine (samenats_any [2] aoa _ 1 1 ca 1 _ rfl rfl (Law6.out.below ((Below.refl _ _).alloc (Nat.le_refl _) _)) (Nats.fresh w6 [2] (by simp)).see.1).mono ?_
  rintro e w7 ⟨rfl, hb⟩
  replace hb := ((Below.refl w6.heap.size w6).alloc (Nat.le_refl _) (.cells #[.int .i64 2] 3)).trans (hb.mono (by simp))
  have K7 := Lib.hid (K6.out.below hb)
  have Law7 := Lib.hid (Law6.out.below hb)
  have Lbw7 := Lib.hid (Lbw6.out.below hb)
  have Lpw7 := Lib.hid (Lpw6.out.below hb)
  clear hb K6 Law6 Lbw6 Lpw6 Law7
  go_wp2_with fail
  refine (samenats_any [0, 1] aob _ 2 2 cb 2 _ rfl rfl (Lbw7.out.below ((Below.refl _ _).alloc (Nat.le_refl _) _)) (Nats.fresh w7 [0, 1] (by simp)).see.1).mono ?_
  rintro e w8 ⟨rfl, hb⟩
  replace hb := ((Below.refl w7.heap.size w7).alloc (Nat.le_refl _) (.cells #[.int .i64 0, .int .i64 1] 3)).trans (hb.mono (by simp))
  have K8 := Lib.hid (K7.out.below hb)
  have Lbw8 := Lib.hid (Lbw7.out.below hb)
  have Lpw8 := Lib.hid (Lpw7.out.below hb)
  clear hb K7 Lbw7 Lpw7 Lbw8
  go_wp2_with fail
  refine (samenats_any [1] aop _ 1 1 cp 1 _ rfl rfl (Lpw8.out.below ((Below.refl _ _).alloc (Nat.le_refl _) _)) (Nats.fresh w8 [1] (by simp)).see.1).mono ?_
  rintro e w9 ⟨rfl, hb⟩
  replace hb := ((Below.refl w8.heap.size w8).alloc (Nat.le_refl _) (.cells #[.int .i64 1] 3)).trans (hb.mono (by simp))
  have K9 := Lib.hid (K8.out.below hb)
  have Lpw9 := Lib.hid (Lpw8.out.below hb)
  clear hb K8 Lpw8 Lpw9
  obtain ⟨k0, k1, k2, k3, k4⟩ := hier_five K9.out.x
  go_wp2_with fail
  refine (ulinks_any A h 3 _ K9.out.s HF.out.small (by omega)).mono ?_
  rintro e w10 ⟨ao1, c1, v1, rfl, hv, hn, hb⟩
  rw [HF.out.l3] at hv hn ⊢
  dsimp only at hv hn ⊢
  have K10 := Lib.hid (K9.out.below hb)
  have V1w10 := Lib.hid (hv)
  clear hb k0 k1 k2 k3 k4 K9
  obtain ⟨k0, k1, k2, k3, k4⟩ := hier_five K10.out.x
  go_wp2_with fail
  refine (unodesOf_any A h (-1) _ K10.out.s HF.out.small (by omega)).mono ?_
  rintro e w11 ⟨ao2, c2, v2, rfl, hv, hn, hb⟩
  rw [HF.out.nm] at hv hn ⊢
  dsimp only at hv hn ⊢
  have K11 := Lib.hid (K10.out.below hb)
  have V1w11 := Lib.hid (V1w10.out.below hb)
  have V2w11 := Lib.hid (hv)
  clear hb k0 k1 k2 k3 k4 K10 V1w10
  obtain ⟨k0, k1, k2, k3, k4⟩ := hier_five K11.out.x
  go_wp2_with fail
  refine (ucount_any zeroA zeroD (-1) _ (zero_see _) (by decide) (by omega)).mono ?_
  rintro e w12 ⟨v3, rfl, hv, hb⟩
  rw [uf_zero] at hv ⊢
  dsimp only at hv ⊢
  have K12 := Lib.hid (K11.out.below hb)
  have V1w12 := Lib.hid (V1w11.out.below hb)
  have V2w12 := Lib.hid (V2w11.out.below hb)
  have V3w12 := Lib.hid (hv)
  clear hb k0 k1 k2 k3 k4 K11 V1w11 V2w11
  obtain ⟨k0, k1, k2, k3, k4⟩ := hier_five K12.out.x
  go_wp2_with fail
  refine (upath_any A h 2 0 _ K12.out.s HF.out.small (by omega) (by omega) (HF.out.pl A _ _)).mono ?_
  rintro e w13 ⟨r0, d0, x, v4, p0, aop0, cp0, rfl, hv, hm, -, -, hn, hb⟩
  obtain rfl := HF.out.m20 _ _ _ hm
  clear hm hn
  have K13 := Lib.hid (K12.out.below hb)
  have V1w13 := Lib.hid (V1w12.out.below hb)
  have V2w13 := Lib.hid (V2w12.out.below hb)
  have V3w13 := Lib.hid (V3w12.out.below hb)
  have V4w13 := Lib.hid (hv)
  clear hb k0 k1 k2 k3 k4 K12 V1w12 V2w12 V3w12
  obtain ⟨k0, k1, k2, k3, k4⟩ := hier_five K13.out.x
  go_wp2_with fail
  refine (upath_any A h 0 3 _ K13.out.s HF.out.small (by omega) (by omega) (HF.out.pl A _ _)).mono ?_
  rintro e w14 ⟨r1, d1, x, v5, p1, aop1, cp1, rfl, hv, hm, -, -, hn, hb⟩
  obtain rfl := HF.out.m03 _ _ _ hm
  clear hm hn
  have K14 := Lib.hid (K13.out.below hb)
  have V1w14 := Lib.hid (V1w13.out.below hb)
  have V2w14 := Lib.hid (V2w13.out.below hb)
  have V3w14 := Lib.hid (V3w13.out.below hb)
  have V4w14 := Lib.hid (V4w13.out.below hb)
  have V5w14 := Lib.hid (hv)
  clear hb k0 k1 k2 k3 k4 K13 V1w13 V2w13 V3w13 V4w13
  obtain ⟨k0, k1, k2, k3, k4⟩ := hier_five K14.out.x
  go_wp2_with fail
  refine (upath_any A h 3 (-1) _ K14.out.s HF.out.small (by omega) (by omega) (HF.out.pl A _ _)).mono ?_
  rintro e w15 ⟨r2, d2, x, v6, p2, aop2, cp2, rfl, hv, hm, -, -, hn, hb⟩
  obtain rfl := HF.out.m3m _ _ _ hm
  clear hm hn
  have K15 := Lib.hid (K14.out.below hb)
  have V1w15 := Lib.hid (V1w14.out.below hb)
  have V2w15 := Lib.hid (V2w14.out.below hb)
  have V3w15 := Lib.hid (V3w14.out.below hb)
  have V4w15 := Lib.hid (V4w14.out.below hb)
  have V5w15 := Lib.hid (V5w14.out.below hb)
  have V6w15 := Lib.hid (hv)
  clear hb k0 k1 k2 k3 k4 K14 V1w14 V2w14 V3w14 V4w14 V5w14
  go_wp2_with fail
  refine (e_any 1 _).mono ?_
  rintro e w16 ⟨vx, rfl, hvx, hb⟩
  obtain rfl : vx = .agg #[.int .i64 1, .slice none 0 0] := hvx
  have K16 := Lib.hid (K15.out.below hb)
  have V1w16 := Lib.hid (V1w15.out.below hb)
  have V2w16 := Lib.hid (V2w15.out.below hb)
  have V3w16 := Lib.hid (V3w15.out.below hb)
  have V4w16 := Lib.hid (V4w15.out.below hb)
  have V5w16 := Lib.hid (V5w15.out.below hb)
  have V6w16 := Lib.hid (V6w15.out.below hb)
  clear hb K15 V1w15 V2w15 V3w15 V4w15 V5w15 V6w15
  go_wp2_with fail
  refine (same_any (.code 1) _ _ _ ⟨by decide, by decide⟩ (HG.out.below K16.out.b) V1w16.out rfl).mono ?_
  rintro e w17 ⟨rfl, hb⟩
  have K17 := Lib.hid (K16.out.below hb)
  have V1w17 := Lib.hid (V1w16.out.below hb)
  have V2w17 := Lib.hid (V2w16.out.below hb)
  have V3w17 := Lib.hid (V3w16.out.below hb)
  have V4w17 := Lib.hid (V4w16.out.below hb)
  have V5w17 := Lib.hid (V5w16.out.below hb)
  have V6w17 := Lib.hid (V6w16.out.below hb)
  clear hb K16 V1w16 V2w16 V3w16 V4w16 V5w16 V6w16 V1w17
  go_wp2_with fail
  refine (e_any 1 _).mono ?_
  rintro e w18 ⟨vx, rfl, hvx, hb⟩
  obtain rfl : vx = .agg #[.int .i64 1, .slice none 0 0] := hvx
  have K18 := Lib.hid (K17.out.below hb)
  have V2w18 := Lib.hid (V2w17.out.below hb)
  have V3w18 := Lib.hid (V3w17.out.below hb)
  have V4w18 := Lib.hid (V4w17.out.below hb)
  have V5w18 := Lib.hid (V5w17.out.below hb)
  have V6w18 := Lib.hid (V6w17.out.below hb)
  clear hb K17 V2w17 V3w17 V4w17 V5w17 V6w17
  go_wp2_with fail
  refine (same_any (.code 1) _ _ _ ⟨by decide, by decide⟩ (HG.out.below K18.out.b) V2w18.out rfl).mono ?_
  rintro e w19 ⟨rfl, hb⟩
  have K19 := Lib.hid (K18.out.below hb)
  have V2w19 := Lib.hid (V2w18.out.below hb)
  have V3w19 := Lib.hid (V3w18.out.below hb)
  have V4w19 := Lib.hid (V4w18.out.below hb)
  have V5w19 := Lib.hid (V5w18.out.below hb)
  have V6w19 := Lib.hid (V6w18.out.below hb)
  clear hb K18 V2w18 V3w18 V4w18 V5w18 V6w18 V2w19
  go_wp2_with fail
  refine (e_any 14 _).mono ?_
  rintro e w20 ⟨vx, rfl, hvx, hb⟩
  obtain rfl : vx = .agg #[.int .i64 14, .slice none 0 0] := hvx
  have K20 := Lib.hid (K19.out.below hb)
  have V3w20 := Lib.hid (V3w19.out.below hb)
  have V4w20 := Lib.hid (V4w19.out.below hb)
  have V5w20 := Lib.hid (V5w19.out.below hb)
  have V6w20 := Lib.hid (V6w19.out.below hb)
  clear hb K19 V3w19 V4w19 V5w19 V6w19
  go_wp2_with fail
  refine (same_any (.code 14) _ _ _ ⟨by decide, by decide⟩ (HG.out.below K20.out.b) V3w20.out rfl).mono ?_
  rintro e w21 ⟨rfl, hb⟩
  have K21 := Lib.hid (K20.out.below hb)
  have V3w21 := Lib.hid (V3w20.out.below hb)
  have V4w21 := Lib.hid (V4w20.out.below hb)
  have V5w21 := Lib.hid (V5w20.out.below hb)
  have V6w21 := Lib.hid (V6w20.out.below hb)
  clear hb K20 V3w20 V4w20 V5w20 V6w20 V3w21
  go_wp2_with fail
  refine (e_any 16 _).mono ?_
  rintro e w22 ⟨vx, rfl, hvx, hb⟩
  obtain rfl : vx = .agg #[.int .i64 16, .slice none 0 0] := hvx
  have K22 := Lib.hid (K21.out.below hb)
  have V4w22 := Lib.hid (V4w21.out.below hb)
  have V5w22 := Lib.hid (V5w21.out.below hb)
  have V6w22 := Lib.hid (V6w21.out.below hb)
  clear hb K21 V4w21 V5w21 V6w21
  go_wp2_with fail
  refine (same_any (.code 16) _ _ _ ⟨by decide, by decide⟩ (HG.out.below K22.out.b) V4w22.out rfl).mono ?_
  rintro e w23 ⟨rfl, hb⟩
  have K23 := Lib.hid (K22.out.below hb)
  have V4w23 := Lib.hid (V4w22.out.below hb)
  have V5w23 := Lib.hid (V5w22.out.below hb)
  have V6w23 := Lib.hid (V6w22.out.below hb)
  clear hb K22 V4w22 V5w22 V6w22 V4w23
  go_wp2_with fail
  refine (e_any 7 _).mono ?_
  rintro e w24 ⟨vx, rfl, hvx, hb⟩
  obtain rfl : vx = .agg #[.int .i64 7, .slice none 0 0] := hvx
  have K24 := Lib.hid (K23.out.below hb)
  have V5w24 := Lib.hid (V5w23.out.below hb)
  have V6w24 := Lib.hid (V6w23.out.below hb)
  clear hb K23 V5w23 V6w23
  go_wp2_with fail
  refine (rat_any 3 1 7 _).mono ?_
  rintro e w25 ⟨vx, rfl, hvx, hb⟩
  have K25 := Lib.hid (K24.out.below hb)
  have V5w25 := Lib.hid (V5w24.out.below hb)
  have V6w25 := Lib.hid (V6w24.out.below hb)
  have VX := Lib.hid hvx
  clear hb hvx K24 V5w24 V6w24
  go_wp2_with fail
  refine (same_any (.at 3 1 7) _ _ _ ⟨by decide, by decide⟩ (HG.out.below K25.out.b) V5w25.out VX.out).mono ?_
  rintro e w26 ⟨rfl, hb⟩
  have K26 := Lib.hid (K25.out.below hb)
  have V5w26 := Lib.hid (V5w25.out.below hb)
  have V6w26 := Lib.hid (V6w25.out.below hb)
  clear hb K25 V5w25 V6w25 V5w26
  clear VX
  go_wp2_with fail
  refine (e_any 7 _).mono ?_
  rintro e w27 ⟨vx, rfl, hvx, hb⟩
  obtain rfl : vx = .agg #[.int .i64 7, .slice none 0 0] := hvx
  have K27 := Lib.hid (K26.out.below hb)
  have V6w27 := Lib.hid (V6w26.out.below hb)
  clear hb K26 V6w26
  go_wp2_with fail
  refine (rat_any 3 0 7 _).mono ?_
  rintro e w28 ⟨vx, rfl, hvx, hb⟩
  have K28 := Lib.hid (K27.out.below hb)
  have V6w28 := Lib.hid (V6w27.out.below hb)
  have VX := Lib.hid hvx
  clear hb hvx K27 V6w27
  go_wp2_with fail
  refine (same_any (.at 3 0 7) _ _ _ ⟨by decide, by decide⟩ (HG.out.below K28.out.b) V6w28.out VX.out).mono ?_
  rintro e w29 ⟨rfl, hb⟩
  have K29 := Lib.hid (K28.out.below hb)
  have V6w29 := Lib.hid (V6w28.out.below hb)
  clear hb K28 V6w28 V6w29
  clear VX
  go_wp2_with fail
  refine (unpackDoubled_any 20 17 18 _ (by omega) (by omega) (by omega) (HG.out.below K29.out.b)).mono ?_
  rintro e w30 ⟨rfl, hb⟩
  have K30 := Lib.hid (K29.out.below hb)
  clear hb K29
  go_wp2_with fail
  refine (unpackDoubled_any 20 18 19 _ (by omega) (by omega) (by omega) (HG.out.below K30.out.b)).mono ?_
  rintro e w31 ⟨rfl, hb⟩
  have K31 := Lib.hid (K30.out.below hb)
  clear hb K30
  go_wp2_with fail
  refine (unpackDoubled_any 40 38 39 _ (by omega) (by omega) (by omega) (HG.out.below K31.out.b)).mono ?_
  rintro e w32 ⟨rfl, hb⟩
  have K32 := Lib.hid (K31.out.below hb)
  clear hb K31
  go_wp2
  go_returns
  exact ⟨rfl, K32.out.b⟩
theorem Tryz.own : ownKnob Tryz.prog.godebug = none := by kernel_rfl
theorem Tryz.laid : laidOutB Tryz.prog = true := by kernel_rfl
theorem Tryz.et : Tryz.prog.globalNamed "errors.errorType" = some 0 := by kernel_rfl
theorem Tryz.rt : (Tryz.prog.cutTypes.find? (·.1 == "internal/reflectlite.rtype")).map (·.2) = some 166 := by kernel_rfl
theorem Tryz.oneRow : ((List.range 296).filter fun t => Tryz.prog.rowNamed t [101, 114, 114, 111, 114]) = [30] := by kernel_rfl
theorem Tryz.typesSize : Tryz.prog.types.size = 296 := by kernel_rfl
theorem evar_of_laid {W : World} (h : laidMetH Tryz.prog [("errors.errorType", Rows.laid_errors_errorType)] W) : EVar W := by
  have h' : laidMet Tryz.prog [] W ∧ handlesMet Tryz.prog [("errors.errorType", Rows.laid_errors_errorType)] W := h
  obtain ⟨name, u, ty, e1, e2, e3, e4, e5⟩ := h'.2 _ (List.mem_singleton.2 rfl)
  have en : name = [101, 114, 114, 111, 114] := (Option.some.inj e1).symm
  subst en
  obtain rfl := Option.some.inj (Tryz.rt.symm.trans e2)
  have hm : ty ∈ (List.range 296).filter fun t => Tryz.prog.rowNamed t [101, 114, 114, 111, 114] := List.mem_filter.2 ⟨List.mem_range.2 (by rw [← Tryz.typesSize]; exact e3), e4⟩
  rw [Tryz.oneRow] at hm
  obtain rfl := List.mem_singleton.1 hm
  have hh : typeHandle Tryz.prog 30 = .pointer (some ⟨1, 30, none⟩) := by kernel_rfl
  rw [hh] at e5
  simpa [EVar] using World.var?_cell Tryz.et e5 0
noncomputable def laidWorld (os : Os) : World :=
  let w0 := World.holding Tryz.prog os ⟨#[], #[], []⟩
  { w0 with heap := w0.heap.modify 0 fun
      | .cells _ t frozen => .cells #[.iface 166 (.agg #[.pointer (some ⟨1, 30, none⟩)])] t frozen
      | o => o }
theorem laidWorld_met (os : Os) (args : Array Value) : laidMetH Tryz.prog [("errors.errorType", Rows.laid_errors_errorType)] ((laidWorld os).forCall (fun _ _ => 0) ⟨#[], args, []⟩).memory :=
  laidMetH_of_parts (laidMet_nil _ _) (by kernel_rfl)
end Go.Proofs.YtchhbgckonpedaaGreatDoor
