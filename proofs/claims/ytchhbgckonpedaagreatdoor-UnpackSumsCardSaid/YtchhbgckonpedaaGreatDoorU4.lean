/- Layer 22: SameInts of two lists that are alike; awake. -/
import Derived.Test.YtchhbgckonpedaaGreatDoorU3
import Derived.Test.YtchhbgckonpedaaGreatDoorM6
import Derived.Test.YtchhbgckonpedaaGreatDoorM9
import Derived.Test.YtchhbgckonpedaaGreatDoorM11
import Derived.Test.YtchhbgckonpedaaGreatDoorM12
import Derived.Deep.RegionLaw
namespace Go.Proofs.YtchhbgckonpedaaGreatDoor
open Go.ChangeShapes Go.WideShapes Go.ChangeAt Go.RowKit Go.Joins Go.Deep

set_option maxRecDepth 100000 in
theorem samenats_any (l : List Nat) (ao bo : Option Addr) (n m ca cb : Nat) (w : World) (hn : n = l.length) (hm : m = l.length) (sa : See w ao ca i64Cells 1 l) (sb : See w bo cb i64Cells 1 l) :
    Calls Tryz.prog 14 #[.slice ao n ca, .slice bo m cb] w (BoolIs true w) := by
  subst hn hm
  have hl := Nat.le_trans sa.hcap sa.hmax
  have SA := Lib.hid sa
  have SB := Lib.hid sb
  clear sa sb
  simp only [maxLen] at hl
  go_enter Tryz.func14, Tryz.ntmps14
  go_wp2_with fail
  go_loopg [13] l.length (fun g vi wr => ∃ k : Nat, vi = .int .i64 k ∧ k ≤ l.length ∧ g = l.length - k ∧ Below w.heap.size w wr)
  case atStart => exact ⟨0, rfl, Nat.zero_le _, rfl, Below.refl _ _⟩
  case round =>
    obtain ⟨k, rfl, hk, hg, hb⟩ := hrel
    obtain ⟨wo, rfl⟩ : ∃ wo : World, wo = wr := ⟨_, rfl⟩
    have HG := Lib.hid hg
    have HB := Lib.hid hb
    clear hg hb
    by_cases hlt : k < l.length
    · obtain ⟨x, hx⟩ : ∃ x, l[k]? = some x := ⟨_, List.getElem?_eq_getElem hlt⟩
      obtain ⟨b1, o1, e1, cc1⟩ := SA.out.cell k x hx
      obtain ⟨b2, o2, e2, cc2⟩ := SB.out.cell k x hx
      have c1 := ck HB.out (cc1 0 _ rfl)
      have c2 := ck HB.out (cc2 0 _ rfl)
      rw [Nat.mul_one, Nat.add_zero] at c1 c2
      have E1 := Lib.hid e1
      have E2 := Lib.hid e2
      have t0 : ((x : Int) != (x : Int)) = false := by simp
      clear hx cc1 cc2 e1 e2
      rw [E1.out, E2.out]
      go_wp2_with fail
      go_quiet (fail)
      go_wp2_with fail
      rw [← E1.out, ← E2.out]
      go_roundg (l.length - (k + 1))
      case measure => rw [HG.out]; omega
      case rel => exact ⟨k + 1, by go_num, by omega, rfl, below_drewN HB.out _⟩
    · obtain rfl : k = l.length := by omega
      go_wp2
      go_returns
      exact ⟨rfl, HB.out⟩

theorem three_links : linksRes threeD 1 = ([2, 0], .nil) := by decide +kernel
theorem three_nodes : nodesRes threeD 1 = ([0, 1, 2], .nil) := by decide +kernel
theorem three_step (x : Nat) (hx : x < cntOf threeD) (hp : (linkAt threeD x).plain = true) : stepOf threeD x = (1, 2) ∨ stepOf threeD x = (0, 1) := by
  have h3 : x < 3 := hx
  rcases (by omega : x = 0 ∨ x = 1 ∨ x = 2) with rfl | rfl | rfl
  · exact .inl (by decide +kernel)
  · exact absurd hp (by decide +kernel)
  · exact .inr (by decide +kernel)
theorem three_path {p : List Nat} {d : Int} (h : PathIs threeD 0 2 d p) : p = [0, 1, 2] := by
  obtain ⟨h1, h2, -, ls, hl, hs, -⟩ := h
  have hm : ∀ q ∈ steps p, q = (1, 2) ∨ q = (0, 1) := by
    intro q hq
    rw [hs, List.mem_map] at hq
    obtain ⟨x, hx, rfl⟩ := hq
    exact three_step x (hl x hx).1 (hl x hx).2
  match p, h1, h2, hm with
  | [a], h1, h2, _ =>
    simp at h1 h2
    omega
  | [a, b], h1, h2, hm =>
    simp at h1 h2
    have := hm (a, b) (by simp [steps])
    simp at this
    omega
  | [a, b, c], h1, h2, hm =>
    simp at h1 h2
    have := hm (a, b) (by simp [steps])
    have := hm (b, c) (by simp [steps])
    simp at *
    omega
  | a :: b :: c :: e :: l, h1, h2, hm =>
    simp at h1
    have h3 := hm (a, b) (by simp [steps])
    have h4 := hm (b, c) (by simp [steps])
    have h5 := hm (c, e) (by simp [steps])
    simp at h3 h4 h5
    omega
theorem three_plainly (A : HA) : PlainlyOk A threeD 0 2 := by
  intro W d ls r see hc hl hch hlong hsum hm
  obtain ⟨-, rfl, -⟩ := three_02 hm
  have key : ∀ l : List Nat, (∀ x ∈ l, x < cntOf threeD ∧ (linkAt threeD x).plain = true) → l.length ≤ (l.map fun x => (linkAt threeD x).wt).sum := by
    intro l
    induction l with
    | nil => intro _; simp
    | cons x l ih =>
      intro h
      have h1 := ih (fun y hy => h y (by simp [hy]))
      have h2 : 1 ≤ (linkAt threeD x).wt := by
        have h3 : x < 3 := (h x (by simp)).1
        rcases (by omega : x = 0 ∨ x = 1 ∨ x = 2) with rfl | rfl | rfl <;> decide +kernel
      rw [List.map_cons, List.sum_cons, List.length_cons]
      omega
  have := key ls hl
  omega

set_option maxRecDepth 100000 in
set_option maxHeartbeats 4000000 in
theorem awake22_any (w : World) : Calls Tryz.prog 9 #[] w (TrueNew w) := by
  go_enter Tryz.func9, Tryz.ntmps9
  go_wp2_with fail
  refine (three_any _).mono ?_
  rintro e w1 ⟨A1, rfl, s1, -, b1⟩
  have B1 := Lib.hid b1
  have S1 := Lib.hid s1
  clear b1 s1
  go_wp2_with fail
  refine (ulinks_any A1 threeD 1 _ S1.out (by decide) (by omega)).mono ?_
  rintro e w2 ⟨ao1, c1, v, rfl, hv, hn, hb⟩
  rw [three_links] at hv hn ⊢
  dsimp only at hv hn ⊢
  obtain rfl := hv.nilv rfl
  have L2 := Lib.hid hn.see.1
  have B2 := Lib.hid (B1.out.trans (hb.mono B1.out.size))
  clear hb hv hn B1 S1
  go_wp2_with fail
  refine (three_any _).mono ?_
  rintro e w3 ⟨A3, rfl, s3, -, b3⟩
  have B3 := Lib.hid (B2.out.trans (b3.mono B2.out.size))
  have L3 := Lib.hid (L2.out.below b3)
  have S3 := Lib.hid s3
  clear b3 s3 B2 L2
  go_wp2_with fail
  refine (unodesOf_any A3 threeD 1 _ S3.out (by decide) (by omega)).mono ?_
  rintro e w4 ⟨ao2, c2, v, rfl, hv, hn, hb⟩
  rw [three_nodes] at hv hn ⊢
  dsimp only at hv hn ⊢
  obtain rfl := hv.nilv rfl
  have N4 := Lib.hid hn.see.1
  have L4 := Lib.hid (L3.out.below hb)
  have B4 := Lib.hid (B3.out.trans (hb.mono B3.out.size))
  clear hb hv hn B3 S3 L3
  go_wp2_with fail
  refine (three_any _).mono ?_
  rintro e w5 ⟨A5, rfl, s5, -, b5⟩
  have B5 := Lib.hid (B4.out.trans (b5.mono B4.out.size))
  have L5 := Lib.hid (L4.out.below b5)
  have N5 := Lib.hid (N4.out.below b5)
  have S5 := Lib.hid s5
  clear b5 s5 B4 L4 N4
  go_wp2_with fail
  refine (upath_any A5 threeD 0 2 _ S5.out (by decide) (by omega) (by omega) (three_plainly A5)).mono ?_
  rintro e w6 ⟨r, d, x, v, p, ao3, c3, rfl, hv, hm, -, hp, hn, hb⟩
  obtain ⟨-, -, rfl⟩ := three_02 hm
  obtain rfl := hv.nilv rfl
  obtain rfl := three_path (hp rfl)
  have P6 := Lib.hid hn.see.1
  have L6 := Lib.hid (L5.out.below hb)
  have N6 := Lib.hid (N5.out.below hb)
  have B6 := Lib.hid (B5.out.trans (hb.mono B5.out.size))
  clear hb hv hn hp hm B5 S5 L5 N5
  go_wp2_with fail
  have z6 := B6.out.size
  refine (samenats_any [2, 0] ao1 _ 2 2 c1 2 _ rfl rfl (L6.out.below ((Below.refl _ _).alloc (Nat.le_refl _) _)) (Nats.fresh w6 [2, 0] (by simp)).see.1).mono ?_
  rintro e w7 ⟨rfl, hb⟩
  have N7 := Lib.hid ((N6.out.alloc (.cells #[.int .i64 2, .int .i64 0] 3)).below hb)
  have P7 := Lib.hid ((P6.out.alloc (.cells #[.int .i64 2, .int .i64 0] 3)).below hb)
  have B7 := Lib.hid ((B6.out.alloc z6 (.cells #[.int .i64 2, .int .i64 0] 3)).trans (hb.mono (by simp; omega)))
  clear hb N6 P6 L6
  go_wp2_with fail
  have z7 := B7.out.size
  refine (samenats_any [0, 1, 2] ao2 _ 3 3 c2 3 _ rfl rfl (N7.out.below ((Below.refl _ _).alloc (Nat.le_refl _) _)) (Nats.fresh w7 [0, 1, 2] (by simp)).see.1).mono ?_
  rintro e w8 ⟨rfl, hb⟩
  have P8 := Lib.hid ((P7.out.alloc (.cells #[.int .i64 0, .int .i64 1, .int .i64 2] 3)).below hb)
  have B8 := Lib.hid ((B7.out.alloc z7 (.cells #[.int .i64 0, .int .i64 1, .int .i64 2] 3)).trans (hb.mono (by simp; omega)))
  clear hb N7 P7
  go_wp2_with fail
  have z8 := B8.out.size
  refine (samenats_any [0, 1, 2] ao3 _ 3 3 c3 3 _ rfl rfl (P8.out.below ((Below.refl _ _).alloc (Nat.le_refl _) _)) (Nats.fresh w8 [0, 1, 2] (by simp)).see.1).mono ?_
  rintro e w9 ⟨rfl, hb⟩
  have B9 := Lib.hid ((B8.out.alloc z8 (.cells #[.int .i64 0, .int .i64 1, .int .i64 2] 3)).trans (hb.mono (by simp; omega)))
  clear hb P8
  go_wp2
  go_returns
  exact ⟨rfl, B9.out⟩
end Go.Proofs.YtchhbgckonpedaaGreatDoor

/- The reference's Arcs. -/

namespace Go.Proofs.YtchhbgckonpedaaGreatDoor
open Go.ChangeShapes Go.WideShapes Go.ChangeAt Go.RowKit Go.Joins Go.Deep

theorem rendCells_len (x : EndD) : (rendCells x).length = 3 := rfl
theorem Tryz.infoREnd : (Tryz.prog.info? 59).map (fun i => (i.zero, i.size, i.bytes)) = some (some (.agg #[.int .i64 0, .int .i64 0, .int .i64 0]), 3, 24) := by kernel_rfl
def ArcsNew (h : HierD) (w : World) (e : Ending) (w' : World) : Prop := ∃ ao cap, e = .returned (.slice ao (endsOf h).length cap) ∧ See w' ao cap rendCells 3 (endsOf h) ∧ (∀ b o, ao = some ⟨b, o, none⟩ → w.heap.size ≤ b) ∧ Below w.heap.size w w'
set_option maxRecDepth 100000 in
set_option maxHeartbeats 4000000 in
theorem arcs_any (A : HA) (h : HierD) (w : World) (see : HSee w A h) (u : FirstsOk h.node.length h.upF h.up.length) (d : FirstsOk h.node.length h.dnF h.dn.length) (hn : h.node.length ≤ 65536) (htot : h.up.length + h.dn.length ≤ 1048576) :
    Calls Tryz.prog 26 #[hierVal A h] w (ArcsNew h w) := by
  have hlen := endsOf_length u d
  have hrl : (ranksL h).length = (endsOf h).length := by unfold ranksL; simp
  have SEE := Lib.hid see
  have UOK := Lib.hid u
  have DOK := Lib.hid d
  have HX0 := Lib.hid (Cells.new w 25 (hierCells A h))
  have HB0 := Lib.hid ((Below.refl w.heap.size w).alloc (Nat.le_refl _) (.cells (hierCells A h).toArray 25))
  obtain ⟨k0, k1, k2, k3, k4⟩ := hier_five HX0.out
  have HLEN := Lib.hid hlen
  have HRL := Lib.hid hrl
  have hN : (endsOf h).length ≤ 1048576 := by omega
  clear see u d hlen hrl
  unfold hierVal
  go_enter Tryz.func26, Tryz.ntmps26
  go_wp2_with fail
  refine (rranks_any A h _ (SEE.out.below HB0.out) UOK.out DOK.out hn htot).mono ?_
  rintro e w1 ⟨ra, rc, rfl, sr, hb⟩
  rw [HRL.out]
  have SR := Lib.hid sr
  have HX := Lib.hid (HX0.out.below hb HX0.out.lt)
  have lz := HX.out.lt
  have HB := Lib.hid (HB0.out.trans (hb.mono HB0.out.size))
  clear sr hb HX0 HB0 k0 k1 k2 k3 k4
  obtain ⟨N, hNN⟩ : ∃ N, (endsOf h).length = N := ⟨_, rfl⟩
  rw [hNN]
  rw [hNN] at hN
  have HNN := Lib.hid hNN
  clear hNN
  go_wp2_with fail
  go_loopg [4, 10] N (fun g vm vi wr => ∃ (k : Nat) (ao2 : Option Addr) (cap2 : Nat), vi = .int .i64 k ∧ k ≤ N ∧ g = N - k ∧ vm = .slice ao2 k cap2 ∧
    wr.ownsRow 0 59 3 (.slice ao2 k cap2) k (((endsOf h).take k).flatMap rendCells) ∧ (∀ b, (Value.slice ao2 k cap2).ownBlock = some b → w1.heap.size ≤ b) ∧ Cells wr w.heap.size 25 (hierCells A h) ∧ Below w1.heap.size w1 wr)
  case atStart => exact ⟨0, none, 0, rfl, Nat.zero_le _, rfl, rfl, World.ownsRow_nil _ _ _ _, by simp [Value.ownBlock], HX.out, Below.refl _ _⟩
  case round =>
    obtain ⟨k, ao2, cap2, rfl, hk, hg, rfl, hown, hnew, hx, hbl⟩ := hrel
    obtain ⟨wo, rfl⟩ : ∃ wo : World, wo = wr := ⟨_, rfl⟩
    have HG := Lib.hid hg
    have HOWN := Lib.hid hown
    have HNEW := Lib.hid hnew
    have HX2 := Lib.hid hx
    have HBL := Lib.hid hbl
    clear hg hown hnew hx hbl HX
    by_cases hkl : k < N
    · obtain ⟨x, hx⟩ : ∃ x, (endsOf h)[k]? = some x := ⟨_, List.getElem?_eq_getElem (by rw [HNN.out]; exact hkl)⟩
      have hxd : (endsOf h).getD k default = x := by rw [List.getD_eq_getElem?_getD, hx]; rfl
      have HX := Lib.hid hx
      have HBW := Lib.hid (HB.out.trans (HBL.out.mono HB.out.size))
      obtain ⟨k0, k1, k2, k3, k4⟩ := hier_five HX2.out
      clear hx
      go_wp2_with fail
      have hrd := rendof_any A h k ra rc wo (SEE.out.below HBW.out) (SR.out.below HBL.out) UOK.out DOK.out htot (by have := HLEN.out; have := HNN.out; omega)
      rw [HRL.out, HNN.out, hxd] at hrd
      refine hrd.mono ?_
      rintro e w2 ⟨rfl, hb⟩
      have HB2 := Lib.hid hb
      have hbs := hb.size
      have hwo := HBL.out.size
      unfold rendVal
      clear hb hrd hxd k0 k1 k2 k3 k4
      have how := HOWN.out
      go_wp2_with (at_builtin; refine wpList_app _ rfl _ _ 56 rfl 59 (.agg #[.int .i64 0, .int .i64 0, .int .i64 0]) 3 24 Tryz.underlying56 Tryz.infoREnd rfl (by decide) (.slice ao2 k cap2) k (((endsOf h).take k).flatMap rendCells) rfl ?own ⟨w2.heap.size, 0, none⟩ 1 1 (rendCells x) rfl rfl ?c1 ?c2 ?c3 ?c4 ?_)
      case own => exact own_kept (bs := []) how ((Only.of_below HB2.out).alloc _) (fun q _ => by simp)
      case c1 => exact cells_new w2 59 (rendCells x)
      case c2 => intro u hu; simp [rendCells] at hu; rcases hu with rfl | rfl | rfl <;> rfl
      case c3 => unfold maxLen; omega
      case c4 => omega
      intro ao5 cap5 w5 hown5 ho5 hk5
      have hb1 := HBL.out.trans (HB2.out.mono HBL.out.size)
      have hbw := hb1.alloc hb1.size (.cells (rendCells x).toArray 59)
      have hnew5 : ∀ x, (Value.slice ao5 (k + 1) cap5).ownBlock = some x → w1.heap.size ≤ x := by
        intro x hx
        rcases hk5 x hx with h1 | h1
        · exact HNEW.out x h1
        · have := hbw.size; omega
      have hbl5 : Below w1.heap.size w1 w5 := hbw.trans (ho5.below hbw.size (fun q hq => HNEW.out q (by simpa using hq)))
      have hf5 : ((endsOf h).take k).flatMap rendCells ++ rendCells x = ((endsOf h).take (k + 1)).flatMap rendCells := by
        rw [List.take_add_one, HX.out, List.flatMap_append]
        simp
      rw [hf5] at hown5
      have hx5 := ((HX2.out.below HB2.out HX2.out.lt).alloc (.cells (rendCells x).toArray 59)).kept ho5 (by
        intro hm
        have h1 := HNEW.out _ (by simpa using hm)
        omega)
      have O5 := Lib.hid hown5
      have N5 := Lib.hid hnew5
      have B5 := Lib.hid hbl5
      have X5 := Lib.hid hx5
      clear hown5 ho5 hk5 hnew5 hbl5 hf5 hbw how hb1 hx5
      go_wp2_with fail
      go_roundg (N - (k + 1))
      case measure => rw [HG.out]; omega
      case rel => exact ⟨k + 1, ao5, cap5, by go_num, by omega, rfl, rfl, O5.out, N5.out, X5.out, B5.out⟩
    · obtain rfl : k = N := by omega
      go_wp2
      go_returns
      have hO := HOWN.out
      rw [List.take_of_length_le (by rw [HNN.out]; exact Nat.le_refl _)] at hO
      have hf := (See.of_own rendCells_len hO (by have := HNN.out; omega)).1
      exact ⟨ao2, cap2, congrArg (fun m => Ending.returned (.slice ao2 m cap2)) HNN.out.symm, hf, fun b o e => Nat.le_trans HB.out.size (HNEW.out b (by rw [e]; rfl)), HB.out.trans (HBL.out.mono HB.out.size)⟩
end Go.Proofs.YtchhbgckonpedaaGreatDoor

/- The reference's Arcs and DocLinks. -/
namespace Go.Proofs.YtchhbgckonpedaaGreatDoor
open Go.ChangeShapes Go.WideShapes Go.ChangeAt Go.RowKit Go.Joins Go.Deep

theorem results_te3 {P : Program} {fn : Func} {p r : Tmp} {ty : TypeId} (h : fn.results = #[.tmp p, .cell r ty]) (tmps : Array Value) (w : World) (g : Nat) (t : TypeId) (cs : List Value) (d : TypeDesc)
    (hp : tmps.getD r undef = .pointer (some ⟨g, 0, none⟩)) (hg : Cells w g t cs)
    (hu : P.underlying ty = some d) (hd : (match d with | .struct _ | .array _ _ => true | _ => false) = true) (hi : (P.info? ty).map (·.size) = some cs.length) :
    (results fn tmps).run P w = .ok (.tuple #[tmps.getD p undef, .agg cs.toArray]) w := by
  have hp' : tmps[r]?.getD undef = .pointer (some ⟨g, 0, none⟩) := by simpa using hp
  have hr := run_loadVar_row (P := P) w g t ty cs.toArray (0, 0) d hg hu hd (by simpa using hi)
  simp [results, h, hp', asAddr, hr]
/-- A list and the document's error come out. -/
def RListNew (r : List Nat × EV) (w : World) (e : Ending) (w' : World) : Prop := ∃ ao cap v, e = .returned (.tuple #[.slice ao r.1.length cap, v]) ∧ ErrV w' v r.2 ∧ Nats w.heap.size w' (.slice ao r.1.length cap) r.1 ∧ Below w.heap.size w w'
noncomputable def dlBody : Code := Tryz.f13.body.getD .skip


set_option linter.unusedSimpArgs false in
set_option maxRecDepth 100000 in
set_option maxHeartbeats 8000000 in
theorem dl_bad {s0 s3 s7 s8 s9 s10 s11 s12 s13 s14 s15 s16 s17 s18 s19 s20 s21 s22 s23 s24 s25 s26 s27 s28 s29 s30 s31 s32 s33 s34 s35 s36 s37 s38 s39 s40 s41 s42 s43 s44 s45 s46 s47 s48 s49 s50 s51 s52 s53 s54 s55 s56 s57 s58 s59 s60 s61 s62 s63 s64 s65 s66 s67 s68 s69 s70 : Value} {A : HA} {h : HierD} {i : Int} {w wx : World} {be : Nat} {x : EV} {uc : Int} {ua : Option Addr} {un ucap : Nat} (k : DK A h w wx) (he : Cells wx be 36 [.int .i64 uc, .slice ua un ucap]) (hv : ErrV wx (.agg [.int .i64 uc, .slice ua un ucap].toArray) x) (hp : x.pos) (hx : x ≠ .nil)
    (hr : linksRes h i = ([], x)) : Code.wp Tryz.prog (tailAt 3 dlBody) (bodyPost Tryz.prog Tryz.f13 (RListNew (linksRes h i) w)) ⟨#[s0, .int .i64 i, .pointer (some ⟨w.heap.size, 0, none⟩), s3, .slice none 0 0, .pointer (some ⟨(w.heap.size + 1), 0, none⟩), .pointer (some ⟨be, 0, none⟩), s7, s8, s9, s10, s11, s12, s13, s14, s15, s16, s17, s18, s19, s20, s21, s22, s23, s24, s25, s26, s27, s28, s29, s30, s31, s32, s33, s34, s35, s36, s37, s38, s39, s40, s41, s42, s43, s44, s45, s46, s47, s48, s49, s50, s51, s52, s53, s54, s55, s56, s57, s58, s59, s60, s61, s62, s63, s64, s65, s66, s67, s68, s69, s70], []⟩ wx := by
  have K := Lib.hid k
  have y0 : wx.cell? ⟨be, 0, none⟩ = some (.int .i64 uc) := he.cell rfl
  have y1 : wx.cell? ⟨be, 1, none⟩ = some (.slice ua un ucap) := he.cell rfl
  have HE := Lib.hid he
  have HV := Lib.hid hv
  have HR := Lib.hid hr
  have HPX := Lib.hid hp
  have hnil : x.isNil = false := by cases hh : x.isNil with
    | true => exact absurd (EV.isNil_iff.1 hh) hx
    | false => rfl
  clear k he hv hr hp hx
  conv => arg 2; whnf
  go_wp2_with fail
  refine (bad_any _ x _ HV.out HPX.out).mono ?_
  rintro e w1 ⟨rfl, hb⟩
  rw [hnil]
  have K1 := Lib.hid (K.out.below hb)
  have HE1 := Lib.hid (HE.out.below hb HE.out.lt)
  have HV1 := Lib.hid (HV.out.below hb)
  have x0 : w1.cell? ⟨be, 0, none⟩ = some (.int .i64 uc) := HE1.out.cell rfl
  have x1 : w1.cell? ⟨be, 1, none⟩ = some (.slice ua un ucap) := HE1.out.cell rfl
  have z0 : w1.cell? ⟨w.heap.size + 1, 0, none⟩ = some (.int .i64 0) := K1.out.r.cell rfl
  have z1 : w1.cell? ⟨w.heap.size + 1, 1, none⟩ = some (.slice none 0 0) := K1.out.r.cell rfl
  have g0 := K1.out.r.frozen 0
  have g1 := K1.out.r.frozen 1
  have lr := K1.out.r.lt
  clear hb K HE HV y0 y1
  go_wp2_with fail
  go_region
  all_goals
    try dsimp only [Exit.then]
    go_wp2
    refine bodyPost_ret (results_te3 rfl _ _ (w.heap.size + 1) 36 [.int .i64 uc, .slice ua un ucap] _ rfl (((K1.out.r.drew).set 0 _).set 1 _) Tryz.underlying36 rfl (by rw [Tryz.sizeErr]; rfl)) rfl ?_
    rw [HR.out]
    exact ⟨none, 0, _, rfl, (HV1.out.below (Below.refl _ _).drew).put K1.out.r.drew _ _, Nats.nil _ _, ((K1.out.b.drew).setCell (p := ⟨w.heap.size + 1, 0, none⟩) (by simp) _).setCell (p := ⟨w.heap.size + 1, 1, none⟩) (by simp) _⟩

set_option linter.unusedSimpArgs false in
set_option maxRecDepth 100000 in
set_option maxHeartbeats 8000000 in
theorem dl_good {s0 s3 s7 s8 s9 s10 s11 s12 s13 s14 s15 s16 s17 s18 s19 s20 s21 s22 s23 s24 s25 s26 s27 s28 s29 s30 s31 s32 s33 s34 s35 s36 s37 s38 s39 s40 s41 s42 s43 s44 s45 s46 s47 s48 s49 s50 s51 s52 s53 s54 s55 s56 s57 s58 s59 s60 s61 s62 s63 s64 s65 s66 s67 s68 s69 s70 : Value} {A : HA} {h : HierD} {m : Nat} {w wx : World} {be : Nat} (k : DK A h w wx) (see : HSee w A h) (he : Cells wx be 36 errZero) (hc : checkErr h = .nil) (htot : cntOf h ≤ 1048576) (hm : m < cntOf h) :
    Code.wp Tryz.prog (tailAt 3 dlBody) (bodyPost Tryz.prog Tryz.f13 (RListNew (layRes h [m]) w)) ⟨#[s0, .int .i64 (m : Nat), .pointer (some ⟨w.heap.size, 0, none⟩), s3, .slice none 0 0, .pointer (some ⟨(w.heap.size + 1), 0, none⟩), .pointer (some ⟨be, 0, none⟩), s7, s8, s9, s10, s11, s12, s13, s14, s15, s16, s17, s18, s19, s20, s21, s22, s23, s24, s25, s26, s27, s28, s29, s30, s31, s32, s33, s34, s35, s36, s37, s38, s39, s40, s41, s42, s43, s44, s45, s46, s47, s48, s49, s50, s51, s52, s53, s54, s55, s56, s57, s58, s59, s60, s61, s62, s63, s64, s65, s66, s67, s68, s69, s70], []⟩ wx := by
  have K := Lib.hid k
  have y0 : wx.cell? ⟨be, 0, none⟩ = some (.int .i64 0) := he.cell rfl
  have y1 : wx.cell? ⟨be, 1, none⟩ = some (.slice none 0 0) := he.cell rfl
  have HE := Lib.hid he
  have SEE := Lib.hid see
  have HC := Lib.hid hc
  have HT := Lib.hid htot
  have HMM := Lib.hid hm
  have hd63 : h.dn.length ≤ 1048576 := by unfold cntOf at htot; omega
  have hn := (checkErr_parts hc).1.n
  have hm20 : m < 1048576 := by omega
  clear k he see hc htot hm
  conv => arg 2; whnf
  go_wp2_with fail
  refine (bad_any (.agg #[.int .i64 0, .slice none 0 0]) .nil _ rfl trivial).mono ?_
  rintro e w0 ⟨rfl, hb⟩
  have K0 := Lib.hid (K.out.below hb)
  have HE0 := Lib.hid (HE.out.below hb HE.out.lt)
  clear hb K HE y0 y1
  dsimp only [EV.isNil, Bool.not_true]
  go_wp2_with fail
  have I0 : Hid (LayI h [m] w0 (w0.alloc (.cells #[.int .i64 m] 3)) [m] [] (.slice none 0 0) (.slice (some ⟨w0.heap.size, 0, none⟩) 1 1)) :=
    Lib.hid ⟨Nats.nil _ _, Nats.fresh w0 [m] (by simp), by simp [Value.ownBlock], StackOk.start HC.out [m] (by simpa using HMM.out) _ (Nat.le_refl _), rfl, Nat.zero_le _, (Below.refl _ _).alloc (Nat.le_refl _) _⟩
  go_loopg [7, 8] (stackSize h [m]) (fun g vo vs wr => ∃ (S out : List Nat) (ao1 : Option Addr) (c1 : Nat) (ao2 : Option Addr) (c2 : Nat), vo = .slice ao1 out.length c1 ∧ vs = .slice ao2 S.length c2 ∧ g = stackSize h S ∧ LayI h [m] w0 wr S out (.slice ao1 out.length c1) (.slice ao2 S.length c2))
  case atStart => exact ⟨[m], [], none, 0, some ⟨w0.heap.size, 0, none⟩, 1, rfl, rfl, rfl, I0.out⟩
  case round =>
    obtain ⟨S, out, ao1, c1, ao2, c2, rfl, rfl, hg, hI⟩ := hrel
    obtain ⟨wp, rfl⟩ : ∃ wp : World, wp = wr := ⟨_, rfl⟩
    have HG := Lib.hid hg
    have I := Lib.hid hI
    have hz := hI.b.size
    have ho17 := hI.small
    have hS17 : S.length ≤ 65537 := by have := hI.ok.len; simp at this; omega
    have KP := Lib.hid (K0.out.below hI.b)
    clear hg hI I0
    cases S with
    | nil =>
      have hE2 := HE0.out.below I.out.b HE0.out.lt
      have x0 : wp.cell? ⟨be, 0, none⟩ = some (.int .i64 0) := hE2.cell rfl
      have x1 : wp.cell? ⟨be, 1, none⟩ = some (.slice none 0 0) := hE2.cell rfl
      have z0 : wp.cell? ⟨w.heap.size + 1, 0, none⟩ = some (.int .i64 0) := KP.out.r.cell rfl
      have z1 : wp.cell? ⟨w.heap.size + 1, 1, none⟩ = some (.slice none 0 0) := KP.out.r.cell rfl
      have g0 := KP.out.r.frozen 0
      have g1 := KP.out.r.frozen 1
      have lr := KP.out.r.lt
      have heq := I.out.eq
      have hs : (stackOut h [m]) = out := by rw [← heq]; simp [stackOut]
      have HR := Lib.hid (show layRes h [m] = (out, .nil) by unfold layRes; rw [hs, if_pos ho17])
      have HNO := Lib.hid I.out.o
      clear hE2 heq hs I
      go_wp2_with fail
      go_region
      all_goals
        try dsimp only [Exit.then]
        go_wp2
        refine bodyPost_ret (results_te3 rfl _ _ (w.heap.size + 1) 36 [.int .i64 0, .slice none 0 0] _ rfl (((KP.out.r.drew).set 0 _).set 1 _) Tryz.underlying36 rfl (by rw [Tryz.sizeErr]; rfl)) rfl ?_
        rw [HR.out]
        refine ⟨ao1, c1, _, rfl, rfl, (HNO.out.kept (bs := [w.heap.size + 1]) ((((Only.refl [w.heap.size + 1] wp).drew).setCell (p := ⟨w.heap.size + 1, 0, none⟩) (.inl (by simp)) _).setCell (p := ⟨w.heap.size + 1, 1, none⟩) (.inl (by simp)) _) (fun q hq => by have h1 := HNO.out.new q hq; have h2 := K0.out.r.lt; simp; omega)).mono K0.out.b.size, ((KP.out.b.drew).setCell (p := ⟨w.heap.size + 1, 0, none⟩) (by simp) _).setCell (p := ⟨w.heap.size + 1, 1, none⟩) (by simp) _⟩
    | cons i S =>
      obtain ⟨hi, hBi, hok⟩ := I.out.ok
      obtain ⟨g, cap2, e, hgB, hgs, hcell⟩ := I.out.st.block (by simp)
      simp only [List.length_reverse, Value.slice.injEq] at e
      obtain ⟨rfl, -, rfl⟩ := e
      have e0 : wp.cell? ⟨g, S.length, none⟩ = some (.int .i64 i) := hcell S.length i (by simp)
      have hi2 : i < h.up.length + h.dn.length := hi
      obtain ⟨k0, k1, k2, k3, k4⟩ := hier_five KP.out.x
      have OK := Lib.hid hok
      have HI := Lib.hid hi
      simp only [List.length_cons] at hS17 ⊢
      have ht : Nats w0.heap.size wp (.slice (some ⟨g, 0, none⟩) S.length c2) S.reverse := by
        have := I.out.st.take (m := S.length) (by simp)
        rwa [List.reverse_cons, List.take_left' (by simp)] at this
      have HTK := Lib.hid ht
      have hc2 : S.length + 1 ≤ c2 := by have := I.out.st.cap.1; simpa using this
      clear hcell hok hi hBi ht
      go_wp2_with fail
      refine (rlink_any A h i _ (SEE.out.below KP.out.b) hi2 hd63).mono ?_
      rintro e w1 ⟨rfl, hb1⟩
      have hok : (linkAt h i).ok := linkAt_ok SEE.out i hi2
      have hleft := left_plain HC.out HT.out HI.out
      obtain ⟨x, hx⟩ : ∃ x, linkAt h i = x := ⟨_, rfl⟩
      rw [hx] at hok hleft
      have HOK := Lib.hid hok
      obtain ⟨hx1, hx2, hx3, hx4⟩ := hok
      rw [hx]
      unfold linkVal
      have HXI := Lib.hid hx
      have HB1 := Lib.hid (I.out.b.trans (hb1.mono I.out.b.size))
      have HT1 := Lib.hid (HTK.out.below hb1)
      have HO1 := Lib.hid (I.out.o.below hb1)
      have hco : ∀ k, (Value.slice ao1 out.length c1).ownBlock = some k → k ≠ g := fun k hk e => I.out.apart k hk (by rw [e]; rfl)
      have HCO := Lib.hid hco
      have hgs1 : g < w1.heap.size := Nat.lt_of_lt_of_le hgs hb1.size
      clear hb1 hx hleft k0 k1 k2 k3 k4 e0 HTK hco KP
      go_wp2_with fail
      refine (rplain_lit x _ HOK.out).mono ?_
      rintro e w2 ⟨rfl, hb2⟩
      have hba := ((Below.refl w1.heap.size w1).alloc (Nat.le_refl _) (.cells #[.int .u32 x.to, .int .u64 x.wt, .int .u32 x.left, .int .u32 x.right] 65)).trans (hb2.mono (by simp))
      have hcx := (Cells.new w1 65 (linkCells x)).below hb2 (by simp)
      have x2 : w2.cell? ⟨w1.heap.size, 2, none⟩ = some (.int .u32 x.left) := hcx.cell rfl
      have x3 : w2.cell? ⟨w1.heap.size, 3, none⟩ = some (.int .u32 x.right) := hcx.cell rfl
      have lx := hcx.lt
      have HB2 := Lib.hid (HB1.out.trans (hba.mono HB1.out.size))
      have HT2 := Lib.hid (HT1.out.below hba)
      have HO2 := Lib.hid (HO1.out.below hba)
      have hz2 := HB2.out.size
      have hgs2 : g < w2.heap.size := Nat.lt_of_lt_of_le hgs1 hba.size
      clear hba hcx hb2 HB1 HT1 HO1
      cases hp : x.plain with
      | true =>
        have HP := Lib.hid (stack_plain (h := h) (l := S) (by rw [HXI.out]; exact hp))
        clear hp
        dsimp only [Bool.not_true, Bool.not_false]
        by_cases h17 : out.length = 131072
        · have dq : ((out.length : Int) == 131072) = true := by rw [h17]; rfl
          have HR := Lib.hid (show layRes h [m] = ([], .code 2) by
            unfold layRes
            rw [if_neg]
            rw [← I.out.eq, HP.out.1, List.length_append, List.length_cons]
            omega)
          clear h17 x2 x3
          go_wp2_with fail
          refine (e_any 2 _).mono ?_
          rintro e w3 ⟨v, rfl, hv, hb3⟩
          obtain rfl : v = _ := hv
          have KR := Lib.hid ((K0.out.below HB2.out).below hb3)
          have z0 : w3.cell? ⟨w.heap.size + 1, 0, none⟩ = some (.int .i64 0) := KR.out.r.cell rfl
          have z1 : w3.cell? ⟨w.heap.size + 1, 1, none⟩ = some (.slice none 0 0) := KR.out.r.cell rfl
          have g0 := KR.out.r.frozen 0
          have g1 := KR.out.r.frozen 1
          have lr := KR.out.r.lt
          clear hb3
          go_wp2
          refine bodyPost_ret (results_te3 rfl _ _ (w.heap.size + 1) 36 [.int .i64 2, .slice none 0 0] _ rfl ((KR.out.r.set 0 _).set 1 _) Tryz.underlying36 rfl (by rw [Tryz.sizeErr]; rfl)) rfl ?_
          rw [HR.out]
          exact ⟨none, 0, _, rfl, rfl, Nats.nil _ _, ((KR.out.b).setCell (p := ⟨w.heap.size + 1, 0, none⟩) (by simp) _).setCell (p := ⟨w.heap.size + 1, 1, none⟩) (by simp) _⟩
        · have dq : ((out.length : Int) == 131072) = false := by simp; omega
          clear x2 x3
          go_wp2_with (at_builtin; refine wpList_app _ rfl _ _ 28 rfl 3 (.int .i64 0) 1 8 Tryz.underlying28 Tryz.infoInt rfl (by decide) (.slice ao1 out.length c1) (out.length) (out.flatMap i64Cells) rfl ?own ⟨w2.heap.size, 0, none⟩ 1 1 (i64Cells i) rfl rfl ?c1 ?c2 ?c3 ?c4 ?_)
          case own => exact own_kept (bs := []) HO2.out.own ((Only.refl _ w2).alloc _) (fun q _ => by simp)
          case c1 => exact cells_new w2 3 (i64Cells i)
          case c2 => intro u hu; simp [i64Cells] at hu; subst hu; rfl
          case c3 => unfold maxLen; omega
          case c4 => omega
          intro ao5 cap5 w5 hown5 ho5 hk5
          have hbw := HB2.out.alloc hz2 (.cells #[.int .i64 i] 3)
          have hba := (Below.refl w2.heap.size w2).alloc (Nat.le_refl _) (.cells #[.int .i64 i] 3)
          have hn5 := (HO2.out.below hba).app [i] (m := 1) rfl (ao := ao5) (cap := cap5) (w5 := w5) (by simpa using hown5) (by simpa using hk5) (by simp; omega)
          have hs5 := (HT2.out.below hba).kept ho5 (fun k hk hm => by
            simp only [Value.ownBlock, Option.some.injEq] at hk
            exact HCO.out k (own_mem hm) hk.symm)
          have hap : ∀ k, (Value.slice ao5 (out.length + 1) cap5).ownBlock = some k → (Value.slice (some ⟨g, 0, none⟩) S.length c2).ownBlock = some k → False := by
            intro k h1 h2
            simp only [Value.ownBlock, Option.some.injEq] at h2
            rcases hk5 k h1 with h3 | h3
            · exact HCO.out k h3 h2.symm
            · first | omega | (simp at h3; omega)
          have hbl5 : Below w0.heap.size w0 w5 := hbw.trans (ho5.below hbw.size (fun q hq => HO2.out.new q (by simpa using hq)))
          have hI5 : LayI h [m] w0 w5 S (out ++ [i]) (.slice ao5 (out ++ [i]).length cap5) (.slice (some ⟨g, 0, none⟩) S.length c2) :=
            ⟨by simpa using hn5, hs5, by simpa using hap, OK.out, by have := I.out.eq; rw [HP.out.1] at this; rw [← this]; simp, by simp; omega, hbl5⟩
          have I5 := Lib.hid hI5
          clear hown5 ho5 hk5 hbw hba hn5 hs5 hap hbl5 hI5
          go_wp2_with fail
          go_roundg (stackSize h S)
          case measure => rw [HG.out, HP.out.2]; omega
          case rel => exact ⟨S, out ++ [i], ao5, cap5, _, c2, by simp, rfl, rfl, I5.out⟩
      | false =>
        have HP := Lib.hid (stack_two HC.out (l := S) HI.out (by rw [HXI.out]; exact hp))
        have HSO := Lib.hid (StackOk.push HC.out I.out.ok (by rw [HXI.out]; exact hp))
        rw [HXI.out] at HP HSO
        clear hp
        dsimp only [Bool.not_true, Bool.not_false]
        go_wp2_with (at_builtin; refine wpList_app _ rfl _ _ 28 rfl 3 (.int .i64 0) 1 8 Tryz.underlying28 Tryz.infoInt rfl (by decide) (.slice (some ⟨g, 0, none⟩) S.length c2) (S.length) (S.reverse.flatMap i64Cells) rfl ?own ⟨w2.heap.size, 0, none⟩ 2 2 (i64Cells x.right ++ i64Cells x.left) rfl rfl ?c1 ?c2 ?c3 ?c4 ?_)
        case own =>
          have := HT2.out.own
          rw [List.length_reverse] at this
          exact own_kept (bs := []) this ((Only.refl _ w2).alloc _) (fun q _ => by simp)
        case c1 => exact cells_new w2 3 (i64Cells x.right ++ i64Cells x.left)
        case c2 => intro u hu; simp [i64Cells] at hu; rcases hu with rfl | rfl <;> rfl
        case c3 => unfold maxLen; omega
        case c4 => omega
        intro ao5 cap5 w5 hown5 ho5 hk5
        have hbw := HB2.out.alloc hz2 (.cells #[.int .i64 x.right, .int .i64 x.left] 3)
        have hba := (Below.refl w2.heap.size w2).alloc (Nat.le_refl _) (.cells #[.int .i64 x.right, .int .i64 x.left] 3)
        have hn5 := (HT2.out.below hba).app [x.right, x.left] (m := 2) rfl (ao := ao5) (cap := cap5) (w5 := w5) (by simpa [i64Cells] using hown5) (by simpa using hk5) (by simp; omega)
        have hs5 := (HO2.out.below hba).kept ho5 (fun k hk hm => by
          simp only [Value.ownBlock, Option.toList_some, List.mem_singleton] at hm
          exact HCO.out k hk hm)
        have hap : ∀ k, (Value.slice ao1 out.length c1).ownBlock = some k → (Value.slice ao5 (S.length + 2) cap5).ownBlock = some k → False := by
          intro k h1 h2
          rcases hk5 k h2 with h3 | h3
          · simp only [Value.ownBlock, Option.some.injEq] at h3
            exact HCO.out k h1 h3.symm
          · have := HO2.out.own.lt k h1
            first | omega | (simp at h3; omega)
        have hbl5 : Below w0.heap.size w0 w5 := hbw.trans (ho5.below hbw.size (fun q hq => HT2.out.new q (by simpa using hq)))
        have hI5 : LayI h [m] w0 w5 (x.left :: x.right :: S) out (.slice ao1 out.length c1) (.slice ao5 (x.left :: x.right :: S).length cap5) :=
          ⟨hs5, by simpa using hn5, by simpa using hap, HSO.out, by rw [HP.out.1]; exact I.out.eq, ho17, hbl5⟩
        have I5 := Lib.hid hI5
        clear hown5 ho5 hk5 hbw hba hn5 hs5 hap hbl5 hI5
        go_wp2_with fail
        go_roundg (stackSize h (x.left :: x.right :: S))
        case measure => rw [HG.out]; exact HP.out.2
        case rel => exact ⟨x.left :: x.right :: S, out, ao1, c1, ao5, cap5, rfl, by simp, rfl, I5.out⟩

set_option linter.unusedSimpArgs false in
set_option maxRecDepth 100000 in
set_option maxHeartbeats 8000000 in
theorem dl_two {s0 s3 s7 s8 s9 s10 s11 s12 s13 s14 s15 s16 s17 s18 s19 s20 s21 s22 s23 s24 s25 s26 s27 s28 s29 s30 s31 s32 s33 s34 s35 s36 s37 s38 s39 s40 s41 s42 s43 s44 s45 s46 s47 s48 s49 s50 s51 s52 s53 s54 s55 s56 s57 s58 s59 s60 s61 s62 s63 s64 s65 s66 s67 s68 s69 s70 : Value} {A : HA} {h : HierD} {i : Int} {w wx : World} {be : Nat} {uc : Int} {ua : Option Addr} {un ucap : Nat} (k : DK A h w wx) (see : HSee w A h) (he : Cells wx be 36 [.int .i64 uc, .slice ua un ucap]) (hv : ErrV wx (.agg [.int .i64 uc, .slice ua un ucap].toArray) (checkErr h)) (hne : w.heap.size + 1 < be)
    (hk : h.up.length + h.dn.length ≤ 281474976710656) (hi64 : i ≤ 9223372036854775807) : Code.wp Tryz.prog (tailAt 2 dlBody) (bodyPost Tryz.prog Tryz.f13 (RListNew (linksRes h i) w)) ⟨#[s0, .int .i64 i, .pointer (some ⟨w.heap.size, 0, none⟩), s3, .slice none 0 0, .pointer (some ⟨(w.heap.size + 1), 0, none⟩), .pointer (some ⟨be, 0, none⟩), s7, s8, s9, s10, s11, s12, s13, s14, s15, s16, s17, s18, s19, s20, s21, s22, s23, s24, s25, s26, s27, s28, s29, s30, s31, s32, s33, s34, s35, s36, s37, s38, s39, s40, s41, s42, s43, s44, s45, s46, s47, s48, s49, s50, s51, s52, s53, s54, s55, s56, s57, s58, s59, s60, s61, s62, s63, s64, s65, s66, s67, s68, s69, s70], []⟩ wx := by
  have K := Lib.hid k
  have SEE := Lib.hid see
  have y0 : wx.cell? ⟨be, 0, none⟩ = some (.int .i64 uc) := he.cell rfl
  have y1 : wx.cell? ⟨be, 1, none⟩ = some (.slice ua un ucap) := he.cell rfl
  have HE := Lib.hid he
  have HV := Lib.hid hv
  have HNE := Lib.hid hne
  obtain ⟨k0, k1, k2, k3, k4⟩ := hier_five k.x
  clear k he hv see hne
  conv => arg 2; whnf
  apply wp_seq_k
  intro KK hK
  have HKK := Lib.hid hK
  clear hK
  by_cases hc : checkErr h = .nil
  · have HV0 := HV.out
    rw [hc] at HV0
    simp only [ErrV, Value.agg.injEq, List.toArray] at HV0
    have e1 := HV0
    simp at e1
    obtain ⟨rfl, rfl, rfl, rfl⟩ := e1
    have htot := cnt_small hc hk
    have HC := Lib.hid hc
    have HT := Lib.hid htot
    clear HV0 hc htot
    go_wp2_with fail
    refine (bad_any (.agg #[.int .i64 0, .slice none 0 0]) .nil _ rfl trivial).mono ?_
    rintro e w1 ⟨rfl, hb⟩
    have KA := Lib.hid (K.out.below hb)
    have HEA := Lib.hid (HE.out.below hb HE.out.lt)
    obtain ⟨k0, k1, k2, k3, k4⟩ := hier_five KA.out.x
    clear hb K HE y0 y1 HV
    dsimp only [EV.isNil, Bool.not_true]
    by_cases h0 : i < 0
    · have d0 : decide (i < 0) = true := by simpa using h0
      have KB := KA
      have HEB := HEA
      have HR := Lib.hid (show linksRes h i = ([], .code 1) by unfold linksRes; rw [if_pos HC.out, if_pos (.inl h0)])
      go_wp2_with fail
      refine (e_any 1 _).mono ?_
      rintro e w3 ⟨v, rfl, hv, hb3⟩
      obtain rfl : v = _ := hv
      have K3 := Lib.hid (KB.out.below hb3)
      have HE3 := Lib.hid (HEB.out.below hb3 HEB.out.lt)
      have g0 := HE3.out.frozen 0
      have g1 := HE3.out.frozen 1
      have v0 : w3.cell? ⟨be, 0, none⟩ = some (.int .i64 0) := HE3.out.cell rfl
      have v1 : w3.cell? ⟨be, 1, none⟩ = some (.slice none 0 0) := HE3.out.cell rfl
      have lbe := HE3.out.lt
      clear hb3
      go_wp2_with fail
      refine HKK.out _ _ ?_
      change Code.wp _ (tailAt 3 dlBody) _ _ _
      have hbe := HNE.out
      refine dl_bad (x := .code 1) (A := A) (h := h) (uc := 1) (ua := none) (un := 0) (ucap := 0) ⟨(K3.out.x.other (a := ⟨be, 0, none⟩) (by simp; omega) _).other (a := ⟨be, 1, none⟩) (by simp; omega) _, (K3.out.r.other (a := ⟨be, 0, none⟩) (by simp; omega) _).other (a := ⟨be, 1, none⟩) (by simp; omega) _, (K3.out.b.setCell (p := ⟨be, 0, none⟩) (by simp; omega) _).setCell (p := ⟨be, 1, none⟩) (by simp; omega) _⟩ ((HE3.out.set 0 _).set 1 _) rfl ⟨by decide, by decide⟩ (by simp) HR.out
    · have d0 : decide (i < 0) = false := by simpa using h0
      go_wp2_with fail
      refine (count_any A h _).mono ?_
      rintro e w2 ⟨c, rfl, hcc, hb⟩
      have hcn : c = (cntOf h : Int) := by
        rw [hcc]
        have := HT.out
        unfold cntOf at *
        rw [IntWalk.wrap64_in _ ⟨by omega, by omega⟩]
        omega
      subst hcn
      have KB := Lib.hid (KA.out.below hb)
      have HEB := Lib.hid (HEA.out.below hb HEA.out.lt)
      clear hb KA HEA hcc k0 k1 k2 k3 k4
      by_cases h1 : (cntOf h : Int) ≤ i
      · have d1 : decide ((cntOf h : Int) ≤ i) = true := by simpa using h1
        have HR := Lib.hid (show linksRes h i = ([], .code 1) by unfold linksRes; rw [if_pos HC.out, if_pos (.inr h1)])
        go_wp2_with fail
        refine (e_any 1 _).mono ?_
        rintro e w3 ⟨v, rfl, hv, hb3⟩
        obtain rfl : v = _ := hv
        have K3 := Lib.hid (KB.out.below hb3)
        have HE3 := Lib.hid (HEB.out.below hb3 HEB.out.lt)
        have g0 := HE3.out.frozen 0
        have g1 := HE3.out.frozen 1
        have v0 : w3.cell? ⟨be, 0, none⟩ = some (.int .i64 0) := HE3.out.cell rfl
        have v1 : w3.cell? ⟨be, 1, none⟩ = some (.slice none 0 0) := HE3.out.cell rfl
        have lbe := HE3.out.lt
        clear hb3
        go_wp2_with fail
        refine HKK.out _ _ ?_
        change Code.wp _ (tailAt 3 dlBody) _ _ _
        have hbe := HNE.out
        refine dl_bad (x := .code 1) (A := A) (h := h) (uc := 1) (ua := none) (un := 0) (ucap := 0) ⟨(K3.out.x.other (a := ⟨be, 0, none⟩) (by simp; omega) _).other (a := ⟨be, 1, none⟩) (by simp; omega) _, (K3.out.r.other (a := ⟨be, 0, none⟩) (by simp; omega) _).other (a := ⟨be, 1, none⟩) (by simp; omega) _, (K3.out.b.setCell (p := ⟨be, 0, none⟩) (by simp; omega) _).setCell (p := ⟨be, 1, none⟩) (by simp; omega) _⟩ ((HE3.out.set 0 _).set 1 _) rfl ⟨by decide, by decide⟩ (by simp) HR.out
      · have d1 : decide ((cntOf h : Int) ≤ i) = false := by simpa using h1
        obtain ⟨m, rfl⟩ : ∃ m : Nat, i = m := ⟨i.toNat, by omega⟩
        have hm : m < cntOf h := by omega
        have d2 : decide (cntOf h ≤ m) = false := by simpa using hm
        have hr : linksRes h (m : Int) = layRes h [m] := by unfold linksRes; rw [if_pos HC.out, if_neg (by omega)]; rfl
        have HR := Lib.hid hr
        clear hr
        go_wp2_with fail
        refine HKK.out _ _ ?_
        change Code.wp _ (tailAt 3 dlBody) _ _ _
        rw [HR.out]
        exact dl_good KB.out SEE.out HEB.out HC.out HT.out hm
  · have hnil : (checkErr h).isNil = false := by cases hh : (checkErr h).isNil with
      | true => exact absurd (EV.isNil_iff.1 hh) hc
      | false => rfl
    have HR := Lib.hid (show linksRes h i = ([], checkErr h) by unfold linksRes; rw [if_neg hc])
    have HC := Lib.hid hc
    clear hc
    go_wp2_with fail
    refine (bad_any _ (checkErr h) _ HV.out (checkErr_pos h)).mono ?_
    rintro e w1 ⟨rfl, hb⟩
    rw [hnil]
    have KA := Lib.hid (K.out.below hb)
    have HEA := Lib.hid (HE.out.below hb HE.out.lt)
    have HVA := Lib.hid (HV.out.below hb)
    clear hb K HE y0 y1 HV k0 k1 k2 k3 k4
    dsimp only [Bool.not_false]
    go_wp2_with fail
    refine HKK.out _ _ ?_
    change Code.wp _ (tailAt 3 dlBody) _ _ _
    exact dl_bad KA.out HEA.out HVA.out (checkErr_pos h) HC.out HR.out
set_option linter.unusedSimpArgs false in
set_option maxRecDepth 100000 in
set_option maxHeartbeats 8000000 in
theorem dl_one {s0 s3 s6 s7 s8 s9 s10 s11 s12 s13 s14 s15 s16 s17 s18 s19 s20 s21 s22 s23 s24 s25 s26 s27 s28 s29 s30 s31 s32 s33 s34 s35 s36 s37 s38 s39 s40 s41 s42 s43 s44 s45 s46 s47 s48 s49 s50 s51 s52 s53 s54 s55 s56 s57 s58 s59 s60 s61 s62 s63 s64 s65 s66 s67 s68 s69 s70 : Value} {A : HA} {h : HierD} {i : Int} {w wx : World} (k : DK A h w wx) (see : HSee w A h) (hk1 : h.up.length ≤ 140737488355328) (hk2 : h.dn.length ≤ 140737488355328) (hn64 : h.node.length ≤ 140737488355328) (hi64 : i ≤ 9223372036854775807) : Code.wp Tryz.prog (tailAt 1 dlBody) (bodyPost Tryz.prog Tryz.f13 (RListNew (linksRes h i) w)) ⟨#[s0, .int .i64 i, .pointer (some ⟨w.heap.size, 0, none⟩), s3, .slice none 0 0, .pointer (some ⟨(w.heap.size + 1), 0, none⟩), s6, s7, s8, s9, s10, s11, s12, s13, s14, s15, s16, s17, s18, s19, s20, s21, s22, s23, s24, s25, s26, s27, s28, s29, s30, s31, s32, s33, s34, s35, s36, s37, s38, s39, s40, s41, s42, s43, s44, s45, s46, s47, s48, s49, s50, s51, s52, s53, s54, s55, s56, s57, s58, s59, s60, s61, s62, s63, s64, s65, s66, s67, s68, s69, s70], []⟩ wx := by
  have K := Lib.hid k
  have SEE := Lib.hid see
  obtain ⟨k0, k1, k2, k3, k4⟩ := hier_five k.x
  clear k see
  conv => arg 2; whnf
  apply wp_seq_k
  intro KK hK
  have HKK := Lib.hid hK
  clear hK
  go_wp2_with fail
  refine (rdoccheck_any A h _ (SEE.out.below K.out.b) hk1 hk2 hn64).mono ?_
  rintro e w1 ⟨v, rfl, hv, hb⟩
  obtain ⟨uc, ua, un, ucap, rfl⟩ := hv.form
  have K1 := Lib.hid (K.out.below hb)
  have HV := Lib.hid hv
  clear hb hv k0 k1 k2 k3 k4 K
  go_wp2_with fail
  refine HKK.out _ _ ?_
  change Code.wp _ (tailAt 2 dlBody) _ _ _
  have hal := (Below.refl w1.heap.size w1).alloc (Nat.le_refl _) (.cells #[.int .i64 uc, .slice ua un ucap] 36)
  exact dl_two (K1.out.below hal) SEE.out (Cells.new w1 36 [.int .i64 uc, .slice ua un ucap]) (HV.out.below hal) K1.out.r.lt (by omega) hi64
set_option linter.unusedSimpArgs false in
set_option maxRecDepth 100000 in
set_option maxHeartbeats 8000000 in
/-- **The reference's DocLinks.** -/
theorem rdoclinks_any (A : HA) (h : HierD) (i : Int) (w : World) (see : HSee w A h) (hk1 : h.up.length ≤ 140737488355328) (hk2 : h.dn.length ≤ 140737488355328) (hn64 : h.node.length ≤ 140737488355328) (hi64 : i ≤ 9223372036854775807) :
    Calls Tryz.prog 13 #[hierVal A h, .int .i64 i] w (RListNew (linksRes h i) w) := by
  have SEE := Lib.hid see
  have hb0 := ((Below.refl w.heap.size w).alloc (Nat.le_refl _) (.cells (hierCells A h).toArray 25)).alloc (by simp) (.cells errZero.toArray 36)
  have K := Lib.hid (DK.mk (A := A) (h := h) ((Cells.new w 25 (hierCells A h)).alloc (.cells errZero.toArray 36)) (cells_at (by simp) 36 errZero) hb0)
  clear see hb0
  unfold hierVal
  go_enter Tryz.func13, Tryz.ntmps13
  apply wp_seq_k
  intro K1 hK
  have HK1 := Lib.hid hK
  clear hK
  go_wp2_with fail
  refine HK1.out _ _ ?_
  change Code.wp _ (tailAt 1 dlBody) _ _ _
  exact dl_one K.out SEE.out hk1 hk2 hn64 hi64
end Go.Proofs.YtchhbgckonpedaaGreatDoor

/- The reference's DocNodes. -/
namespace Go.Proofs.YtchhbgckonpedaaGreatDoor
open Go.ChangeShapes Go.WideShapes Go.ChangeAt Go.RowKit Go.Joins Go.Deep

noncomputable def dnBody : Code := Tryz.f18.body.getD .skip

/-- append as one step of a region that draws its order: the result lies in the same block or in a new one. -/
theorem step_app {P : Program} {ops : Array Oper} {o : Oper} {a : Act} {w : World} {K : Act → World → Prop} {Q : Exit → Act → World → Prop} {E : Prop} (hgd : o.guard = none) (s x : Operand) (t : TypeId)
    (ho : o.op = .call { callee := .builtin .append, args := #[s, x], argTypes := #[t, t] })
    (e : TypeId) (z : Value) (size bytes : Nat) (ht : P.underlying t = some (.slice e)) (hinfo : (P.info? e).map (fun i => (i.zero, i.size, i.bytes)) = some (some z, size, bytes)) (hzs : z.cells.size = size) (hsz : 0 < size)
    (v : Value) (n : Nat) (xs : List Value) (hs : a.eval s = v) (hown : w.ownsRow 0 e size v n xs)
    (ad : Addr) (m c : Nat) (news : List Value) (hx : a.eval x = .slice (some ad) m c) (hl : news.length = m * size) (hnews : ∀ j u, news[j]? = some u → w.cell? (ad.add j) = some u) (h1 : ∀ u ∈ news, u.oneCell' = true)
    (h63 : n + m ≤ maxLen) (hbytes : (n + m) * bytes ≤ 140737488355328)
    (h : ∀ ao cap w', w'.ownsRow 0 e size (.slice ao (n + m) cap) (n + m) (xs ++ news) → Only v.ownBlock.toList w w' → (∀ k, (Value.slice ao (n + m) cap).ownBlock = some k → v.ownBlock = some k ∨ w.heap.size ≤ k) → K (a.put o.dst (.slice ao (n + m) cap)) w') :
    if Region.wanted o (yielded ops a.tmps) = true then Oper.wp P o a w K Q else E := by
  have hw : Region.wanted o (yielded ops a.tmps) = true := by simp [Region.wanted, hgd]
  rw [if_pos hw]
  exact wp_app w s x t ho e z size bytes ht hinfo hzs hsz v n xs hs hown ad m c news hx hl hnews h1 h63 hbytes h

set_option linter.unusedSimpArgs false in
set_option maxRecDepth 100000 in
set_option maxHeartbeats 8000000 in
theorem dn_bad {s0 s3 s6 s8 s9 s10 s11 s12 s13 s14 s15 s16 s17 s18 s19 s20 s21 s22 s23 s24 s25 s26 s27 s28 s29 s30 s31 s32 s33 s34 s35 s36 s37 s38 s39 s40 s41 s42 s43 s44 s45 s46 s47 s48 s49 s50 s51 s52 s53 s54 s55 s56 s57 : Value} {A : HA} {h : HierD} {i : Int} {w wx : World} {be : Nat} {x : EV} {uc : Int} {ua : Option Addr} {un ucap : Nat} (k : DK A h w wx) (he : Cells wx be 36 [.int .i64 uc, .slice ua un ucap]) (hv : ErrV wx (.agg [.int .i64 uc, .slice ua un ucap].toArray) x) (hp : x.pos) (hx : x ≠ .nil)
    (hr : nodesRes h i = ([], x)) : Code.wp Tryz.prog (tailAt 2 dnBody) (bodyPost Tryz.prog Tryz.f18 (RListNew (nodesRes h i) w)) ⟨#[s0, .int .i64 i, .pointer (some ⟨w.heap.size, 0, none⟩), s3, .slice none 0 0, .pointer (some ⟨(w.heap.size + 1), 0, none⟩), s6, .pointer (some ⟨be, 0, none⟩), s8, s9, s10, s11, s12, s13, s14, s15, s16, s17, s18, s19, s20, s21, s22, s23, s24, s25, s26, s27, s28, s29, s30, s31, s32, s33, s34, s35, s36, s37, s38, s39, s40, s41, s42, s43, s44, s45, s46, s47, s48, s49, s50, s51, s52, s53, s54, s55, s56, s57], []⟩ wx := by
  have K := Lib.hid k
  have y0 : wx.cell? ⟨be, 0, none⟩ = some (.int .i64 uc) := he.cell rfl
  have y1 : wx.cell? ⟨be, 1, none⟩ = some (.slice ua un ucap) := he.cell rfl
  have HE := Lib.hid he
  have HV := Lib.hid hv
  have HR := Lib.hid hr
  have HPX := Lib.hid hp
  have hnil : x.isNil = false := by cases hh : x.isNil with
    | true => exact absurd (EV.isNil_iff.1 hh) hx
    | false => rfl
  clear k he hv hr hp hx
  conv => arg 2; whnf
  go_wp2_with fail
  refine (bad_any _ x _ HV.out HPX.out).mono ?_
  rintro e w1 ⟨rfl, hb⟩
  rw [hnil]
  have K1 := Lib.hid (K.out.below hb)
  have HE1 := Lib.hid (HE.out.below hb HE.out.lt)
  have HV1 := Lib.hid (HV.out.below hb)
  have x0 : w1.cell? ⟨be, 0, none⟩ = some (.int .i64 uc) := HE1.out.cell rfl
  have x1 : w1.cell? ⟨be, 1, none⟩ = some (.slice ua un ucap) := HE1.out.cell rfl
  have z0 : w1.cell? ⟨w.heap.size + 1, 0, none⟩ = some (.int .i64 0) := K1.out.r.cell rfl
  have z1 : w1.cell? ⟨w.heap.size + 1, 1, none⟩ = some (.slice none 0 0) := K1.out.r.cell rfl
  have g0 := K1.out.r.frozen 0
  have g1 := K1.out.r.frozen 1
  have lr := K1.out.r.lt
  clear hb K HE HV y0 y1
  go_wp2_with fail
  go_region
  all_goals
    try dsimp only [Exit.then]
    go_wp2
    refine bodyPost_ret (results_te3 rfl _ _ (w.heap.size + 1) 36 [.int .i64 uc, .slice ua un ucap] _ rfl (((K1.out.r.drew).set 0 _).set 1 _) Tryz.underlying36 rfl (by rw [Tryz.sizeErr]; rfl)) rfl ?_
    rw [HR.out]
    exact ⟨none, 0, _, rfl, (HV1.out.below (Below.refl _ _).drew).put K1.out.r.drew _ _, Nats.nil _ _, ((K1.out.b.drew).setCell (p := ⟨w.heap.size + 1, 0, none⟩) (by simp) _).setCell (p := ⟨w.heap.size + 1, 1, none⟩) (by simp) _⟩

set_option linter.unusedSimpArgs false in
set_option maxRecDepth 100000 in
set_option maxHeartbeats 8000000 in
theorem dn_good {s0 s3 s8 s9 s10 s11 s12 s13 s14 s15 s16 s17 s18 s19 s20 s21 s22 s23 s24 s25 s26 s27 s28 s29 s30 s31 s32 s33 s34 s35 s36 s37 s38 s39 s40 s41 s42 s43 s44 s45 s46 s47 s48 s49 s50 s51 s52 s53 s54 s55 s56 s57 : Value} {A : HA} {h : HierD} {i : Int} {w wx : World} {be lc x0 M : Nat} {la : Option Addr} {ls : List Nat} (k : DK A h w wx) (see : HSee w A h) (he : Cells wx be 36 errZero) (hc : checkErr h = .nil) (htot : cntOf h ≤ 1048576)
    (sl : See wx la lc i64Cells 1 (x0 :: ls)) (hl : ∀ x ∈ x0 :: ls, x < cntOf h) (hlen : M ≤ 131072) (hM : (x0 :: ls).length = M) :
    Code.wp Tryz.prog (tailAt 2 dnBody) (bodyPost Tryz.prog Tryz.f18 (RListNew (nodesL h (x0 :: ls), .nil) w)) ⟨#[s0, .int .i64 i, .pointer (some ⟨w.heap.size, 0, none⟩), s3, .slice none 0 0, .pointer (some ⟨(w.heap.size + 1), 0, none⟩), .slice la M lc, .pointer (some ⟨be, 0, none⟩), s8, s9, s10, s11, s12, s13, s14, s15, s16, s17, s18, s19, s20, s21, s22, s23, s24, s25, s26, s27, s28, s29, s30, s31, s32, s33, s34, s35, s36, s37, s38, s39, s40, s41, s42, s43, s44, s45, s46, s47, s48, s49, s50, s51, s52, s53, s54, s55, s56, s57], []⟩ wx := by
  have K := Lib.hid k
  have y0 : wx.cell? ⟨be, 0, none⟩ = some (.int .i64 0) := he.cell rfl
  have y1 : wx.cell? ⟨be, 1, none⟩ = some (.slice none 0 0) := he.cell rfl
  have HE := Lib.hid he
  have SEE := Lib.hid see
  have HC := Lib.hid hc
  have HT := Lib.hid htot
  have HL := Lib.hid hl
  have SL := Lib.hid sl
  obtain ⟨u, d⟩ := parts_firsts hc
  have HU := Lib.hid u
  have HD := Lib.hid d
  have hn := (checkErr_parts hc).1.n
  clear k he see hc htot hl sl u d
  conv => arg 2; whnf
  go_wp2_with fail
  refine (bad_any (.agg #[.int .i64 0, .slice none 0 0]) .nil _ rfl trivial).mono ?_
  rintro e w1 ⟨rfl, hb⟩
  have K1 := Lib.hid (K.out.below hb)
  have HE1 := Lib.hid (HE.out.below hb HE.out.lt)
  have SL1 := Lib.hid (SL.out.below hb)
  obtain ⟨k0, k1, k2, k3, k4⟩ := hier_five K1.out.x
  clear hb K HE SL y0 y1
  dsimp only [EV.isNil, Bool.not_true]
  go_wp2_with fail
  refine (arcs_any A h _ (SEE.out.below K1.out.b) HU.out HD.out hn HT.out).mono ?_
  rintro e w2 ⟨aa, ac, rfl, sa, -, hb⟩
  have K2 := Lib.hid (K1.out.below hb)
  have HE2 := Lib.hid (HE1.out.below hb HE1.out.lt)
  have SL2 := Lib.hid (SL1.out.below hb)
  have SA := Lib.hid sa
  have hel := cnt_ends HC.out
  obtain ⟨k0, k1, k2, k3, k4⟩ := hier_five K2.out.x
  clear hb K1 HE1 SL1 sa k1 k2 k3 k4
  have HEL := Lib.hid hel
  have HMEM0 := Lib.hid (show x0 ∈ x0 :: ls by simp)
  have hx0 := end_cases HC.out (HL.out x0 HMEM0.out)
  obtain ⟨q0, hq0⟩ : ∃ q, (endAt h x0).tail = q := ⟨_, rfl⟩
  have hqn0 : q0 < h.node.length := by rw [← hq0]; exact hx0.2.1
  obtain ⟨v0, hv0⟩ : ∃ v, h.node[q0]? = some v := ⟨_, List.getElem?_eq_getElem hqn0⟩
  have hnv0 : nodeAt h (endAt h x0).tail = v0 := by rw [hq0]; unfold nodeAt; rw [List.getD_eq_getElem?_getD, hv0]; rfl
  have v320 : v0 < 4294967296 := SEE.out.bn _ (List.mem_of_getElem? hv0)
  have cv0 := IntWalk.i64_in (v0 : Int) (by omega)
  obtain ⟨bn0, on0, ean0, ccn0⟩ := SEE.out.node.cell q0 v0 hv0
  have cn0 := ck (K2.out.b) (ccn0 0 _ rfl)
  rw [Nat.mul_one, Nat.add_zero] at cn0
  have ln0 := block_lt cn0
  have hea0 : (endsOf h)[x0]? = some (endAt h x0) := by
    have hlt := HL.out x0 HMEM0.out
    have : x0 < (endsOf h).length := by rw [HEL.out]; exact hlt
    unfold endAt
    rw [List.getD_eq_getElem?_getD, List.getElem?_eq_getElem this]
    rfl
  have hel0 : x0 < (endsOf h).length := by rw [HEL.out]; exact HL.out x0 HMEM0.out
  obtain ⟨b3, o3, ea3, cc3⟩ := SA.out.cell x0 _ hea0
  have a0 := cc3 0 _ rfl
  rw [Nat.add_zero] at a0
  rw [hq0] at a0
  have la3 := block_lt a0
  obtain ⟨b4, o4, ea4, cc4⟩ := SL2.out.cell 0 x0 rfl
  have l0 := cc4 0 _ rfl
  simp only [Nat.zero_mul, Nat.add_zero] at l0
  have ll4 := block_lt l0
  have hcap := SL2.out.hcap
  have hl1 : 0 < M := by rw [← hM]; simp
  rw [ean0] at k0
  have EA3 := Lib.hid ea3
  have EA4 := Lib.hid ea4
  have HN0 := Lib.hid hnv0
  have HEAN := Lib.hid ean0
  have HMM := Lib.hid hM
  obtain ⟨N, hNN⟩ : ∃ N, (endsOf h).length = N := ⟨_, rfl⟩
  have HNN := Lib.hid hNN
  rw [hNN] at hel0 ⊢
  rw [EA3.out, EA4.out]
  clear hx0 hq0 hv0 hnv0 ccn0 hea0 cc3 ea3 cc4 ea4 hcap hel ean0 hM hNN
  go_upto_region 5 with fail
  go_still_tail 12, (by kernel_rfl)
  change wpList _ _ _ _ _ w2.drew
  go_wp2_with fail
  have HNA := Lib.hid (show Nats w2.heap.size ((w2.alloc (.cells #[.int .i64 v0] 3)).drew) (.slice (some ⟨w2.heap.size, 0, none⟩) 1 1) [v0] from (Nats.fresh w2 [v0] (by simp)).below (Below.refl _ _).drew)
  have HBA := Lib.hid (show Below w2.heap.size w2 ((w2.alloc (.cells #[.int .i64 v0] 3)).drew) from ((Below.refl _ _).alloc (Nat.le_refl _) _).drew)
  clear cn0 a0 l0 k0
  go_loopg [9, 38] M (fun g vm vi wr => ∃ (k : Nat) (ao : Option Addr) (cap : Nat), vi = .int .i64 (k : Int) ∧ k ≤ M ∧ g = M - k ∧ vm = .slice ao (k + 1) cap ∧
    Nats w2.heap.size wr (.slice ao (k + 1) cap) (v0 :: ((x0 :: ls).take k).map fun y => nodeAt h (endAt h y).head) ∧ Below w2.heap.size w2 wr)
  case atStart => exact ⟨0, some ⟨w2.heap.size, 0, none⟩, 1, rfl, Nat.zero_le _, rfl, rfl, HNA.out, HBA.out⟩
  case round =>
    obtain ⟨k, ao, cap, rfl, hk, hg, rfl, hnat, hbl⟩ := hrel
    obtain ⟨wp, rfl⟩ : ∃ wp : World, wp = wr := ⟨_, rfl⟩
    have HG := Lib.hid hg
    have HNT := Lib.hid hnat
    have HBL := Lib.hid hbl
    have hz := hbl.size
    have KP := Lib.hid (K2.out.below hbl)
    clear hg hnat hbl
    by_cases hkm : k < M
    · obtain ⟨x, hx⟩ : ∃ x, (x0 :: ls)[k]? = some x := ⟨_, List.getElem?_eq_getElem (by rw [HMM.out]; exact hkm)⟩
      have HMEM1 := Lib.hid (List.mem_of_getElem? hx)
      have hx1 := end_cases HC.out (HL.out x HMEM1.out)
      obtain ⟨q1, hq1⟩ : ∃ q, (endAt h x).head = q := ⟨_, rfl⟩
      have hqn1 : q1 < h.node.length := by rw [← hq1]; exact hx1.2.2
      obtain ⟨v1, hv1⟩ : ∃ v, h.node[q1]? = some v := ⟨_, List.getElem?_eq_getElem hqn1⟩
      have hnv1 : nodeAt h (endAt h x).head = v1 := by rw [hq1]; unfold nodeAt; rw [List.getD_eq_getElem?_getD, hv1]; rfl
      have v321 : v1 < 4294967296 := SEE.out.bn _ (List.mem_of_getElem? hv1)
      have cv1 := IntWalk.i64_in (v1 : Int) (by omega)
      obtain ⟨bn1, on1, ean1, ccn1⟩ := SEE.out.node.cell q1 v1 hv1
      have cn1 := ck (KP.out.b) (ccn1 0 _ rfl)
      rw [Nat.mul_one, Nat.add_zero] at cn1
      have ln1 := block_lt cn1
      have hea1 : (endsOf h)[x]? = some (endAt h x) := by
        have hlt := HL.out x HMEM1.out
        have : x < (endsOf h).length := by rw [HEL.out]; exact hlt
        unfold endAt
        rw [List.getD_eq_getElem?_getD, List.getElem?_eq_getElem this]
        rfl
      have hel1 : x < N := by rw [← HNN.out, HEL.out]; exact HL.out x HMEM1.out
      obtain ⟨b5, o5, ea5, cc5⟩ := SA.out.cell x _ hea1
      rw [EA3.out] at ea5
      simp only [Option.some.injEq, Addr.mk.injEq, and_true] at ea5
      obtain ⟨rfl, rfl⟩ := ea5
      have a1 := ck HBL.out (cc5 1 _ rfl)
      rw [hq1] at a1
      have la1 := block_lt a1
      obtain ⟨b6, o6, ea6, cc6⟩ := SL2.out.cell k x hx
      rw [EA4.out] at ea6
      simp only [Option.some.injEq, Addr.mk.injEq, and_true] at ea6
      obtain ⟨rfl, rfl⟩ := ea6
      have l1 := ck HBL.out (cc6 0 _ rfl)
      simp only [Nat.mul_one, Nat.add_zero] at l1
      have ll1 := block_lt l1
      obtain ⟨k0, -, -, -, -⟩ := hier_five KP.out.x
      rw [HEAN.out] at ean1 k0
      simp only [Option.some.injEq, Addr.mk.injEq, and_true] at ean1
      obtain ⟨rfl, rfl⟩ := ean1
      have HNV := Lib.hid hnv1
      have HXX := Lib.hid hx
      clear hx1 hq1 hv1 hnv1 ccn1 hea1 cc5 cc6 hx
      go_upto_region 9 with fail
      have hownk : wp.ownsRow 0 3 1 (.slice ao (k + 1) cap) (k + 1) ((v0 :: ((x0 :: ls).take k).map fun y => nodeAt h (endAt h y).head).flatMap i64Cells) := by
        have := HNT.out.own
        rwa [show (v0 :: ((x0 :: ls).take k).map fun y => nodeAt h (endAt h y).head).length = k + 1 from (HNT.out.see.2).symm] at this
      have HOK := Lib.hid hownk
      clear hownk
      go_region_law (refine step_app rfl (.tmp 42) (.tmp 53) 28 rfl 3 (.int .i64 0) 1 8 Tryz.underlying28 Tryz.infoInt rfl (by decide) (.slice ao (k + 1) cap) (k + 1) ((v0 :: ((x0 :: ls).take k).map fun y => nodeAt h (endAt h y).head).flatMap i64Cells) (by simp [Act.eval, Act.put]) (own_kept (bs := []) HOK.out (((Only.refl _ wp).drew).alloc _) (fun q _ => by simp)) ⟨wp.heap.size, 0, none⟩ 1 1 (i64Cells v1) (by simp [Act.eval, Act.put]) rfl (cells_new wp.drew 3 (i64Cells v1)) (by intro u hu; simp [i64Cells] at hu; subst hu; rfl) (by unfold maxLen; omega) (by omega) ?_; intro ao5 cap5 w5 hown5 ho5 hk5)
      all_goals
        try dsimp only [Exit.then]
        have hba : Below wp.heap.size wp ((wp.drew).alloc (.cells #[.int .i64 v1] 3)) := ((Below.refl _ _).drew).alloc (Nat.le_refl _) _
        have hbw := HBL.out.trans (hba.mono hz)
        have hbl5 : Below w2.heap.size w2 w5 := hbw.trans (ho5.below hbw.size (fun q hq => HNT.out.new q (own_mem hq)))
        have hlen : (v0 :: ((x0 :: ls).take k).map fun y => nodeAt h (endAt h y).head).length = k + 1 := (HNT.out.see.2).symm
        have htk : (v0 :: ((x0 :: ls).take (k + 1)).map fun y => nodeAt h (endAt h y).head) = (v0 :: ((x0 :: ls).take k).map fun y => nodeAt h (endAt h y).head) ++ [v1] := by
          rw [List.take_add_one, HXX.out, Option.toList_some, List.map_append, List.map_cons, HNV.out]
          rfl
        have hn5 : Nats w2.heap.size w5 (.slice ao5 (k + 1 + 1) cap5) (v0 :: ((x0 :: ls).take (k + 1)).map fun y => nodeAt h (endAt h y).head) := by
          rw [htk]
          have := (HNT.out.below hba).app [v1] (m := 1) rfl (ao := ao5) (cap := cap5) (w5 := w5) (by rw [hlen]; simpa using hown5) (by rw [hlen]; simpa using hk5) (by simp; omega)
          rwa [hlen] at this
        have N5 := Lib.hid hn5
        have B5 := Lib.hid hbl5
        clear hown5 ho5 hk5 hba hbw hbl5 hlen htk hn5 cn1 a1 l1 k0
        go_wp2_with fail
        go_roundg (M - (k + 1))
        case measure => rw [HG.out]; omega
        case rel => exact ⟨k + 1, ao5, cap5, by go_num, by omega, rfl, rfl, N5.out, B5.out⟩
    · obtain rfl : k = M := by omega
      have HE3 := HE2.out.below HBL.out HE2.out.lt
      have z2 : wp.cell? ⟨be, 0, none⟩ = some (.int .i64 0) := HE3.cell rfl
      have z3 : wp.cell? ⟨be, 1, none⟩ = some (.slice none 0 0) := HE3.cell rfl
      have z0 : wp.cell? ⟨w.heap.size + 1, 0, none⟩ = some (.int .i64 0) := KP.out.r.cell rfl
      have z1 : wp.cell? ⟨w.heap.size + 1, 1, none⟩ = some (.slice none 0 0) := KP.out.r.cell rfl
      have g0 := KP.out.r.frozen 0
      have g1 := KP.out.r.frozen 1
      have lr := KP.out.r.lt
      have hN : Nats w2.heap.size wp (.slice ao (nodesL h (x0 :: ls)).length cap) (nodesL h (x0 :: ls)) := by
        have := HNT.out
        rw [← HMM.out, List.take_length] at this
        rw [nodesL_cons, HN0.out]
        have e : (v0 :: (x0 :: ls).map fun y => nodeAt h (endAt h y).head).length = (x0 :: ls).length + 1 := by simp
        rw [e]
        exact this
      have hl : (nodesL h (x0 :: ls)).length = k + 1 := by rw [nodesL_cons, ← HMM.out]; simp
      have HNF := Lib.hid hN
      have HLF := Lib.hid hl
      clear HE3 hN hl
      go_wp2_with fail
      go_region
      all_goals
        try dsimp only [Exit.then]
        go_wp2
        refine bodyPost_ret (results_te3 rfl _ _ (w.heap.size + 1) 36 [.int .i64 0, .slice none 0 0] _ rfl (((KP.out.r.drew).set 0 _).set 1 _) Tryz.underlying36 rfl (by rw [Tryz.sizeErr]; rfl)) rfl ?_
        refine ⟨ao, cap, _, by rw [HLF.out]; rfl, rfl, (HNF.out.kept (bs := [w.heap.size + 1]) ((((Only.refl [w.heap.size + 1] wp).drew).setCell (p := ⟨w.heap.size + 1, 0, none⟩) (.inl (by simp)) _).setCell (p := ⟨w.heap.size + 1, 1, none⟩) (.inl (by simp)) _) (fun q hq => by have h1 := HNF.out.new q hq; have h2 := K2.out.r.lt; simp; omega)).mono K2.out.b.size, ((KP.out.b.drew).setCell (p := ⟨w.heap.size + 1, 0, none⟩) (by simp) _).setCell (p := ⟨w.heap.size + 1, 1, none⟩) (by simp) _⟩

theorem linksRes_ne {h : HierD} {i : Int} (h2 : (linksRes h i).2 = .nil) : (linksRes h i).1 ≠ [] := by
  unfold linksRes at *
  split at h2
  · rename_i hc
    rw [if_pos hc]
    split at h2
    · cases h2
    · rename_i hi
      rw [if_neg hi]
      unfold layRes at *
      split at h2
      · rename_i hl
        rw [if_pos hl]
        have := laysOf_pos hc i.toNat (by omega)
        intro e
        simp only [stackOut, List.flatMap_cons, List.flatMap_nil, List.append_nil] at e
        rw [e] at this
        simp at this
      · cases h2
  · rename_i hc
    exact absurd h2 hc
theorem linksRes_pos {h : HierD} {i : Int} : (linksRes h i).2.pos := by
  unfold linksRes
  split
  · split
    · exact ⟨by decide, by decide⟩
    · unfold layRes
      split
      · trivial
      · exact ⟨by decide, by decide⟩
  · exact checkErr_pos h
set_option linter.unusedSimpArgs false in
set_option maxRecDepth 100000 in
set_option maxHeartbeats 8000000 in
theorem dn_one {s0 s3 s6 s7 s8 s9 s10 s11 s12 s13 s14 s15 s16 s17 s18 s19 s20 s21 s22 s23 s24 s25 s26 s27 s28 s29 s30 s31 s32 s33 s34 s35 s36 s37 s38 s39 s40 s41 s42 s43 s44 s45 s46 s47 s48 s49 s50 s51 s52 s53 s54 s55 s56 s57 : Value} {A : HA} {h : HierD} {i : Int} {w wx : World} (k : DK A h w wx) (see : HSee w A h) (hk1 : h.up.length ≤ 140737488355328) (hk2 : h.dn.length ≤ 140737488355328) (hn64 : h.node.length ≤ 140737488355328) (hi64 : i ≤ 9223372036854775807) : Code.wp Tryz.prog (tailAt 1 dnBody) (bodyPost Tryz.prog Tryz.f18 (RListNew (nodesRes h i) w)) ⟨#[s0, .int .i64 i, .pointer (some ⟨w.heap.size, 0, none⟩), s3, .slice none 0 0, .pointer (some ⟨(w.heap.size + 1), 0, none⟩), s6, s7, s8, s9, s10, s11, s12, s13, s14, s15, s16, s17, s18, s19, s20, s21, s22, s23, s24, s25, s26, s27, s28, s29, s30, s31, s32, s33, s34, s35, s36, s37, s38, s39, s40, s41, s42, s43, s44, s45, s46, s47, s48, s49, s50, s51, s52, s53, s54, s55, s56, s57], []⟩ wx := by
  have K := Lib.hid k
  have SEE := Lib.hid see
  obtain ⟨k0, k1, k2, k3, k4⟩ := hier_five k.x
  clear k see
  conv => arg 2; whnf
  apply wp_seq_k
  intro KK hK
  have HKK := Lib.hid hK
  clear hK
  go_wp2_with fail
  refine (rdoclinks_any A h i _ (SEE.out.below K.out.b) hk1 hk2 hn64 hi64).mono ?_
  rintro e w1 ⟨ao, cap, v, rfl, hv, hn, hb⟩
  obtain ⟨uc, ua, un, ucap, rfl⟩ := hv.form
  have K1 := Lib.hid (K.out.below hb)
  have HV := Lib.hid hv
  have SL := Lib.hid hn.see.1
  clear hb hv hn k0 k1 k2 k3 k4 K
  go_wp2_with fail
  refine HKK.out _ _ ?_
  change Code.wp _ (tailAt 2 dnBody) _ _ _
  have hal := (Below.refl w1.heap.size w1).alloc (Nat.le_refl _) (.cells #[.int .i64 uc, .slice ua un ucap] 36)
  by_cases h2 : (linksRes h i).2 = .nil
  · have hr : nodesRes h i = (nodesL h (linksRes h i).1, .nil) := by unfold nodesRes; rw [if_pos h2]
    obtain ⟨hc, hlen, hmem⟩ := linksRes_ok h2
    have hne := linksRes_ne h2
    have HV0 := HV.out
    rw [h2] at HV0
    simp only [ErrV] at HV0
    simp at HV0
    obtain ⟨rfl, rfl, rfl, rfl⟩ := HV0
    rw [hr]
    have sl := SL.out.below hal
    obtain ⟨L, hL⟩ : ∃ L, (linksRes h i).1 = L := ⟨_, rfl⟩
    rw [hL] at hlen hmem hne sl ⊢
    cases L with
    | nil => exact absurd rfl hne
    | cons x0 ls => exact dn_good (K1.out.below hal) SEE.out (Cells.new w1 36 errZero) hc (cnt_small hc (by omega)) sl (fun x hx => (hmem x hx).1) hlen rfl
  · have hr : nodesRes h i = ([], (linksRes h i).2) := by unfold nodesRes; rw [if_neg h2]
    exact dn_bad (K1.out.below hal) (Cells.new w1 36 [.int .i64 uc, .slice ua un ucap]) (HV.out.below hal) linksRes_pos h2 hr
set_option linter.unusedSimpArgs false in
set_option maxRecDepth 100000 in
set_option maxHeartbeats 8000000 in
/-- **The reference's DocNodes.** -/
theorem rdocnodes_any (A : HA) (h : HierD) (i : Int) (w : World) (see : HSee w A h) (hk1 : h.up.length ≤ 140737488355328) (hk2 : h.dn.length ≤ 140737488355328) (hn64 : h.node.length ≤ 140737488355328) (hi64 : i ≤ 9223372036854775807) :
    Calls Tryz.prog 18 #[hierVal A h, .int .i64 i] w (RListNew (nodesRes h i) w) := by
  have SEE := Lib.hid see
  have hb0 := ((Below.refl w.heap.size w).alloc (Nat.le_refl _) (.cells (hierCells A h).toArray 25)).alloc (by simp) (.cells errZero.toArray 36)
  have K := Lib.hid (DK.mk (A := A) (h := h) ((Cells.new w 25 (hierCells A h)).alloc (.cells errZero.toArray 36)) (cells_at (by simp) 36 errZero) hb0)
  clear see hb0
  unfold hierVal
  go_enter Tryz.func18, Tryz.ntmps18
  apply wp_seq_k
  intro K1 hK
  have HK1 := Lib.hid hK
  clear hK
  go_wp2_with fail
  refine HK1.out _ _ ?_
  change Code.wp _ (tailAt 1 dnBody) _ _ _
  exact dn_one K.out SEE.out hk1 hk2 hn64 hi64
end Go.Proofs.YtchhbgckonpedaaGreatDoor
