/- viaductref10.Laid: the shortcuts. -/
import Derived.Test.YtchhbgckonpedaaGreatDoorG42
import Derived.BigQuiet
namespace Go.Proofs.YtchhbgckonpedaaGreatDoor
open Go.ChangeShapes Go.WideShapes Go.ChangeAt Go.RowKit Go.Joins Go.Deep
theorem arcs_lit (A : HA) (n T : Nat) (w : World) (see : HSee w A (plH n)) (hn : n ≤ 256) (hT : dU n n = T) :
    Calls Tryz.prog 26 #[.agg #[.slice A.a0 n A.c0, .slice A.a1 (n + 1) A.c1, .slice A.a2 T A.c2, .slice A.a3 (n + 1) A.c3, .slice A.a4 T A.c4]] w fun e w' => ∃ ao cap, e = .returned (.slice ao (T + T) cap) ∧ See w' ao cap rendCells 3 (endsOf (plH n)) ∧ (∀ b o, ao = some ⟨b, o, none⟩ → w.heap.size ≤ b) ∧ Below w.heap.size w w' := by
  have h1 := dbl_small hn
  have hl : (plH n).node.length = n := by simp [plH]
  have hf : (plH n).upF.length = n + 1 := frs_len n
  have hg : (plH n).dnF.length = n + 1 := frs_len n
  have hu : (plH n).up.length = T := (plU_len n).trans hT
  have hd : (plH n).dn.length = T := (plU_len n).trans hT
  have fo := frs_ok n
  have := arcs_any A (plH n) w see (by rw [hl, hu, ← hT]; exact fo) (by rw [hl, hd, ← hT]; exact fo) (by rw [hl]; omega) (by rw [hu, hd]; omega)
  unfold hierVal at this
  rw [hl, hf, hg, hu, hd] at this
  refine this.mono ?_
  rintro e w1 ⟨ao, cap, rfl, h1, h2, h3⟩
  refine ⟨ao, cap, by rw [pl_len, hT], h1, h2, h3⟩
inductive Kid (n i : Nat) : Prop
  | up (r j : Nat) (hr : r < n) (hj : j < n - 1 - r) (e : i = dU n r + j)
  | dn (r j : Nat) (hr : r < n) (hj : j < n - 1 - r) (e : i = dU n n + (dU n r + j))
theorem kid_of {n i : Nat} (hi : i < dU n n + dU n n) : Kid n i := by
  by_cases h : i < dU n n
  · obtain ⟨r, j, hr, hj, e⟩ := dU_split n n i h
    exact .up r j hr hj e
  · obtain ⟨r, j, hr, hj, e⟩ := dU_split n n (i - dU n n) (by omega)
    exact .dn r j hr hj (by omega)
theorem mix_over {α : Type} {l m : List α} {i : Nat} (hi : l.length ≤ i) (h : l.length = m.length) : mix l m i = l := by
  unfold mix
  rw [List.take_of_length_le hi, List.drop_of_length_le (by omega), List.append_nil]
theorem set_kid {l : List LinkD} {i : Nat} {x : LinkD} (hx : l[i]? = some x) (c b : Nat) : ((l.flatMap linkCells).set (i * 4 + 2) (.int .u32 (c : Int))).set (i * 4 + 3) (.int .u32 (b : Int)) = (l.set i ⟨x.to, x.wt, c, b⟩).flatMap linkCells := by
  have hi := (List.getElem?_eq_some_iff.1 hx).1
  rw [flat_set linkCells_len l i 2 (by omega) x ⟨x.to, x.wt, c, x.right⟩ _ hx rfl, flat_set linkCells_len (l.set i ⟨x.to, x.wt, c, x.right⟩) i 3 (by omega) ⟨x.to, x.wt, c, x.right⟩ ⟨x.to, x.wt, c, b⟩ _ (by rw [List.getElem?_set, if_pos rfl, if_pos hi]) rfl, List.set_set]
theorem link_cell {l : List LinkD} {i : Nat} {x : LinkD} (hx : l[i]? = some x) {j : Nat} (hj : j < 4) : (l.flatMap linkCells)[i * 4 + j]? = (linkCells x)[j]? := by
  rw [flat_get linkCells_len l i j hj, hx]; rfl
theorem DWir.via {w w' : World} {B n : Nat} {p q : Nat → Nat} {bV cV : Nat} {vW : Value} (h : DWir w B n n p q vW (.slice (some ⟨bV, 0, none⟩) n cV)) (b : Below w.heap.size w w') {t x : Nat} (ht : t < n) (hx : x < n) :
    w'.cell? ⟨bV, t, none⟩ = some (.slice (some ⟨q t, 0, none⟩) n n) ∧ w'.cell? ⟨q t, x, none⟩ = some (.int .i64 (((min t x : Nat) : Int) - 1)) := by
  refine ⟨ck b (own_cell h.ov rfl (rowS_get ht)), ck b ((h.cv t ht).cell ?_)⟩
  rw [vRow_get hx, if_pos hx]
theorem upd_upd {α : Type} (f : Nat → α) (i : Nat) (x y : α) : upd (upd f i x) i y = upd f i y := by funext j; unfold upd; split <;> rfl
theorem laX_su {k : Nat} {F : List Nat} {U : List LinkD} {G : List Nat} {D : List LinkD} {i : Nat} {x : LinkD} (hx : U[i]? = some x) (c b : Nat) : upd (upd (laX k F U G D) 2 ((laX k F U G D 2).set (i * 4 + 2) (.int .u32 (c : Int)))) 2 ((upd (laX k F U G D) 2 ((laX k F U G D 2).set (i * 4 + 2) (.int .u32 (c : Int))) 2).set (i * 4 + 3) (.int .u32 (b : Int))) = laX k F (U.set i ⟨x.to, x.wt, c, b⟩) G D := by
  rw [upd_same, upd_upd]
  show upd (laX k F U G D) 2 (((U.flatMap linkCells).set (i * 4 + 2) (.int .u32 (c : Int))).set (i * 4 + 3) (.int .u32 (b : Int))) = _
  rw [set_kid hx]
  unfold laX
  rw [upd_five2]
theorem laX_sd {k : Nat} {F : List Nat} {U : List LinkD} {G : List Nat} {D : List LinkD} {i : Nat} {x : LinkD} (hx : D[i]? = some x) (c b : Nat) : upd (upd (laX k F U G D) 4 ((laX k F U G D 4).set (i * 4 + 2) (.int .u32 (c : Int)))) 4 ((upd (laX k F U G D) 4 ((laX k F U G D 4).set (i * 4 + 2) (.int .u32 (c : Int))) 4).set (i * 4 + 3) (.int .u32 (b : Int))) = laX k F U G (D.set i ⟨x.to, x.wt, c, b⟩) := by
  rw [upd_same, upd_upd]
  show upd (laX k F U G D) 4 (((D.flatMap linkCells).set (i * 4 + 2) (.int .u32 (c : Int))).set (i * 4 + 3) (.int .u32 (b : Int))) = _
  rw [set_kid hx]
  unfold laX
  rw [upd_five4]
theorem Tos.over {n i : Nat} {l m : List LinkD} (a : Tos n l) (b : Tos n m) : Tos n (Go.Proofs.YtchhbgckonpedaaGreatDoor.mix l m i) := by
  by_cases hi : i ≤ dU n n
  · exact a.mix b hi
  · rw [mix_over (by rw [a.len]; omega) (by rw [a.len, b.len])]
    exact a
set_option linter.unusedSimpArgs false in
set_option maxRecDepth 100000 in
set_option maxHeartbeats 8000000 in
theorem laid_kids {s3 s7 s8 s9 s10 s11 s12 s13 s14 s15 s16 s17 s18 s19 s20 s21 s22 s23 s24 s25 s26 s27 s28 s29 s30 s31 s32 s33 s34 s35 s36 s37 s38 s39 s40 s41 s42 s43 s44 s45 s46 s47 s48 s49 s50 s51 s52 s53 s54 s55 s56 s57 s58 s59 s60 s61 s62 s63 s64 s65 s66 s67 s68 s69 s70 s71 s72 s73 s74 s75 s76 s77 s78 s79 s80 s81 s82 s83 s84 s85 s86 s87 s88 s89 s90 s91 s92 s93 s94 s95 s96 s97 s98 s99 s100 s101 s102 s103 s104 s105 s106 s107 s108 s109 s110 s111 s112 s113 s114 s115 s116 s117 s118 s119 s120 s121 s122 s123 s124 s125 s126 s127 s128 s129 s130 s131 s132 s133 s134 s135 s136 s137 s138 s139 s140 s141 s142 s143 s144 s145 s146 s147 s148 s149 s150 s151 s152 s153 s154 s155 s156 s157 s158 s159 s160 s161 s162 s163 s164 s165 s166 s167 s168 s169 s170 s171 s172 s173 s174 s175 s176 s177 s178 s179 s180 s181 s182 s183 s184 s185 s186 s187 s188 s189 s190 s191 s192 s193 s194 : Value} {n G B0 lc : Nat} {lo : Option Addr} {p q : Nat → Nat} {vW vV v0 v1 v2 v3 v4 : Value} {w wx : World} (hn : n ≤ 256) (hd : DWir w B0 n n p q vW vV) (hx : LAX n G vW vV (five v0 v1 v2 v3 v4) (five n (n + 1) (dU n n) (n + 1) (dU n n)) (laX n (frs n) (plU n) (frs n) (plU n)) w wx) :
    Code.wp Tryz.prog (tailAt 5 laBody) (bodyPost Tryz.prog Tryz.f58 (LaidNew n w)) ⟨#[.agg #[vW, vV], .slice lo n lc, .pointer (some ⟨w.heap.size, 0, none⟩), s3, .pointer (some ⟨(w.heap.size + 1), 0, none⟩), .int .i64 (n : Int), .pointer (some ⟨G, 0, none⟩), s7, s8, s9, s10, s11, s12, s13, s14, s15, s16, s17, s18, s19, s20, s21, s22, s23, s24, s25, s26, s27, s28, s29, s30, s31, s32, s33, s34, s35, s36, s37, s38, s39, s40, s41, s42, s43, s44, s45, s46, s47, s48, s49, s50, s51, s52, s53, s54, s55, s56, s57, s58, s59, s60, s61, s62, s63, s64, s65, s66, s67, s68, s69, s70, s71, s72, s73, s74, s75, s76, s77, s78, s79, s80, s81, s82, s83, s84, s85, s86, s87, s88, s89, s90, s91, s92, s93, s94, s95, s96, s97, s98, s99, s100, s101, s102, s103, s104, s105, s106, s107, s108, s109, s110, s111, s112, s113, s114, s115, s116, s117, s118, s119, s120, s121, s122, s123, s124, s125, s126, s127, s128, s129, s130, s131, s132, s133, s134, s135, s136, s137, s138, s139, s140, s141, s142, s143, s144, s145, s146, s147, s148, s149, s150, s151, s152, s153, s154, s155, s156, s157, s158, s159, s160, s161, s162, s163, s164, s165, s166, s167, s168, s169, s170, s171, s172, s173, s174, s175, s176, s177, s178, s179, s180, s181, s182, s183, s184, s185, s186, s187, s188, s189, s190, s191, s192, s193, s194], []⟩ wx := by
  obtain ⟨a0, c0, hv0⟩ := own_form' (hx.m.own 0 (by omega))
  obtain ⟨a1, c1, hv1⟩ := own_form' (hx.m.own 1 (by omega))
  obtain ⟨a2, c2, hv2⟩ := own_form' (hx.m.own 2 (by omega))
  obtain ⟨a3, c3, hv3⟩ := own_form' (hx.m.own 3 (by omega))
  obtain ⟨a4, c4, hv4⟩ := own_form' (hx.m.own 4 (by omega))
  simp only [five] at hv0 hv1 hv2 hv3 hv4
  subst hv0 hv1 hv2 hv3 hv4
  have hT := dbl_small hn
  have hsee : HSee wx ⟨a0, a1, a2, a3, a4, c0, c1, c2, c3, c4⟩ (plH n) :=
    ⟨(See.of_own u32Cells_len (hx.m.own 0 (by omega)) (by omega)).1, (See.of_own u32Cells_len (hx.m.own 1 (by omega)) (by omega)).1, (See.of_own linkCells_len (hx.m.own 2 (by omega)) (by omega)).1, (See.of_own u32Cells_len (hx.m.own 3 (by omega)) (by omega)).1, (See.of_own linkCells_len (hx.m.own 4 (by omega)) (by omega)).1,
      fun x hx => by simp [plH] at hx; omega, fun x hx => by simp [plH, frs] at hx; obtain ⟨y, hy, rfl⟩ := hx; have := dU_mono n (show y ≤ n by omega); omega, fun x hx => by simp [plH, frs] at hx; obtain ⟨y, hy, rfl⟩ := hx; have := dU_mono n (show y ≤ n by omega); omega, pl_ok hn, pl_ok hn⟩
  obtain ⟨T, hTe⟩ : ∃ T, dU n n = T := ⟨_, rfl⟩
  have HARC := Lib.hid (arcs_lit ⟨a0, a1, a2, a3, a4, c0, c1, c2, c3, c4⟩ n T wx hsee hn hTe)
  rw [hTe] at hx hT
  have HTE := Lib.hid hTe
  have HD := Lib.hid hd
  have k0 : wx.cell? ⟨G, 0, none⟩ = some (.slice a0 n c0) := hx.m.c5.cell rfl
  have k1 : wx.cell? ⟨G, 1, none⟩ = some (.slice a1 (n + 1) c1) := hx.m.c5.cell rfl
  have k2 : wx.cell? ⟨G, 2, none⟩ = some (.slice a2 T c2) := hx.m.c5.cell rfl
  have k3 : wx.cell? ⟨G, 3, none⟩ = some (.slice a3 (n + 1) c3) := hx.m.c5.cell rfl
  have k4 : wx.cell? ⟨G, 4, none⟩ = some (.slice a4 T c4) := hx.m.c5.cell rfl
  have lG := hx.m.c5.lt
  have HX := Lib.hid hx
  clear hx hd hsee hTe
  conv => arg 2; whnf
  apply wp_seq_k
  intro KK hK
  have HKK := Lib.hid hK
  clear hK
  go_wp2_with fail
  refine HARC.out.mono ?_
  rintro e w1 ⟨ao, cap, rfl, hao, hnew, hb⟩
  have HX1 := Lib.hid (HX.out.kept hb)
  have HAO := Lib.hid hao
  have HNW := Lib.hid hnew
  have HZ := Lib.hid (show G < wx.heap.size from lG)
  clear hao hnew hb k0 k1 k2 k3 k4 lG
  go_wp2_with fail
  go_loopg [118] (T + T) (fun gg vi wr => ∃ i : Nat, vi = .int .i64 i ∧ i ≤ T + T ∧ gg = T + T - i ∧ LAX n G vW vV (five (.slice a0 n c0) (.slice a1 (n + 1) c1) (.slice a2 T c2) (.slice a3 (n + 1) c3) (.slice a4 T c4)) (five n (n + 1) T (n + 1) T) (laX n (frs n) (mix (dblD n).up (plU n) i) (frs n) (mix (dblD n).dn (plU n) (i - T))) w wr ∧ See wr ao cap rendCells 3 (endsOf (plH n)))
  case atStart => exact ⟨0, by go_num, Nat.zero_le _, rfl, by rw [mix_zero, Nat.zero_sub, mix_zero]; exact HX1.out, HAO.out⟩
  case round =>
    obtain ⟨i, rfl, hi, hg, hx, hao⟩ := hrel
    have HG := Lib.hid hg
    have HXR := Lib.hid hx
    have HAR := Lib.hid hao
    have lW := hx.bx.lt
    have lG := hx.m.c5.lt
    clear hg hx hao
    by_cases hil : i < T + T
    · obtain ⟨E, hE⟩ : ∃ E, (endsOf (plH n))[i]? = some E := ⟨_, List.getElem?_eq_getElem (by rw [pl_len, HTE.out]; exact hil)⟩
      obtain ⟨ba, oa, ea, cc⟩ := HAR.out.cell i E hE
      have y0 : wr.cell? ⟨ba, oa + i * 3, none⟩ = some (.int .i64 (E.tail : Int)) := by
        have := cc 0 _ rfl
        rwa [Nat.add_zero] at this
      have y1 : wr.cell? ⟨ba, oa + i * 3 + 1, none⟩ = some (.int .i64 (E.head : Int)) := cc 1 _ rfl
      have y2 : wr.cell? ⟨ba, oa + i * 3 + 2, none⟩ = some (.int .i64 (E.rank : Int)) := cc 2 _ rfl
      have EA := Lib.hid ea
      have HE := Lib.hid hE
      have la := block_lt y0
      have ci := IntWalk.i64_in ((i : Int) + 1) (by omega)
      clear cc ea hE
      rw [EA.out]
      have hkid := kid_of (n := n) (i := i) (by rw [HTE.out]; exact hil)
      have hth : E.tail < n ∧ E.head < n := by
        rcases hkid with ⟨r, j, hr, hj, e⟩ | ⟨r, j, hr, hj, e⟩
        · have := pl_up hr hj
          rw [← e, HE.out] at this
          simp only [Option.some.injEq] at this
          subst this
          exact ⟨hr, by show r + 1 + j < n; omega⟩
        · have := pl_dn hr hj
          rw [← e, HE.out] at this
          simp only [Option.some.injEq] at this
          subst this
          exact ⟨by show r + 1 + j < n; omega, hr⟩
      obtain ⟨ht1, ht2⟩ := hth
      obtain ⟨bV, cV, rfl, -, -⟩ := own_form HD.out.ov (by omega)
      go_upto_region 23 with fail
      obtain ⟨wE, hwE⟩ : ∃ wE, wr.alloc (.cells #[.int .i64 (E.tail : Int), .int .i64 (E.head : Int), .int .i64 (E.rank : Int)] 59) = wE := ⟨_, rfl⟩
      have hbE : Below wr.heap.size wr wE := by rw [← hwE]; exact (Below.refl _ _).alloc (Nat.le_refl _) _
      have hcE : Cells wE wr.heap.size 59 [.int .i64 (E.tail : Int), .int .i64 (E.head : Int), .int .i64 (E.rank : Int)] := by rw [← hwE]; exact Cells.new wr 59 _
      obtain ⟨e, hee⟩ : ∃ e, wr.heap.size = e := ⟨_, rfl⟩
      rw [hwE, hee]
      rw [hee] at hcE
      have HXE := Lib.hid (HXR.out.kept hbE)
      have HAE := Lib.hid (HAR.out.below hbE)
      have e0 : wE.cell? ⟨e, 0, none⟩ = some (.int .i64 (E.tail : Int)) := hcE.cell rfl
      have e1 : wE.cell? ⟨e, 1, none⟩ = some (.int .i64 (E.head : Int)) := hcE.cell rfl
      have le := hcE.lt
      obtain ⟨z4, z5⟩ := HD.out.via HXE.out.b ht1 ht2
      have z3 : wE.cell? ⟨w.heap.size, 1, none⟩ = some (.slice (some ⟨bV, 0, none⟩) n cV) := HXE.out.bx.cell rfl
      have lz3 := block_lt z3
      have lz4 := block_lt z4
      have lz5 := block_lt z5
      have HKD := Lib.hid hkid
      clear hwE hbE hcE y0 y1 y2 la hee hkid
      rcases HKD.out with ⟨r, j, hr, hj, hi1⟩ | ⟨r, j, hr, hj, hi1⟩
      · have hE1 := pl_up hr hj
        rw [← hi1, HE.out] at hE1
        simp only [Option.some.injEq] at hE1
        obtain ⟨tl, htl⟩ : ∃ t, E.tail = t := ⟨_, rfl⟩
        obtain ⟨hd, hhd⟩ : ∃ t, E.head = t := ⟨_, rfl⟩
        have h1 : tl = r := by rw [← htl, hE1]
        have h2 : hd = r + 1 + j := by rw [← hhd, hE1]
        rw [htl] at e0 ht1
        rw [hhd] at ht2
        rw [hhd] at e1
        rw [htl, hhd, show min tl hd = r by omega] at z5
        rw [htl] at z4
        have HTH := Lib.hid (And.intro htl hhd)
        have hiT : i < T := by rw [hi1, ← HTE.out]; exact dU_in hr hj
        have hml : (mix (dblD n).up (plU n) i)[i]? = some (plL n r j) := by rw [mix_get (by rw [up_len, HTE.out]; omega), if_neg (by omega), hi1]; exact plU_get hr hj
        have hms : ∀ x, upL n r j = x → (mix (dblD n).up (plU n) i).set i x = mix (dblD n).up (plU n) (i + 1) := fun x hx => mix_set (by rw [hi1, ← hx]; exact up_get hr hj) (by rw [up_len, plU_len])
        have hmo : mix (dblD n).dn (plU n) (i + 1 - T) = mix (dblD n).dn (plU n) (i - T) := by congr 1; omega
        have hm0 : r = 0 → mix (dblD n).up (plU n) (i + 1) = mix (dblD n).up (plU n) i := fun e => by
          subst e
          refine (mix_same (by rw [up_len, HTE.out]; exact hiT) ?_).symm
          rw [hi1, up_get hr hj, plU_get hr hj]
          rfl
        have HML := Lib.hid (And.intro hml (And.intro hms (And.intro hmo hm0)))
        clear hml hms hmo hm0 hE1 htl hhd hi1
        cases r with
        | zero =>
          rw [show (((0 : Nat) : Int) - 1) = -1 by omega] at z5
          have HQ := Lib.hid (HML.out.2.2.2 rfl)
          clear h1 h2
          go_quiet (fail)
          dsimp only [Exit.then]
          go_wp2_with fail
          rw [← EA.out]
          go_roundg (T + T - (i + 1))
          case measure => rw [HG.out]; omega
          case rel => exact ⟨i + 1, by go_num, by omega, rfl, by rw [HML.out.2.2.1, HQ.out]; exact HXE.out.kept (below_drewN (Below.refl wE.heap.size wE) _), HAE.out.below (below_drewN (Below.refl wE.heap.size wE) _)⟩
        | succ m =>
          rw [show (((m + 1 : Nat) : Int) - 1) = (m : Int) by omega] at z5
          have cmi := IntWalk.i64_in (m : Int) (by omega)
          have qm : decide ((m : Int) < 0) = false := by simp
          have H12 := Lib.hid (And.intro h1 h2)
          clear h1 h2
          go_quiet (fail)
          dsimp only [Exit.then]
          go_wp2_with fail
          obtain ⟨a, ha⟩ : ∃ a, dU n m + (0) = a := ⟨_, rfl⟩
          obtain ⟨b, hb⟩ : ∃ b, dU n m + (j + 1) = b := ⟨_, rfl⟩
          obtain ⟨c, hc⟩ : ∃ c, T + a = c := ⟨_, rfl⟩
          have hbq : Below wE.heap.size wE (wE.drewN nq) := below_drewN (Below.refl wE.heap.size wE) _
          have HXQ := Lib.hid (HXE.out.kept hbq)
          have HAQ := Lib.hid (HAE.out.below hbq)
          have hjm : j < n - 1 - (m + 1) := hj
          change Code.wp _ ((regionAt 25 laBody).getD .skip) _ _ _
          refine laid_kid (n := n) (m := m) (j1 := 0) (j2 := j + 1) (tl := tl) (hd := hd) (a := a) (b := b) (c := c) (T := T) (a1 := a1) (c1 := c1) (a2 := a2) (c2 := c2) (a3 := a3) (c3 := c3) (a4 := a4) (c4 := c4) (lu := mix (dblD n).up (plU n) i) (ld := mix (dblD n).dn (plU n) (i - T)) (HXQ.out.m.c5.cell rfl) (HXQ.out.m.c5.cell rfl) (HXQ.out.m.c5.cell rfl) (HXQ.out.m.c5.cell rfl) (ck hbq e0) (ck hbq e1)
            (See.of_own u32Cells_len (HXQ.out.m.own 1 (by omega)) (by omega)).1 (See.of_own linkCells_len (HXQ.out.m.own 2 (by omega)) (by omega)).1 (See.of_own u32Cells_len (HXQ.out.m.own 3 (by omega)) (by omega)).1 (See.of_own linkCells_len (HXQ.out.m.own 4 (by omega)) (by omega)).1 ((tos_up n).over (tos_pl n)) ((tos_dn n).over (tos_pl n)) HTE.out hn (by omega) (by omega) (by omega) (by have := H12.out.1; omega) (by have := H12.out.2; omega) ha hb hc ?_
          intro t135 t136 t137 t138 t139 t140 t141 t142 t143 t144 t145 t146 t147 t148 t149 t150 t151 t152 t153 t154 t155 W' hbW
          dsimp only [Exit.then]
          have HXW := Lib.hid (HXQ.out.kept hbW)
          have HAW := Lib.hid (HAQ.out.below hbW)
          have HABC := Lib.hid (And.intro ha (And.intro hb hc))
          have k2 : W'.cell? ⟨G, 2, none⟩ = some (.slice a2 T c2) := HXW.out.m.c5.cell rfl
          have k4 : W'.cell? ⟨G, 4, none⟩ = some (.slice a4 T c4) := HXW.out.m.c5.cell rfl
          have lGW := HXW.out.m.c5.lt
          clear ha hb hc hbq hbW
          obtain ⟨g2, cc, hg, -, hgl⟩ := own_form (HXW.out.m.own 2 (by omega)) (show 0 < T by omega)
          simp only [five, Value.slice.injEq] at hg
          obtain ⟨rfl, -, rfl⟩ := hg
          have hgG : g2 ≠ G := (HXW.out.m.ge 2 (by omega) g2 rfl).2
          have hGg : G ≠ g2 := hgG.symm
          have z2 : W'.cell? ⟨g2, i * 4 + 2, none⟩ = some (.int .u32 4294967295) := own_cell (HXW.out.m.own 2 (by omega)) rfl ((link_cell HML.out.1 (j := 2) (by omega)).trans rfl)
          have f2 := own_frozen (HXW.out.m.own 2 (by omega)) (g := g2) rfl (i * 4 + 2)
          go_upto_region 28 with fail
          obtain ⟨wS, hwS⟩ : ∃ wS, W'.setCell ⟨g2, i * 4 + 2, none⟩ (.int .u32 (c : Int)) = wS := ⟨_, rfl⟩
          have HXS := HXW.out.set (i := 2) (g := g2) (j := i * 4 + 2) (by omega) rfl (.int .u32 (c : Int))
          have hOS : Only [g2] W' wS := by rw [← hwS]; exact (Only.refl [g2] W').setCell (p := ⟨g2, i * 4 + 2, none⟩) (by simp) _
          rw [hwS] at HXS ⊢
          have k2' : wS.cell? ⟨G, 2, none⟩ = some (.slice (some ⟨g2, 0, none⟩) T c2) := HXS.m.c5.cell rfl
          have k4' : wS.cell? ⟨G, 4, none⟩ = some (.slice a4 T c4) := HXS.m.c5.cell rfl
          have lGS := HXS.m.c5.lt
          have z3 : wS.cell? ⟨g2, i * 4 + 3, none⟩ = some (.int .u32 4294967295) := by
            refine own_cell (HXS.m.own 2 (by omega)) rfl ?_
            rw [upd_same, List.getElem?_set, if_neg (by omega)]
            exact (link_cell HML.out.1 (j := 3) (by omega)).trans rfl
          have f3 := own_frozen (HXS.m.own 2 (by omega)) (g := g2) rfl (i * 4 + 3)
          have lgS := ((HXS.m.own 2 (by omega)).lt g2 rfl).2
          have HXT := HXS.set (i := 2) (g := g2) (j := i * 4 + 3) (by omega) rfl (.int .u32 (b : Int))
          rw [laX_su HML.out.1] at HXT
          have hfin : upL n (m + 1) j = (⟨(plL n (m + 1) j).to, (plL n (m + 1) j).wt, c, b⟩ : LinkD) := by
            have h1 := HABC.out.1
            have h2 := HABC.out.2.1
            have h3 := HABC.out.2.2
            have h4 := HTE.out
            unfold upL plL
            rw [if_neg (by omega)]
            simp only [LinkD.mk.injEq, Nat.add_sub_cancel, true_and]
            omega
          rw [HML.out.2.1 _ hfin] at HXT
          have HXU := Lib.hid HXT
          have hfr : ∀ b0 o0, ao = some ⟨b0, o0, none⟩ → b0 ∉ [g2] := fun b0 o0 e1 hm => by
            have h1 := HNW.out b0 o0 e1
            have h2 := ((HX.out.m.own 2 (by omega)).lt g2 rfl).2
            simp at hm
            omega
          have HAS := Lib.hid (((HAW.out.kept hOS hfr)).kept ((Only.refl [g2] wS).setCell (p := ⟨g2, i * 4 + 3, none⟩) (by simp) (.int .u32 (b : Int))) hfr)
          clear HXS HXT hOS hwS hfin hfr z2 f2 k2 k4 lGW
          go_wp2_with fail
          rw [← EA.out]
          go_roundg (T + T - (i + 1))
          case measure => rw [HG.out]; omega
          case rel => exact ⟨i + 1, by go_num, by omega, rfl, by rw [HML.out.2.2.1]; exact HXU.out, HAS.out⟩
      · have hE1 := pl_dn hr hj
        rw [← hi1, HE.out] at hE1
        simp only [Option.some.injEq] at hE1
        obtain ⟨tl, htl⟩ : ∃ t, E.tail = t := ⟨_, rfl⟩
        obtain ⟨hd, hhd⟩ : ∃ t, E.head = t := ⟨_, rfl⟩
        have h1 : tl = r + 1 + j := by rw [← htl, hE1]
        have h2 : hd = r := by rw [← hhd, hE1]
        rw [htl] at e0 ht1
        rw [hhd] at ht2
        rw [hhd] at e1
        rw [htl, hhd, show min tl hd = r by omega] at z5
        rw [htl] at z4
        have HTH := Lib.hid (And.intro htl hhd)
        obtain ⟨k, hk⟩ : ∃ k, dU n r + j = k := ⟨_, rfl⟩
        have hkT : k < T := by rw [← hk, ← HTE.out]; exact dU_in hr hj
        have hik : i = T + k := by rw [hi1, HTE.out, hk]
        have hml : (mix (dblD n).dn (plU n) (i - T))[k]? = some (plL n r j) := by rw [show i - T = k by omega, mix_get (by rw [dn_len, HTE.out]; omega), if_neg (by omega), ← hk]; exact plU_get hr hj
        have hms : ∀ x, dnL n r j = x → (mix (dblD n).dn (plU n) (i - T)).set k x = mix (dblD n).dn (plU n) (i + 1 - T) := fun x hx => by
          rw [show i - T = k by omega, show i + 1 - T = k + 1 by omega]
          exact mix_set (by rw [← hk, ← hx]; exact dn_get hr hj) (by rw [dn_len, plU_len])
        have hmo : mix (dblD n).up (plU n) (i + 1) = mix (dblD n).up (plU n) i := by
          rw [mix_over (by rw [up_len, HTE.out]; omega) (by rw [up_len, plU_len]), mix_over (by rw [up_len, HTE.out]; omega) (by rw [up_len, plU_len])]
        have hm0 : r = 0 → mix (dblD n).dn (plU n) (i + 1 - T) = mix (dblD n).dn (plU n) (i - T) := fun e => by
          subst e
          rw [show i - T = k by omega, show i + 1 - T = k + 1 by omega]
          refine (mix_same (by rw [dn_len, HTE.out]; exact hkT) ?_).symm
          rw [← hk, dn_get hr hj, plU_get hr hj]
          rfl
        have HML := Lib.hid (And.intro hml (And.intro hms (And.intro hmo hm0)))
        have HIK := Lib.hid (And.intro hik hk)
        have hiT : ¬ i < T := by omega
        have hiti : (i : Int) - (T : Int) = (k : Int) := by omega
        have cki := IntWalk.i64_in (k : Int) (by omega)
        have qiT : decide ((i : Int) < (T : Int)) = false := by simp; omega
        have qiT2 : decide (i < T) = false := by simp; omega
        clear hml hms hmo hm0 hE1 htl hhd hi1 hik hk
        cases r with
        | zero =>
          rw [show (((0 : Nat) : Int) - 1) = -1 by omega] at z5
          have HQ := Lib.hid (HML.out.2.2.2 rfl)
          clear h1 h2
          go_quiet (fail)
          dsimp only [Exit.then]
          go_wp2_with fail
          rw [← EA.out]
          go_roundg (T + T - (i + 1))
          case measure => rw [HG.out]; omega
          case rel => exact ⟨i + 1, by go_num, by omega, rfl, by rw [HML.out.2.2.1, HQ.out]; exact HXE.out.kept (below_drewN (Below.refl wE.heap.size wE) _), HAE.out.below (below_drewN (Below.refl wE.heap.size wE) _)⟩
        | succ m =>
          rw [show (((m + 1 : Nat) : Int) - 1) = (m : Int) by omega] at z5
          have cmi := IntWalk.i64_in (m : Int) (by omega)
          have qm : decide ((m : Int) < 0) = false := by simp
          have H12 := Lib.hid (And.intro h1 h2)
          clear h1 h2
          go_quiet (fail)
          dsimp only [Exit.then]
          go_wp2_with fail
          obtain ⟨a, ha⟩ : ∃ a, dU n m + (j + 1) = a := ⟨_, rfl⟩
          obtain ⟨b, hb⟩ : ∃ b, dU n m + (0) = b := ⟨_, rfl⟩
          obtain ⟨c, hc⟩ : ∃ c, T + a = c := ⟨_, rfl⟩
          have hbq : Below wE.heap.size wE (wE.drewN nq) := below_drewN (Below.refl wE.heap.size wE) _
          have HXQ := Lib.hid (HXE.out.kept hbq)
          have HAQ := Lib.hid (HAE.out.below hbq)
          have hjm : j < n - 1 - (m + 1) := hj
          change Code.wp _ ((regionAt 25 laBody).getD .skip) _ _ _
          refine laid_kid (n := n) (m := m) (j1 := j + 1) (j2 := 0) (tl := tl) (hd := hd) (a := a) (b := b) (c := c) (T := T) (a1 := a1) (c1 := c1) (a2 := a2) (c2 := c2) (a3 := a3) (c3 := c3) (a4 := a4) (c4 := c4) (lu := mix (dblD n).up (plU n) i) (ld := mix (dblD n).dn (plU n) (i - T)) (HXQ.out.m.c5.cell rfl) (HXQ.out.m.c5.cell rfl) (HXQ.out.m.c5.cell rfl) (HXQ.out.m.c5.cell rfl) (ck hbq e0) (ck hbq e1)
            (See.of_own u32Cells_len (HXQ.out.m.own 1 (by omega)) (by omega)).1 (See.of_own linkCells_len (HXQ.out.m.own 2 (by omega)) (by omega)).1 (See.of_own u32Cells_len (HXQ.out.m.own 3 (by omega)) (by omega)).1 (See.of_own linkCells_len (HXQ.out.m.own 4 (by omega)) (by omega)).1 ((tos_up n).over (tos_pl n)) ((tos_dn n).over (tos_pl n)) HTE.out hn (by omega) (by omega) (by omega) (by have := H12.out.1; omega) (by have := H12.out.2; omega) ha hb hc ?_
          intro t135 t136 t137 t138 t139 t140 t141 t142 t143 t144 t145 t146 t147 t148 t149 t150 t151 t152 t153 t154 t155 W' hbW
          dsimp only [Exit.then]
          have HXW := Lib.hid (HXQ.out.kept hbW)
          have HAW := Lib.hid (HAQ.out.below hbW)
          have HABC := Lib.hid (And.intro ha (And.intro hb hc))
          have k2 : W'.cell? ⟨G, 2, none⟩ = some (.slice a2 T c2) := HXW.out.m.c5.cell rfl
          have k4 : W'.cell? ⟨G, 4, none⟩ = some (.slice a4 T c4) := HXW.out.m.c5.cell rfl
          have lGW := HXW.out.m.c5.lt
          clear ha hb hc hbq hbW
          obtain ⟨g4, cc, hg, -, hgl⟩ := own_form (HXW.out.m.own 4 (by omega)) (show 0 < T by omega)
          simp only [five, Value.slice.injEq] at hg
          obtain ⟨rfl, -, rfl⟩ := hg
          have hgG : g4 ≠ G := (HXW.out.m.ge 4 (by omega) g4 rfl).2
          have hGg : G ≠ g4 := hgG.symm
          have z2 : W'.cell? ⟨g4, k * 4 + 2, none⟩ = some (.int .u32 4294967295) := own_cell (HXW.out.m.own 4 (by omega)) rfl ((link_cell HML.out.1 (j := 2) (by omega)).trans rfl)
          have f2 := own_frozen (HXW.out.m.own 4 (by omega)) (g := g4) rfl (k * 4 + 2)
          go_upto_region 30 with fail
          obtain ⟨wS, hwS⟩ : ∃ wS, W'.setCell ⟨g4, k * 4 + 2, none⟩ (.int .u32 (c : Int)) = wS := ⟨_, rfl⟩
          have HXS := HXW.out.set (i := 4) (g := g4) (j := k * 4 + 2) (by omega) rfl (.int .u32 (c : Int))
          have hOS : Only [g4] W' wS := by rw [← hwS]; exact (Only.refl [g4] W').setCell (p := ⟨g4, k * 4 + 2, none⟩) (by simp) _
          rw [hwS] at HXS ⊢
          have k2' : wS.cell? ⟨G, 2, none⟩ = some (.slice a2 T c2) := HXS.m.c5.cell rfl
          have k4' : wS.cell? ⟨G, 4, none⟩ = some (.slice (some ⟨g4, 0, none⟩) T c4) := HXS.m.c5.cell rfl
          have lGS := HXS.m.c5.lt
          have z3 : wS.cell? ⟨g4, k * 4 + 3, none⟩ = some (.int .u32 4294967295) := by
            refine own_cell (HXS.m.own 4 (by omega)) rfl ?_
            rw [upd_same, List.getElem?_set, if_neg (by omega)]
            exact (link_cell HML.out.1 (j := 3) (by omega)).trans rfl
          have f3 := own_frozen (HXS.m.own 4 (by omega)) (g := g4) rfl (k * 4 + 3)
          have lgS := ((HXS.m.own 4 (by omega)).lt g4 rfl).2
          have HXT := HXS.set (i := 4) (g := g4) (j := k * 4 + 3) (by omega) rfl (.int .u32 (b : Int))
          rw [laX_sd HML.out.1] at HXT
          have hfin : dnL n (m + 1) j = (⟨(plL n (m + 1) j).to, (plL n (m + 1) j).wt, c, b⟩ : LinkD) := by
            have h1 := HABC.out.1
            have h2 := HABC.out.2.1
            have h3 := HABC.out.2.2
            have h4 := HTE.out
            unfold dnL plL
            rw [if_neg (by omega)]
            simp only [LinkD.mk.injEq, Nat.add_sub_cancel, true_and]
            omega
          rw [HML.out.2.1 _ hfin] at HXT
          have HXU := Lib.hid HXT
          have hfr : ∀ b0 o0, ao = some ⟨b0, o0, none⟩ → b0 ∉ [g4] := fun b0 o0 e1 hm => by
            have h1 := HNW.out b0 o0 e1
            have h2 := ((HX.out.m.own 4 (by omega)).lt g4 rfl).2
            simp at hm
            omega
          have HAS := Lib.hid (((HAW.out.kept hOS hfr)).kept ((Only.refl [g4] wS).setCell (p := ⟨g4, k * 4 + 3, none⟩) (by simp) (.int .u32 (b : Int))) hfr)
          clear HXS HXT hOS hwS hfin hfr z2 f2 k2 k4 lGW
          go_wp2_with fail
          rw [← EA.out]
          go_roundg (T + T - (i + 1))
          case measure => rw [HG.out]; omega
          case rel => exact ⟨i + 1, by go_num, by omega, rfl, by rw [HML.out.2.2.1]; exact HXU.out, HAS.out⟩
    · obtain rfl : i = T + T := by omega
      go_wp2_with fail
      refine HKK.out _ _ ?_
      have hm1 : mix (dblD n).up (plU n) (T + T) = (dblD n).up := mix_over (by rw [up_len, HTE.out]; omega) (by rw [up_len, plU_len])
      have hm2 : mix (dblD n).dn (plU n) (T + T - T) = (dblD n).dn := mix_over (by rw [dn_len, HTE.out]; omega) (by rw [dn_len, plU_len])
      rw [hm1, hm2] at HXR
      clear hm1 hm2
      have k0 : wr.cell? ⟨G, 0, none⟩ = some (.slice a0 n c0) := HXR.out.m.c5.cell rfl
      have k1 : wr.cell? ⟨G, 1, none⟩ = some (.slice a1 (n + 1) c1) := HXR.out.m.c5.cell rfl
      have k2 : wr.cell? ⟨G, 2, none⟩ = some (.slice a2 T c2) := HXR.out.m.c5.cell rfl
      have k3 : wr.cell? ⟨G, 3, none⟩ = some (.slice a3 (n + 1) c3) := HXR.out.m.c5.cell rfl
      have k4 : wr.cell? ⟨G, 4, none⟩ = some (.slice a4 T c4) := HXR.out.m.c5.cell rfl
      have r0 : wr.cell? ⟨w.heap.size + 1, 0, none⟩ = some (.slice none 0 0) := HXR.out.rs.cell rfl
      have f0 := HXR.out.rs.frozen 0
      have r1 : wr.cell? ⟨w.heap.size + 1, 1, none⟩ = some (.slice none 0 0) := HXR.out.rs.cell rfl
      have f1 := HXR.out.rs.frozen 1
      have r2 : wr.cell? ⟨w.heap.size + 1, 2, none⟩ = some (.slice none 0 0) := HXR.out.rs.cell rfl
      have f2 := HXR.out.rs.frozen 2
      have r3 : wr.cell? ⟨w.heap.size + 1, 3, none⟩ = some (.slice none 0 0) := HXR.out.rs.cell rfl
      have f3 := HXR.out.rs.frozen 3
      have r4 : wr.cell? ⟨w.heap.size + 1, 4, none⟩ = some (.slice none 0 0) := HXR.out.rs.cell rfl
      have f4 := HXR.out.rs.frozen 4
      have lr := HXR.out.rs.lt
      go_wp2_with fail
      refine bodyPost_ret (results_e rfl _ _ (w.heap.size + 1) 25 [.slice a0 n c0, .slice a1 (n + 1) c1, .slice a2 T c2, .slice a3 (n + 1) c3, .slice a4 T c4] _ rfl (((((HXR.out.rs.set 0 _).set 1 _).set 2 _).set 3 _).set 4 _) Tryz.underlying25 rfl (by rw [Tryz.sizeHierX]; rfl)) rfl ?_
      obtain ⟨wy, hwy⟩ : ∃ wy, (((((wr.setCell ⟨w.heap.size + 1, 0, none⟩ (.slice a0 n c0)).setCell ⟨w.heap.size + 1, 1, none⟩ (.slice a1 (n + 1) c1)).setCell ⟨w.heap.size + 1, 2, none⟩ (.slice a2 T c2)).setCell ⟨w.heap.size + 1, 3, none⟩ (.slice a3 (n + 1) c3)).setCell ⟨w.heap.size + 1, 4, none⟩ (.slice a4 T c4)) = wy := ⟨_, rfl⟩
      have hOy : Only [w.heap.size + 1] wr wy := by
        rw [← hwy]
        exact ((((((Only.refl [w.heap.size + 1] wr).setCell (p := ⟨w.heap.size + 1, 0, none⟩) (by simp) _).setCell (p := ⟨w.heap.size + 1, 1, none⟩) (by simp) _).setCell (p := ⟨w.heap.size + 1, 2, none⟩) (by simp) _).setCell (p := ⟨w.heap.size + 1, 3, none⟩) (by simp) _).setCell (p := ⟨w.heap.size + 1, 4, none⟩) (by simp) _)
      rw [hwy]
      have hge : ∀ (k : Nat) (a : Option Addr) (cp nn : Nat), k < 5 → (five (.slice a0 n c0) (.slice a1 (n + 1) c1) (.slice a2 T c2) (.slice a3 (n + 1) c3) (.slice a4 T c4) k : Value) = .slice a nn cp → ∀ b o, a = some ⟨b, o, none⟩ → w.heap.size + 2 ≤ b := fun k a cp nn hk e b o ea => (HXR.out.m.ge k hk b (by rw [e, ea]; rfl)).1
      have hh : HSee wr ⟨a0, a1, a2, a3, a4, c0, c1, c2, c3, c4⟩ (dblD n) :=
        ⟨(See.of_own u32Cells_len (HXR.out.m.own 0 (by omega)) (by omega)).1, (See.of_own u32Cells_len (HXR.out.m.own 1 (by omega)) (by omega)).1, (See.of_own linkCells_len (HXR.out.m.own 2 (by omega)) (by omega)).1, (See.of_own u32Cells_len (HXR.out.m.own 3 (by omega)) (by omega)).1, (See.of_own linkCells_len (HXR.out.m.own 4 (by omega)) (by omega)).1,
          fun x hx => by simp [dblD] at hx; omega, fun x hx => by simp [dblD] at hx; obtain ⟨y, hy, rfl⟩ := hx; have := dU_mono n (show y ≤ n by omega); have := HTE.out; omega, fun x hx => by simp [dblD] at hx; obtain ⟨y, hy, rfl⟩ := hx; have := dU_mono n (show y ≤ n by omega); have := HTE.out; omega, (dbl_ok hn).1, (dbl_ok hn).2⟩
      have hall : ∀ a ∈ [a0, a1, a2, a3, a4], ∀ b o, a = some ⟨b, o, none⟩ → w.heap.size + 2 ≤ b := by
        intro a ha b o e
        simp only [List.mem_cons, List.not_mem_nil, or_false] at ha
        rcases ha with rfl | rfl | rfl | rfl | rfl
        · exact hge 0 _ c0 n (by omega) rfl b o e
        · exact hge 1 _ c1 (n + 1) (by omega) rfl b o e
        · exact hge 2 _ c2 T (by omega) rfl b o e
        · exact hge 3 _ c3 (n + 1) (by omega) rfl b o e
        · exact hge 4 _ c4 T (by omega) rfl b o e
      refine ⟨⟨a0, a1, a2, a3, a4, c0, c1, c2, c3, c4⟩, ?_, hh.kept hOy (fun a ha b o e hm => ?_), ?_, fun a ha b o e => by have := hall a ha b o e; omega, HXR.out.b.trans (hOy.below (B := w.heap.size) (by omega) (fun x hx => by simp at hx; omega))⟩
      · have e0 : (dblD n).node.length = n := by simp [dblD]
        have e1 : (dblD n).upF.length = n + 1 := by simp [dblD]
        have e2 : (dblD n).up.length = T := by rw [up_len, HTE.out]
        have e3 : (dblD n).dnF.length = n + 1 := by simp [dblD]
        have e4 : (dblD n).dn.length = T := by rw [dn_len, HTE.out]
        unfold hierVal
        rw [e0, e1, e2, e3, e4]
      · have := hall a ha b o e
        simp at hm
        omega
      · exact ⟨own_form2 (HXR.out.m.own 0 (by omega)), own_form2 (HXR.out.m.own 1 (by omega)), own_form2 (HXR.out.m.own 2 (by omega)), own_form2 (HXR.out.m.own 3 (by omega)), own_form2 (HXR.out.m.own 4 (by omega))⟩
end Go.Proofs.YtchhbgckonpedaaGreatDoor
