/- viaductref10.Laid: the rows of links. -/
import Derived.Test.YtchhbgckonpedaaGreatDoorG43
import Derived.Test.YtchhbgckonpedaaGreatDoorG40
import Derived.Test.YtchhbgckonpedaaGreatDoorG39
import Derived.Test.YtchhbgckonpedaaGreatDoorG37
namespace Go.Proofs.YtchhbgckonpedaaGreatDoor
open Go.ChangeShapes Go.WideShapes Go.ChangeAt Go.RowKit Go.Joins Go.Deep
theorem DWir.read {w w' : World} {B n : Nat} {p q : Nat → Nat} {bW cW : Nat} {vV : Value} (h : DWir w B n n p q (.slice (some ⟨bW, 0, none⟩) n cW) vV) (b : Below w.heap.size w w') {r x : Nat} (hr : r < n) (hx : x < n) (hne : x ≠ r) :
    w'.cell? ⟨bW, r, none⟩ = some (.slice (some ⟨p r, 0, none⟩) n n) ∧ w'.cell? ⟨p r, x, none⟩ = some (.int .u64 0) ∧ bW < w.heap.size ∧ p r < w.heap.size :=
  ⟨ck b (own_cell h.ow rfl (rowS_get hr)), ck b ((h.cw r hr).cell (wRow_get hx hne)), (h.ow.lt bW rfl).2, (h.cw r hr).lt⟩
set_option linter.unusedSimpArgs false in
set_option maxRecDepth 100000 in
set_option maxHeartbeats 8000000 in
theorem laid_rows {s3 s7 s8 s9 s10 s11 s12 s13 s14 s15 s16 s17 s18 s19 s20 s21 s22 s23 s24 s25 s26 s27 s28 s29 s30 s31 s32 s33 s34 s35 s36 s37 s38 s39 s40 s41 s42 s43 s44 s45 s46 s47 s48 s49 s50 s51 s52 s53 s54 s55 s56 s57 s58 s59 s60 s61 s62 s63 s64 s65 s66 s67 s68 s69 s70 s71 s72 s73 s74 s75 s76 s77 s78 s79 s80 s81 s82 s83 s84 s85 s86 s87 s88 s89 s90 s91 s92 s93 s94 s95 s96 s97 s98 s99 s100 s101 s102 s103 s104 s105 s106 s107 s108 s109 s110 s111 s112 s113 s114 s115 s116 s117 s118 s119 s120 s121 s122 s123 s124 s125 s126 s127 s128 s129 s130 s131 s132 s133 s134 s135 s136 s137 s138 s139 s140 s141 s142 s143 s144 s145 s146 s147 s148 s149 s150 s151 s152 s153 s154 s155 s156 s157 s158 s159 s160 s161 s162 s163 s164 s165 s166 s167 s168 s169 s170 s171 s172 s173 s174 s175 s176 s177 s178 s179 s180 s181 s182 s183 s184 s185 s186 s187 s188 s189 s190 s191 s192 s193 s194 : Value} {n G B0 lc : Nat} {lo : Option Addr} {p q : Nat → Nat} {vW vV v0 v1 v2 v3 v4 : Value} {w wx : World} (hn : n ≤ 256) (hd : DWir w B0 n n p q vW vV) (hx : LAX n G vW vV (five v0 v1 v2 v3 v4) (five n 1 0 1 0) (laX n [0] [] [0] []) w wx) :
    Code.wp Tryz.prog (tailAt 4 laBody) (bodyPost Tryz.prog Tryz.f58 (LaidNew n w)) ⟨#[.agg #[vW, vV], .slice lo n lc, .pointer (some ⟨w.heap.size, 0, none⟩), s3, .pointer (some ⟨(w.heap.size + 1), 0, none⟩), .int .i64 (n : Int), .pointer (some ⟨G, 0, none⟩), s7, s8, s9, s10, s11, s12, s13, s14, s15, s16, s17, s18, s19, s20, s21, s22, s23, s24, s25, s26, s27, s28, s29, s30, s31, s32, s33, s34, s35, s36, s37, s38, s39, s40, s41, s42, s43, s44, s45, s46, s47, s48, s49, s50, s51, s52, s53, s54, s55, s56, s57, s58, s59, s60, s61, s62, s63, s64, s65, s66, s67, s68, s69, s70, s71, s72, s73, s74, s75, s76, s77, s78, s79, s80, s81, s82, s83, s84, s85, s86, s87, s88, s89, s90, s91, s92, s93, s94, s95, s96, s97, s98, s99, s100, s101, s102, s103, s104, s105, s106, s107, s108, s109, s110, s111, s112, s113, s114, s115, s116, s117, s118, s119, s120, s121, s122, s123, s124, s125, s126, s127, s128, s129, s130, s131, s132, s133, s134, s135, s136, s137, s138, s139, s140, s141, s142, s143, s144, s145, s146, s147, s148, s149, s150, s151, s152, s153, s154, s155, s156, s157, s158, s159, s160, s161, s162, s163, s164, s165, s166, s167, s168, s169, s170, s171, s172, s173, s174, s175, s176, s177, s178, s179, s180, s181, s182, s183, s184, s185, s186, s187, s188, s189, s190, s191, s192, s193, s194], []⟩ wx := by
  have HD := Lib.hid hd
  have HX0 := Lib.hid hx
  clear hd hx
  conv => arg 2; whnf
  apply wp_seq_k
  intro KK hK
  have HKK := Lib.hid hK
  clear hK
  go_wp2_with fail
  go_loopg [9] n (fun gg vr wr => ∃ (r : Nat) (v1 v2 v3 v4 : Value), vr = .int .i64 r ∧ r ≤ n ∧ gg = n - r ∧ LAX n G vW vV (five v0 v1 v2 v3 v4) (five n (r + 1) (dU n r) (r + 1) (dU n r)) (laX n (frS n r) (linkS n r 0) (frS n r) (linkS n r 0)) w wr)
  case atStart => exact ⟨0, v1, v2, v3, v4, rfl, Nat.zero_le _, rfl, HX0.out⟩
  case round =>
    obtain ⟨r, v1, v2, v3, v4, rfl, hr, hg, hx⟩ := hrel
    obtain ⟨wo, rfl⟩ : ∃ wo, wo = wr := ⟨_, rfl⟩
    have HG := Lib.hid hg
    have HX := Lib.hid hx
    clear hg hx
    by_cases hrn : r < n
    · obtain ⟨bW, cW, rfl, -, -⟩ := own_form HD.out.ow (by omega)
      have cr := IntWalk.i64_in ((r : Int) + 1) (by omega)
      go_wp2_with fail
      go_loopg [10] (n - (r + 1)) (fun gg vx wr => ∃ (x j : Nat) (v2 v4 : Value), vx = .int .i64 x ∧ x = r + 1 + j ∧ x ≤ n ∧ gg = n - x ∧ LAX n G (.slice (some ⟨bW, 0, none⟩) n cW) vV (five v0 v1 v2 v3 v4) (five n (r + 1) (dU n r + j) (r + 1) (dU n r + j)) (laX n (frS n r) (linkS n r j) (frS n r) (linkS n r j)) w wr)
      case atStart => exact ⟨r + 1, 0, v2, v4, by go_num, rfl, by omega, rfl, HX.out⟩
      case round =>
        obtain ⟨x, j, v2, v4, rfl, hxj, hxn', hgx, hx⟩ := hrel
        have HGX := Lib.hid hgx
        have HXJ := Lib.hid hxj
        obtain ⟨M, hM⟩ : ∃ M, dU n r + j = M := ⟨_, rfl⟩
        rw [hM] at hx
        have HM := Lib.hid hM
        have HX1 := Lib.hid hx
        have hMb : M ≤ 1048576 := by
          have h1 := dbl_small hn
          have h2 := dU_mono n (show r + 1 ≤ n by omega)
          simp only [dU] at h2
          omega
        clear hgx hxj hM hx
        by_cases hxn : x < n
        · obtain ⟨ao2, cap2, hv2⟩ := own_form' (HX1.out.m.own 2 (by omega))
          obtain ⟨ao4, cap4, hv4⟩ := own_form' (HX1.out.m.own 4 (by omega))
          simp only [five] at hv2 hv4
          subst hv2 hv4
          have hrx : x ≠ r := by have := HXJ.out; omega
          obtain ⟨y1, y2, lbW, lpr⟩ := HD.out.read HX1.out.b hrn hxn hrx
          obtain ⟨y3, y4, -, lpx⟩ := HD.out.read HX1.out.b hxn hrn hrx.symm
          have y0 : wr.cell? ⟨w.heap.size, 0, none⟩ = some (.slice (some ⟨bW, 0, none⟩) n cW) := HX1.out.bx.cell rfl
          have lW := HX1.out.bx.lt
          have ly1 := block_lt y1
          have ly2 := block_lt y2
          have ly3 := block_lt y3
          have ly4 := block_lt y4
          have cx := IntWalk.i64_in ((x : Int) + 1) (by omega)
          go_wp2_with fail
          change Code.wp _ ((regionAt 15 laBody).getD .skip) _ _ _
          refine laid_app15 (ao := ao2) (cap := cap2) y0 y1 y2 HX1.out.m.c5 rfl hrn hxn hn hMb (HX1.out.m.own 2 (by omega)) (fun hm => (HX1.out.m.ge 2 (by omega) G (own_mem hm)).2 rfl) ⟨fun hm => ?_, fun hm => ?_, fun hm => ?_⟩ ⟨?_, ?_, ?_⟩ (fun _ _ t _ _ hq => by cases t <;> exact hq) ?_
          · have := (HX1.out.m.ge 2 (by omega) _ (own_mem hm)).1; omega
          · have := (HX1.out.m.ge 2 (by omega) _ (own_mem hm)).1; omega
          · have := (HX1.out.m.ge 2 (by omega) _ (own_mem hm)).1; omega
          · have := HX1.out.m.bg; omega
          · have := HX1.out.m.bg; omega
          · have := HX1.out.m.bg; omega
          intro aoN2 capN2 w25 t56 t57 t58 t59 t60 t61 t62 t63 t64 t65 t66 t67 t68 t69 t70 t71 hown ho hk hc
          have HN := HX1.out.app (i := 2) (m := 1) (by omega) ho hown hk
          rw [show upd (five v0 v1 (.slice ao2 M cap2) v3 (.slice ao4 M cap4)) 2 (.slice aoN2 (M + 1) capN2) = five v0 v1 (.slice aoN2 (M + 1) capN2) v3 (.slice ao4 M cap4) from upd_five2 _ _ _ _ _ _, show upd (five n (r + 1) M (r + 1) M) 2 (five n (r + 1) M (r + 1) M 2 + 1) = five n (r + 1) (M + 1) (r + 1) M from upd_five2 _ _ _ _ _ _, show upd (laX n (frS n r) (linkS n r j) (frS n r) (linkS n r j)) 2 (laX n (frS n r) (linkS n r j) (frS n r) (linkS n r j) 2 ++ [.int .u32 (x : Int), .int .u64 0, .int .u32 4294967295, .int .u32 4294967295]) = laX n (frS n r) (linkS n r (j + 1)) (frS n r) (linkS n r j) by unfold laX; rw [upd_five2]; congr 1; rw [linkS_snoc, List.flatMap_append, HXJ.out]; rfl] at HN
          have HX2 := Lib.hid HN
          clear hown ho hk hc HN
          dsimp only [Exit.then]
          obtain ⟨y1, y2, -, -⟩ := HD.out.read HX2.out.b hrn hxn hrx
          obtain ⟨y3, y4, -, -⟩ := HD.out.read HX2.out.b hxn hrn hrx.symm
          have y0 : (w25.setCell ⟨G, 2, none⟩ (.slice aoN2 (M + 1) capN2)).cell? ⟨w.heap.size, 0, none⟩ = some (.slice (some ⟨bW, 0, none⟩) n cW) := HX2.out.bx.cell rfl
          obtain ⟨wm, hwm⟩ : ∃ wm, w25.setCell ⟨G, 2, none⟩ (.slice aoN2 (M + 1) capN2) = wm := ⟨_, rfl⟩
          rw [hwm] at y0 y1 y2 y3 y4 HX2 ⊢
          have lW := HX2.out.bx.lt
          have ly1 := block_lt y1
          have ly2 := block_lt y2
          have ly3 := block_lt y3
          have ly4 := block_lt y4
          clear hwm
          go_wp2_with fail
          change Code.wp _ ((regionAt 17 laBody).getD .skip) _ _ _
          refine laid_app17 (ao := ao4) (cap := cap4) y0 y3 y4 HX2.out.m.c5 rfl hrn hxn hn hMb (HX2.out.m.own 4 (by omega)) (fun hm => (HX2.out.m.ge 4 (by omega) G (own_mem hm)).2 rfl) ⟨fun hm => ?_, fun hm => ?_, fun hm => ?_⟩ ⟨?_, ?_, ?_⟩ (fun _ _ t _ _ hq => by cases t <;> exact hq) ?_
          · have := (HX2.out.m.ge 4 (by omega) _ (own_mem hm)).1; omega
          · have := (HX2.out.m.ge 4 (by omega) _ (own_mem hm)).1; omega
          · have := (HX2.out.m.ge 4 (by omega) _ (own_mem hm)).1; omega
          · have := HX2.out.m.bg; omega
          · have := HX2.out.m.bg; omega
          · have := HX2.out.m.bg; omega
          intro aoN4 capN4 w45 t81 t82 t83 t84 t85 t86 t87 t88 t89 t90 t91 t92 t93 t94 t95 t96 hown ho hk hc
          have HN := HX2.out.app (i := 4) (m := 1) (by omega) ho hown hk
          rw [show upd (five v0 v1 (.slice aoN2 (M + 1) capN2) v3 (.slice ao4 M cap4)) 4 (.slice aoN4 (M + 1) capN4) = five v0 v1 (.slice aoN2 (M + 1) capN2) v3 (.slice aoN4 (M + 1) capN4) from upd_five4 _ _ _ _ _ _, show upd (five n (r + 1) (M + 1) (r + 1) M) 4 (five n (r + 1) (M + 1) (r + 1) M 4 + 1) = five n (r + 1) (M + 1) (r + 1) (M + 1) from upd_five4 _ _ _ _ _ _, show ([.int .u32 (x : Int), .int .u64 0, .int .u32 4294967295, .int .u32 4294967295] : List Value) = linkCells (plL n r j) by rw [HXJ.out]; rfl, laX_d, ← linkS_snoc] at HN
          have HX4 := Lib.hid HN
          clear hown ho hk hc HN
          dsimp only [Exit.then]
          go_wp2_with fail
          go_roundg (n - (x + 1))
          case measure => rw [HGX.out]; omega
          case rel => exact ⟨x + 1, j + 1, _, _, by go_num, by have := HXJ.out; omega, by omega, rfl, by rw [show dU n r + (j + 1) = M + 1 by rw [← HM.out]; omega]; exact HX4.out⟩
        · obtain rfl : x = n := by omega
          have e2 : M = dU x (r + 1) := by rw [← HM.out]; simp only [dU]; have := HXJ.out; omega
          have e3 : linkS x r j = linkS x (r + 1) 0 := by rw [← linkS_row]; congr 1; have := HXJ.out; omega
          rw [e3] at HX1
          have E2 := Lib.hid e2
          clear e2 e3
          obtain ⟨ao2, cap2, hv2⟩ := own_form' (HX1.out.m.own 2 (by omega))
          obtain ⟨ao4, cap4, hv4⟩ := own_form' (HX1.out.m.own 4 (by omega))
          simp only [five] at hv2 hv4
          subst hv2 hv4
          have x1 : wr.cell? ⟨G, 1, none⟩ = some v1 := HX1.out.m.c5.cell rfl
          have x2 : wr.cell? ⟨G, 2, none⟩ = some (.slice ao2 M cap2) := HX1.out.m.c5.cell rfl
          have lG := HX1.out.m.c5.lt
          have cM := IntWalk.u32_in (M : Int) (by omega)
          have how := HX1.out.m.own 1 (by omega)
          go_wp2_with (at_builtin; refine wpList_app _ rfl _ _ 22 rfl 62 (.int .u32 0) 1 4 Tryz.underlying22 Tryz.infoU32 rfl (by decide) v1 (r + 1) ((frS x r).flatMap u32Cells) rfl ?own ⟨wr.heap.size, 0, none⟩ 1 1 [.int .u32 (M : Int)] rfl rfl ?c1 ?c2 ?c3 ?c4 ?_)
          case own => exact own_kept (bs := []) how ((Only.refl _ wr).alloc _) (fun q _ => by simp)
          case c1 => exact cells_new wr 62 [.int .u32 (M : Int)]
          case c2 => intro u hu; simp at hu; subst hu; rfl
          case c3 => unfold maxLen; omega
          case c4 => omega
          intro ao6 cap6 w6 hown ho hk
          have hO : Only v1.ownBlock.toList wr w6 := ((Only.refl _ wr).alloc _).trans ho (fun q hq => .inl hq)
          have hc := HX1.out.m.c5.kept hO (fun hm => (HX1.out.m.ge 1 (by omega) G (own_mem hm)).2 rfl)
          have g1 : w6.cell? ⟨G, 1, none⟩ = some v1 := hc.cell rfl
          have f1 := hc.frozen 1
          have l5 := hc.lt
          have HN := HX1.out.app (i := 1) (m := 1) (by omega) hO hown (fun q hq => (hk q hq).imp id (fun h => Nat.le_trans (by simp) h))
          rw [show upd (five v0 v1 (.slice ao2 M cap2) v3 (.slice ao4 M cap4)) 1 (.slice ao6 (r + 1 + 1) cap6) = five v0 (.slice ao6 (r + 1 + 1) cap6) (.slice ao2 M cap2) v3 (.slice ao4 M cap4) from upd_five1 _ _ _ _ _ _, show upd (five x (r + 1) M (r + 1) M) 1 (five x (r + 1) M (r + 1) M 1 + 1) = five x (r + 1 + 1) M (r + 1) M from upd_five1 _ _ _ _ _ _, laX_f, show frS x r ++ [M] = frS x (r + 1) by rw [E2.out]; exact (frS_snoc x r).symm] at HN
          have HX6 := Lib.hid HN
          clear hown ho hk hO hc HN how
          clear x1 x2 lG
          go_upto_region 19 with fail
          obtain ⟨wm, hwm⟩ : ∃ wm, w6.setCell ⟨G, 1, none⟩ (.slice ao6 (r + 1 + 1) cap6) = wm := ⟨_, rfl⟩
          rw [hwm] at HX6 ⊢
          have x3 : wm.cell? ⟨G, 3, none⟩ = some v3 := HX6.out.m.c5.cell rfl
          have x4 : wm.cell? ⟨G, 4, none⟩ = some (.slice ao4 M cap4) := HX6.out.m.c5.cell rfl
          have lG := HX6.out.m.c5.lt
          have how := HX6.out.m.own 3 (by omega)
          clear hwm g1 f1 l5
          go_wp2_with (at_builtin; refine wpList_app _ rfl _ _ 22 rfl 62 (.int .u32 0) 1 4 Tryz.underlying22 Tryz.infoU32 rfl (by decide) v3 (r + 1) ((frS x r).flatMap u32Cells) rfl ?own ⟨wm.heap.size, 0, none⟩ 1 1 [.int .u32 (M : Int)] rfl rfl ?c1 ?c2 ?c3 ?c4 ?_)
          case own => exact own_kept (bs := []) how ((Only.refl _ wm).alloc _) (fun q _ => by simp)
          case c1 => exact cells_new wm 62 [.int .u32 (M : Int)]
          case c2 => intro u hu; simp at hu; subst hu; rfl
          case c3 => unfold maxLen; omega
          case c4 => omega
          intro ao8 cap8 w8 hown ho hk
          have hO : Only v3.ownBlock.toList wm w8 := ((Only.refl _ wm).alloc _).trans ho (fun q hq => .inl hq)
          have hc := HX6.out.m.c5.kept hO (fun hm => (HX6.out.m.ge 3 (by omega) G (own_mem hm)).2 rfl)
          have g1 : w8.cell? ⟨G, 3, none⟩ = some v3 := hc.cell rfl
          have f1 := hc.frozen 3
          have l5 := hc.lt
          have HN := HX6.out.app (i := 3) (m := 1) (by omega) hO hown (fun q hq => (hk q hq).imp id (fun h => Nat.le_trans (by simp) h))
          rw [show upd (five v0 (.slice ao6 (r + 1 + 1) cap6) (.slice ao2 M cap2) v3 (.slice ao4 M cap4)) 3 (.slice ao8 (r + 1 + 1) cap8) = five v0 (.slice ao6 (r + 1 + 1) cap6) (.slice ao2 M cap2) (.slice ao8 (r + 1 + 1) cap8) (.slice ao4 M cap4) from upd_five3 _ _ _ _ _ _, show upd (five x (r + 1 + 1) M (r + 1) M) 3 (five x (r + 1 + 1) M (r + 1) M 3 + 1) = five x (r + 1 + 1) M (r + 1 + 1) M from upd_five3 _ _ _ _ _ _, laX_g, show frS x r ++ [M] = frS x (r + 1) by rw [E2.out]; exact (frS_snoc x r).symm] at HN
          have HX8 := Lib.hid HN
          clear hown ho hk hO hc HN how
          clear x3 x4 lG
          go_wp2_with fail
          go_roundg (x - (r + 1))
          case measure => rw [HG.out]; omega
          case rel => exact ⟨r + 1, _, _, _, _, by go_num, by omega, rfl, by rw [← E2.out]; exact HX8.out⟩
    · obtain rfl : r = n := by omega
      go_wp2_with fail
      refine HKK.out _ _ ?_
      change Code.wp _ (tailAt 5 laBody) _ _ _
      have HF := HX.out
      rw [linkS_all] at HF
      exact laid_kids hn HD.out HF
set_option linter.unusedSimpArgs false in
set_option maxRecDepth 100000 in
set_option maxHeartbeats 8000000 in
theorem laid_any (n : Nat) (vW vV : Value) (p q : Nat → Nat) (B0 : Nat) (lo : Option Addr) (lc : Nat) (w : World) (hn : n ≤ 256) (hd : DWir w B0 n n p q vW vV) (sl : See w lo lc i64Cells 1 (List.range n)) :
    Calls Tryz.prog 58 #[.agg #[vW, vV], .slice lo n lc] w (LaidNew n w) := by
  have HD := Lib.hid hd
  have SL := Lib.hid sl
  clear hd sl
  go_enter Tryz.func58, Tryz.ntmps58
  apply wp_seq_k
  intro K0 hK
  have HK0 := Lib.hid hK
  clear hK
  go_wp2_with fail
  refine HK0.out _ _ ?_
  clear HK0
  apply wp_seq_k
  intro K0 hK
  have HK0 := Lib.hid hK
  clear hK
  go_wp2_with fail
  refine HK0.out _ _ ?_
  clear HK0
  apply wp_seq_k
  intro K0 hK
  have HK0 := Lib.hid hK
  clear hK
  go_wp2_with fail
  refine HK0.out _ _ ?_
  clear HK0
  obtain ⟨G, hG⟩ : ∃ G, G = w.heap.size + 4 := ⟨_, rfl⟩
  rw [show w.heap.size + 1 + 1 + 1 + 1 = G by omega]
  have HS := Lib.hid (lax_start n G vW vV w hG)
  obtain ⟨wa, hwa⟩ : ∃ wa, laW w vW vV = wa := ⟨_, rfl⟩
  rw [hwa] at HS
  change Code.wp _ _ _ _ (laW w vW vV)
  rw [hwa]
  have HGd := Lib.hid hG
  clear hwa hG
  apply wp_seq_k
  intro KK hK
  have HKK := Lib.hid hK
  clear hK
  go_wp2_with fail
  go_loopg [23] n (fun gg vi wr => ∃ (k : Nat) (v0 : Value), vi = .int .i64 k ∧ k ≤ n ∧ gg = n - k ∧ LAX n G vW vV (five v0 (.slice (some ⟨w.heap.size + 1 + 1, 0, none⟩) 1 1) (.slice none 0 0) (.slice (some ⟨w.heap.size + 1 + 1 + 1, 0, none⟩) 1 1) (.slice none 0 0)) (five k 1 0 1 0) (laX k [0] [] [0] []) w wr)
  case atStart => exact ⟨0, .slice none 0 0, rfl, Nat.zero_le _, rfl, HS.out⟩
  case round =>
    obtain ⟨k, v0, rfl, hk, hg, hx⟩ := hrel
    have HG := Lib.hid hg
    have HX := Lib.hid hx
    have k0 : wr.cell? ⟨G, 0, none⟩ = some v0 := hx.m.c5.cell rfl
    have lG := hx.m.c5.lt
    clear hg hx
    by_cases hkn : k < n
    · obtain ⟨b, o, eo, cc⟩ := SL.out.cell k k (List.getElem?_range hkn)
      have e0 := ck HX.out.b (cc 0 _ rfl)
      rw [Nat.add_zero, Nat.mul_one] at e0
      have EO := Lib.hid eo
      have ck0 := IntWalk.u32_in (k : Int) (by omega)
      have ck1 := IntWalk.i64_in ((k : Int) + 1) (by omega)
      clear cc eo
      rw [EO.out]
      go_upto_region 6 with fail
      have how := HX.out.m.own 0 (by omega)
      go_wp2_with (at_builtin; refine wpList_app _ rfl _ _ 22 rfl 62 (.int .u32 0) 1 4 Tryz.underlying22 Tryz.infoU32 rfl (by decide) v0 k ((List.range k).flatMap u32Cells) rfl ?own ⟨wr.heap.size, 0, none⟩ 1 1 [.int .u32 (k : Int)] rfl rfl ?c1 ?c2 ?c3 ?c4 ?_)
      case own => exact own_kept (bs := []) how ((Only.refl _ wr).alloc _) (fun q _ => by simp)
      case c1 => exact cells_new wr 62 [.int .u32 (k : Int)]
      case c2 => intro u hu; simp at hu; subst hu; rfl
      case c3 => unfold maxLen; omega
      case c4 => omega
      intro ao5 cap5 w5 hown5 ho5 hk5
      have hO5 : Only v0.ownBlock.toList wr w5 := ((Only.refl _ wr).alloc _).trans ho5 (fun q hq => .inl hq)
      have hc5 : Cells w5 G 25 [v0, .slice (some ⟨w.heap.size + 1 + 1, 0, none⟩) 1 1, .slice none 0 0, .slice (some ⟨w.heap.size + 1 + 1 + 1, 0, none⟩) 1 1, .slice none 0 0] := HX.out.m.c5.kept hO5 (fun hm => (HX.out.m.ge 0 (by omega) G (own_mem hm)).2 rfl)
      have g0 : w5.cell? ⟨G, 0, none⟩ = some v0 := hc5.cell rfl
      have f0 := hc5.frozen 0
      have l5 := hc5.lt
      have HN := HX.out.app (i := 0) (m := 1) (by omega) hO5 hown5 (fun q hq => (hk5 q hq).imp id (fun h => Nat.le_trans (by simp) h))
      rw [upd_five0, show upd (five k 1 0 1 0) 0 (five k 1 0 1 0 0 + 1) = five (k + 1) 1 0 1 0 from upd_five0 _ _ _ _ _ _, show upd (laX k [0] [] [0] []) 0 (laX k [0] [] [0] [] 0 ++ [.int .u32 (k : Int)]) = laX (k + 1) [0] [] [0] [] by unfold laX; rw [upd_five0]; congr 1; rw [List.range_succ, List.flatMap_append]; rfl] at HN
      have HNN := Lib.hid HN
      clear hown5 ho5 hk5 hO5 hc5 HN how e0
      go_wp2_with fail
      rw [← EO.out]
      go_roundg (n - (k + 1))
      case measure => rw [HG.out]; omega
      case rel => exact ⟨k + 1, _, by go_num, by omega, rfl, HNN.out⟩
    · obtain rfl : k = n := by omega
      go_wp2_with fail
      refine HKK.out _ _ ?_
      change Code.wp _ (tailAt 4 laBody) _ _ _
      exact laid_rows hn HD.out HX.out
theorem doubled_ok (n : Nat) (w : World) (hn : n ≤ 256) : Calls Tryz.prog 31 #[.int .i64 (n : Int)] w (LaidNew n w) :=
  doubled_any n w hn fun vW vV p q lo lc wx hd sl => laid_any n vW vV p q (w.heap.size + 2) lo lc wx hn hd sl
structure DUF (n r x i : Nat) (h : HierD) : Prop where
  small : h.up.length + h.dn.length ≤ 131072
  first : h.upF[r]? = some (dU n r) ∧ dU n r ≤ 65536
  is : i = dU n r + (x - r - 1)
  lt : i ≤ 65536
  long : 17 < r → linksRes h (i : Int) = ([], .code 2) ∧ nodesRes h (i : Int) = ([], .code 2)
  short : r ≤ 17 → ∃ ls ns : List Nat, linksRes h (i : Int) = (ls, .nil) ∧ nodesRes h (i : Int) = (ns, .nil) ∧ ls.length = 2 ^ r ∧ ns.length = 2 ^ r + 1 ∧ ns[0]? = some r ∧ ns[2 ^ r]? = some x
  plainly : ∀ (A : HA) (s t : Nat), PlainlyOk A h s t
  meet : ∀ (rr : Nat) (d : Int) (e : EV), MeetIs h (r : Int) (x : Int) rr d e → e = .nil ∧ d = 0
  form : checkErr h = .nil
  nlen : h.node.length = n
theorem dbl_duf {n r x : Nat} (hn : n ≤ 256) (hrx : r < x) (hx : x < n) : DUF n r x (dU n r + (x - r - 1)) (dblD n) := by
  have h1 := dU_mono n (show r ≤ n by omega)
  have h2 := dbl_small hn
  have hin := dU_in (show r < n by omega) (show x - r - 1 < n - 1 - r by omega)
  refine ⟨by rw [up_len, dn_len]; omega, ⟨?_, by omega⟩, rfl, by omega, fun h17 => ?_, fun h17 => ?_, fun A s t => plainly_ok A _ s t (by rw [dbl_cnt]; omega), fun rr d e m => dbl_meet hn hrx hx m, dbl_form hn, by simp [dblD]⟩
  · show ((List.range (n + 1)).map (dU n))[r]? = _
    rw [List.getElem?_map, List.getElem?_range (by omega)]
    rfl
  · have hl := dbl_links hn (show r < n by omega) (show x - r - 1 < n - 1 - r by omega)
    rw [if_neg (by omega)] at hl
    refine ⟨hl, ?_⟩
    unfold nodesRes
    rw [hl, if_neg (by simp)]
  · have hl := dbl_links hn (show r < n by omega) (show x - r - 1 < n - 1 - r by omega)
    rw [if_pos h17] at hl
    obtain ⟨g1, g2, g3, g4, g5⟩ := dbl_nodes hn (show r < n by omega) (show x - r - 1 < n - 1 - r by omega) h17
    rw [show r + 1 + (x - r - 1) = x by omega] at g5
    exact ⟨_, _, hl, g1, g2, g3, g4, g5⟩
structure UDX (A : HA) (h : HierD) (B : Nat) (w wx : World) : Prop where
  x : Cells wx B 25 (hierCells A h)
  b : Below w.heap.size w wx
  s : HSee wx A h
theorem UDX.below {A : HA} {h : HierD} {B : Nat} {w wx wy : World} (k : UDX A h B w wx) (o : Below wx.heap.size wx wy) : UDX A h B w wy := ⟨k.x.below o k.x.lt, k.b.trans (o.mono k.b.size), k.s.below o⟩
set_option linter.unusedSimpArgs false in
set_option maxRecDepth 100000 in
set_option maxHeartbeats 8000000 in
theorem unpackDoubled_any (n r x : Nat) (w : World) (hn8 : n ≤ 255) (hr8 : r ≤ 255) (hx8 : x ≤ 255) (hg : EVar w) :
    Calls Tryz.prog 7 #[.int .u8 (n : Int), .int .u8 (r : Int), .int .u8 (x : Int)] w (BoolIs true w) := by
  have HG := Lib.hid hg
  clear hg
  go_enter Tryz.func7, Tryz.ntmps7
  go_wp2_with fail
  refine (awake22_any _).mono ?_
  rintro e w1 ⟨rfl, hb⟩
  have B1 := Lib.hid hb
  clear hb
  by_cases q1 : n < 2
  · have d1 : decide ((n : Int) < 2) = true := by simp; omega
    clear q1
    go_wp2
    go_returns
    exact ⟨rfl, B1.out⟩
  have d1 : decide ((n : Int) < 2) = false := by simp; omega
  by_cases q2 : 40 < n
  · have d2 : decide (40 < (n : Int)) = true := by simp; omega
    clear q1 q2
    go_wp2
    go_returns
    exact ⟨rfl, B1.out⟩
  have d2 : decide (40 < (n : Int)) = false := by simp; omega
  by_cases q3 : x ≤ r
  · have d3 : decide (x ≤ r) = true := by simpa using q3
    clear q1 q2 q3
    go_wp2
    go_returns
    exact ⟨rfl, B1.out⟩
  have d3 : decide (x ≤ r) = false := by simpa using q3
  by_cases q4 : n ≤ x
  · have d4 : decide (n ≤ x) = true := by simpa using q4
    clear q1 q2 q3 q4
    go_wp2
    go_returns
    exact ⟨rfl, B1.out⟩
  have d4 : decide (n ≤ x) = false := by simpa using q4
  have HF := Lib.hid (dbl_duf (n := n) (r := r) (x := x) (by omega) (by omega) (by omega))
  have QQ := Lib.hid (And.intro q1 (And.intro q2 (And.intro q3 q4)))
  have cn := IntWalk.i64_in (n : Int) (by omega)
  have cr := IntWalk.i64_in (r : Int) (by omega)
  have cx := IntWalk.i64_in (x : Int) (by omega)
  clear q1 q2 q3 q4
  go_wp2_with fail
  refine (doubled_ok n _ (by have := QQ.out; omega)).mono ?_
  rintro e w2 ⟨A, rfl, hs, -, -, hb⟩
  obtain ⟨h, hh⟩ : ∃ h, dblD n = h := ⟨_, rfl⟩
  obtain ⟨i, hi⟩ : ∃ i, dU n r + (x - r - 1) = i := ⟨_, rfl⟩
  rw [hi] at HF
  rw [hh] at hs HF ⊢
  have HI := Lib.hid hi
  have K2 := Lib.hid (UDX.mk (A := A) (h := h) (Cells.new w2 25 (hierCells A h)) ((B1.out.trans (hb.mono B1.out.size)).alloc (B1.out.trans (hb.mono B1.out.size)).size (.cells (hierCells A h).toArray 25)) (hs.below ((Below.refl w2.heap.size w2).alloc (Nat.le_refl _) _)))
  obtain ⟨B, hB⟩ : ∃ B, w2.heap.size = B := ⟨_, rfl⟩
  rw [hB] at K2
  obtain ⟨wz, hwz⟩ : ∃ wz, w2.alloc (.cells (hierCells A h).toArray 25) = wz := ⟨_, rfl⟩
  rw [hwz] at K2
  clear hh hi hs hb B1 d1 d2 d3 d4
  unfold hierVal
  go_upto_region 6 with fail
  try rw [hB]
  try rw [show w2.alloc (.cells #[.slice A.a0 h.node.length A.c0, .slice A.a1 h.upF.length A.c1, .slice A.a2 h.up.length A.c2, .slice A.a3 h.dnF.length A.c3, .slice A.a4 h.dn.length A.c4] 25) = wz from hwz]
  clear hB hwz
  obtain ⟨k0, k1, k2, k3, k4⟩ := hier_five K2.out.x
  obtain ⟨b1, o1, ea, hc1⟩ := K2.out.s.upF.cell r _ HF.out.first.1
  have e1 := hc1 0 _ rfl
  rw [Nat.mul_one, Nat.add_zero] at e1
  rw [ea] at k1
  have lr : r < h.upF.length := (List.getElem?_eq_some_iff.1 HF.out.first.1).1
  have c1 := K2.out.s.upF.hcap
  have c2 := K2.out.s.upF.hmax
  have ci := IntWalk.i64_in (dU n r : Int) (by have := HF.out.first.2; omega)
  clear hc1
  go_upto_region 7 with fail
  have hw3 : wrap64 (wrap64 (wrap64 ((dU n r : Int) + (x : Int)) - (r : Int)) - 1) = (i : Int) := by
    have h1 := HI.out
    have h2 := QQ.out
    have h3 := HF.out.first.2
    rw [IntWalk.wrap64_in ((dU n r : Int) + (x : Int)) (by omega), IntWalk.wrap64_in ((dU n r : Int) + (x : Int) - (r : Int)) (by omega), IntWalk.wrap64_in ((dU n r : Int) + (x : Int) - (r : Int) - 1) (by omega)]
    omega
  rw [hw3]
  clear hw3
  clear k0 k1 k2 k3 k4 e1 ea lr c1 c2 ci
  have hk : h.up.length + h.dn.length ≤ 281474976710656 := by have := HF.out.small; omega
  have hi64 : (i : Int) ≤ 9223372036854775807 := by have := HF.out.lt; omega
  obtain ⟨k0, k1, k2, k3, k4⟩ := hier_five K2.out.x
  go_wp2_with fail
  refine (ucount_any A h i _ K2.out.s hk hi64).mono ?_
  rintro e w3 ⟨v1, rfl, hv1, hb⟩
  have K3 := Lib.hid (K2.out.below hb)
  have V1 := Lib.hid hv1
  clear hb hv1 K2 k0 k1 k2 k3 k4
  obtain ⟨k0, k1, k2, k3, k4⟩ := hier_five K3.out.x
  go_wp2_with fail
  refine (ulinks_any A h i _ K3.out.s hk hi64).mono ?_
  rintro e w4 ⟨aol, cl, v2, rfl, hv2, hn, hb⟩
  have K4 := Lib.hid (K3.out.below hb)
  have V14 := Lib.hid (V1.out.below hb)
  have V2 := Lib.hid hv2
  clear hb hv2 hn V1 K3 k0 k1 k2 k3 k4
  obtain ⟨k0, k1, k2, k3, k4⟩ := hier_five K4.out.x
  go_wp2_with fail
  refine (unodesOf_any A h i _ K4.out.s hk hi64).mono ?_
  rintro e w5 ⟨aom, cm, v3, rfl, hv3, hn, hb⟩
  have K5 := Lib.hid (K4.out.below hb)
  have V15 := Lib.hid (V14.out.below hb)
  have V25 := Lib.hid (V2.out.below hb)
  have V35 := Lib.hid hv3
  have LM := Lib.hid hn.see.1
  clear hb hv3 hn V14 V2 K4 k0 k1 k2 k3 k4
  by_cases q5 : 17 < r
  · have d5 : decide (17 < (r : Int)) = true := by simp; omega
    obtain ⟨g1, g2⟩ := HF.out.long q5
    rw [g1] at V15 V25 ⊢
    rw [g2] at V35 LM ⊢
    dsimp only at V15 V25 V35 LM ⊢
    clear q5 g1 g2 LM
    go_wp2_with fail
    refine (e_any 2 _).mono ?_
    rintro e w6 ⟨vx, rfl, hvx, hb⟩
    obtain rfl : vx = .agg #[.int .i64 2, .slice none 0 0] := hvx
    have ho := (Below.refl w6.heap.size w6).alloc (Nat.le_refl _) (.cells #[.int .i64 2, .slice none 0 0] 36)
    have hb6 := hb.trans (ho.mono hb.size)
    have K6 := Lib.hid (K5.out.below hb6)
    have V16 := Lib.hid (V15.out.below hb6)
    have V26 := Lib.hid (V25.out.below hb6)
    have V36 := Lib.hid (V35.out.below hb6)
    have F6 := Lib.hid (UF.mk (x := .code 2) (Cells.new w6 36 [.int .i64 2, .slice none 0 0]) rfl)
    obtain ⟨bf, hbf⟩ : ∃ bf, w6.heap.size = bf := ⟨_, rfl⟩
    rw [hbf] at F6
    obtain ⟨wy, hwy⟩ : ∃ wy, w6.alloc (.cells #[.int .i64 2, .slice none 0 0] 36) = wy := ⟨_, rfl⟩
    rw [hwy] at K6 V16 V26 V36 F6
    clear hb ho hb6 K5 V15 V25 V35
    replace hbf := Lib.hid hbf
    replace hwy := Lib.hid hwy
    go_upto_region 12 with fail
    rw [show w6.alloc (.cells #[.int .i64 2, .slice none 0 0] 36) = wy from hwy.out, hbf.out]
    clear hwy hbf
    have y0 : wy.cell? ⟨bf, 0, none⟩ = some (.int .i64 2) := F6.out.f.cell rfl
    have y1 : wy.cell? ⟨bf, 1, none⟩ = some (.slice none 0 0) := F6.out.f.cell rfl
    go_wp2_with fail
    refine (same_any (.code 2) _ _ _ ⟨by decide, by decide⟩ (HG.out.below K6.out.b) V16.out F6.out.v).mono ?_
    rintro e w7 ⟨rfl, hb⟩
    have K7 := Lib.hid (K6.out.below hb)
    have V27 := Lib.hid (V26.out.below hb)
    have V37 := Lib.hid (V36.out.below hb)
    have F7 := Lib.hid (F6.out.below hb)
    have y0 : w7.cell? ⟨bf, 0, none⟩ = some (.int .i64 2) := F7.out.f.cell rfl
    have y1 : w7.cell? ⟨bf, 1, none⟩ = some (.slice none 0 0) := F7.out.f.cell rfl
    clear hb K6 V16 V26 V36 F6
    go_wp2_with fail
    refine (same_any (.code 2) _ _ _ ⟨by decide, by decide⟩ (HG.out.below K7.out.b) V27.out F7.out.v).mono ?_
    rintro e w8 ⟨rfl, hb⟩
    have K8 := Lib.hid (K7.out.below hb)
    have V38 := Lib.hid (V37.out.below hb)
    have F8 := Lib.hid (F7.out.below hb)
    have y0 : w8.cell? ⟨bf, 0, none⟩ = some (.int .i64 2) := F8.out.f.cell rfl
    have y1 : w8.cell? ⟨bf, 1, none⟩ = some (.slice none 0 0) := F8.out.f.cell rfl
    clear hb K7 V27 V37 F7
    go_wp2_with fail
    refine (same_any (.code 2) _ _ _ ⟨by decide, by decide⟩ (HG.out.below K8.out.b) V38.out F8.out.v).mono ?_
    rintro e w9 ⟨rfl, hb⟩
    have K9 := Lib.hid (K8.out.below hb)
    clear hb K8 V38 F8 y0 y1
    obtain ⟨k0, k1, k2, k3, k4⟩ := hier_five K9.out.x
    go_wp2_with fail
    refine (upath_any A h r x _ K9.out.s hk (by omega) (by omega) (HF.out.plainly A _ _)).mono ?_
    rintro e wa ⟨rr, d, xx, v, p, ao, cap, rfl, hv, hm, -, hp, hn, hb⟩
    obtain ⟨rfl, rfl⟩ := HF.out.meet _ _ _ hm
    obtain rfl := hv.nilv rfl
    have HPI := Lib.hid (hp rfl)
    have Ka := Lib.hid (K9.out.below hb)
    have La := Lib.hid hn.see.1
    clear hb hv hm hp hn K9 k0 k1 k2 k3 k4
    obtain ⟨k0, k1, k2, k3, k4⟩ := hier_five Ka.out.x
    go_wp2_with fail
    refine (distance_any A h r x _ Ka.out.s (by omega) (by omega)).mono ?_
    rintro e wb ⟨r2, d2, x2, v2, rfl, hv, hm, hb⟩
    obtain ⟨rfl, rfl⟩ := HF.out.meet _ _ _ hm
    obtain rfl := hv.nilv rfl
    have Kb := Lib.hid (Ka.out.below hb)
    have Lb := Lib.hid (La.out.below hb)
    clear hb hv hm Ka La k0 k1 k2 k3 k4
    have HGP := Lib.hid (fun W see => rgraph_any A h W see HF.out.form (by have := HF.out.small; omega))
    unfold hierVal at HGP
    obtain ⟨k0, k1, k2, k3, k4⟩ := hier_five Kb.out.x
    go_wp2_with fail
    refine (HGP.out _ Kb.out.s).mono ?_
    rintro e wc ⟨ga, gc, gl, rfl, hgp, hgo, hb⟩
    have hnl := HF.out.nlen
    obtain ⟨hpl, es, hwk, hsum⟩ := HPI.out.ok HF.out.form (by have := QQ.out; omega) hgp
    rw [Int.toNat_natCast, Int.toNat_natCast] at hwk
    have hgl : gl.length ≤ 1048576 := by
      rw [hgp.length_eq]
      have h1 := arcsTo_len h (endsOf h).length
      rw [arcsTo_all, cnt_ends HF.out.form] at h1
      have h2 := HF.out.small
      unfold cntOf at h1
      omega
    have HWA := Lib.hid (rwalk_any h.node.length ga gl.length gc gl es ao cap p.length p r x wc hgo.see.1 rfl hgl (Lb.out.below hb) rfl (by have := QQ.out; omega) hwk)
    have Kc := Lib.hid (Kb.out.below hb)
    have HSUM := Lib.hid hsum
    clear hb hgp hgo hpl hwk hsum hgl hnl Kb Lb k0 k1 k2 k3 k4
    go_wp2_with fail
    refine HWA.out.mono ?_
    rintro e wd ⟨rfl, hb⟩
    have Kd := Lib.hid (Kc.out.below hb)
    have hsm := HSUM.out
    obtain ⟨sm, hsme⟩ : ∃ sm, (es.map fun x : AF => x.2.2.val).sum = sm := ⟨_, rfl⟩
    rw [hsme] at hsm ⊢
    obtain rfl : sm = 0 := by omega
    clear hb hsm hsme Kc
    go_wp2_with fail
    go_returns
    exact ⟨rfl, Kd.out.b⟩
  · have d5 : decide (17 < (r : Int)) = false := by simp; omega
    obtain ⟨ls, ns, g1, g2, g3, g4, g5, g6⟩ := HF.out.short (by omega)
    rw [g1] at V15 V25 ⊢
    rw [g2] at V35 LM ⊢
    dsimp only at V15 V25 V35 LM ⊢
    obtain rfl := V15.out.nilv rfl
    obtain rfl := V25.out.nilv rfl
    obtain rfl := V35.out.nilv rfl
    obtain ⟨mb, mo, rfl, m1⟩ := LM.out.cell 0 _ g5
    have m0 := m1 0 _ rfl
    obtain ⟨mb', mo', me, m2⟩ := LM.out.cell (2 ^ r) _ g6
    obtain ⟨rfl, rfl⟩ : mb = mb' ∧ mo = mo' := by simp at me; exact me
    have m3 := m2 0 _ rfl
    simp only [Nat.zero_mul, Nat.add_zero] at m0
    simp only [Nat.mul_one, Nat.add_zero] at m3
    have mc := LM.out.hcap
    have mm := LM.out.hmax
    rw [g4] at mc
    rw [g3, g4]
    have hp17 : 2 ^ r ≤ 131072 := Nat.pow_le_pow_right (show 0 < 2 by omega) (show r ≤ 17 by omega)
    have hp1 : 1 ≤ 2 ^ r := Nat.one_le_two_pow
    have hsh : wrap64 ((2 : Int) ^ min r 64) = ((2 ^ r : Nat) : Int) := by
      rw [show min r 64 = r by omega, IntWalk.wrap64_in _ (by rw [show (2 : Int) ^ r = ((2 ^ r : Nat) : Int) by simp]; omega)]
      simp
    clear q5 g1 g2 g3 g4 g5 g6 V15 V25 V35 m1 m2 me LM
    generalize 2 ^ r = pw at *
    have HSH := Lib.hid hsh
    clear hsh
    have cpw := IntWalk.i64_in ((pw : Int) + 1) (by omega)
    obtain ⟨k0, k1, k2, k3, k4⟩ := hier_five K5.out.x
    go_upto_region 14 with fail
    repeat (first | rw [HSH.out] | go_values | go_skip | go_guarded | go_step | go_upon)
    go_wp2_with fail
    refine (upath_any A h r x _ K5.out.s hk (by omega) (by omega) (HF.out.plainly A _ _)).mono ?_
    rintro e wa ⟨rr, d, xx, v, p, ao, cap, rfl, hv, hm, -, hp, hn, hb⟩
    obtain ⟨rfl, rfl⟩ := HF.out.meet _ _ _ hm
    obtain rfl := hv.nilv rfl
    have HPI := Lib.hid (hp rfl)
    have Ka := Lib.hid (K5.out.below hb)
    have La := Lib.hid hn.see.1
    clear hb hv hm hp hn K5 k0 k1 k2 k3 k4
    obtain ⟨k0, k1, k2, k3, k4⟩ := hier_five Ka.out.x
    go_wp2_with fail
    refine (distance_any A h r x _ Ka.out.s (by omega) (by omega)).mono ?_
    rintro e wb ⟨r2, d2, x2, v2, rfl, hv, hm, hb⟩
    obtain ⟨rfl, rfl⟩ := HF.out.meet _ _ _ hm
    obtain rfl := hv.nilv rfl
    have Kb := Lib.hid (Ka.out.below hb)
    have Lb := Lib.hid (La.out.below hb)
    clear hb hv hm Ka La k0 k1 k2 k3 k4
    have HGP := Lib.hid (fun W see => rgraph_any A h W see HF.out.form (by have := HF.out.small; omega))
    unfold hierVal at HGP
    obtain ⟨k0, k1, k2, k3, k4⟩ := hier_five Kb.out.x
    go_wp2_with fail
    refine (HGP.out _ Kb.out.s).mono ?_
    rintro e wc ⟨ga, gc, gl, rfl, hgp, hgo, hb⟩
    have hnl := HF.out.nlen
    obtain ⟨hpl, es, hwk, hsum⟩ := HPI.out.ok HF.out.form (by have := QQ.out; omega) hgp
    rw [Int.toNat_natCast, Int.toNat_natCast] at hwk
    have hgl : gl.length ≤ 1048576 := by
      rw [hgp.length_eq]
      have h1 := arcsTo_len h (endsOf h).length
      rw [arcsTo_all, cnt_ends HF.out.form] at h1
      have h2 := HF.out.small
      unfold cntOf at h1
      omega
    have HWA := Lib.hid (rwalk_any h.node.length ga gl.length gc gl es ao cap p.length p r x wc hgo.see.1 rfl hgl (Lb.out.below hb) rfl (by have := QQ.out; omega) hwk)
    have Kc := Lib.hid (Kb.out.below hb)
    have HSUM := Lib.hid hsum
    clear hb hgp hgo hpl hwk hsum hgl hnl Kb Lb k0 k1 k2 k3 k4
    go_wp2_with fail
    refine HWA.out.mono ?_
    rintro e wd ⟨rfl, hb⟩
    have Kd := Lib.hid (Kc.out.below hb)
    have hsm := HSUM.out
    obtain ⟨sm, hsme⟩ : ∃ sm, (es.map fun x : AF => x.2.2.val).sum = sm := ⟨_, rfl⟩
    rw [hsme] at hsm ⊢
    obtain rfl : sm = 0 := by omega
    clear hb hsm hsme Kc
    go_wp2_with fail
    go_returns
    exact ⟨rfl, Kd.out.b⟩
end Go.Proofs.YtchhbgckonpedaaGreatDoor
