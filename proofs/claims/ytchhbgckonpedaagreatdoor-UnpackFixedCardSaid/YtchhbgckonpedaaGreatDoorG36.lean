/- search: state.parents: for each node that was reached one ahead of it. -/
import Derived.Test.YtchhbgckonpedaaGreatDoorG35
import Derived.Test.YtchhbgckonpedaaGreatDoorG33
import Derived.Test.YtchhbgckonpedaaGreatDoorG23
import Derived.Deep.RegionHeld3
namespace Go.Proofs.YtchhbgckonpedaaGreatDoor
open Go.ChangeShapes Go.WideShapes Go.ChangeAt Go.RowKit Go.Joins Go.Deep
theorem BInv.weaken {W : Nat → List (Nat × Nat)} {u : Nat} {D : Nat → Option Int} {n : Nat} {L : List Nat} {F : Nat → Nat} {P Q : Nat → Nat × Nat → Prop} (h : BInv W u D n L F P) (hq : ∀ a t, a ∈ L → t ∈ W a → Q a t → P a t) : BInv W u D n L F Q :=
  ⟨h.first, h.nd, h.lt, h.pre, fun a t ha ht htt hqq => h.clo a t ha ht htt (hq a t ha ht hqq)⟩
def Walked (l : List AF) (T : List Nat) (v j : Nat) (a : Nat) (t : Nat × Nat) : Prop := a ∈ T ∨ (a = v ∧ ∃ (i : Nat) (x : AF), cntLt l v ≤ i ∧ i < j ∧ l[i]? = some x ∧ t = (x.2.1.val, x.2.2.val))
theorem walked_start (l : List AF) (T : List Nat) (v : Nat) : ∀ a t, Walked l T v (cntLt l v) a t → a ∈ T := by
  rintro a t (h | ⟨-, i, x, h1, h2, -⟩)
  · exact h
  · omega
theorem walked_succ {l : List AF} {T : List Nat} {v j : Nat} {x : AF} (hx : l[j]? = some x) : ∀ a t, Walked l T v (j + 1) a t → Walked l T v j a t ∨ (a = v ∧ t = (x.2.1.val, x.2.2.val)) := by
  rintro a t (h | ⟨h0, i, y, h1, h2, h3, h4⟩)
  · exact .inl (.inl h)
  · by_cases hij : i < j
    · exact .inl (.inr ⟨h0, i, y, h1, hij, h3, h4⟩)
    · have : i = j := by omega
      subst this
      rw [hx] at h3
      simp only [Option.some.injEq] at h3
      subst h3
      exact .inr ⟨h0, h4⟩
theorem walked_end {l : List AF} (hl : ByFrom l) (T : List Nat) (v : Nat) : ∀ a t, t ∈ webC l a → a ∈ T ++ [v] → Walked l T v (cntLt l (v + 1)) a t := by
  intro a t ht ha
  rcases List.mem_append.1 ha with h | h
  · exact .inl h
  · simp only [List.mem_singleton] at h
    subst h
    obtain ⟨i, x, h1, h2, h3, h4⟩ := (webC_at hl).1 ht
    exact .inr ⟨rfl, i, x, h1, h2, h3, h4⟩
def FOf (FL : List Nat) (x : Nat) : Nat := FL.getD x 0
theorem FOf_set {FL : List Nat} {q v : Nat} (hq : q < FL.length) : FOf (FL.set q v) q = v ∧ ∀ x, x ≠ q → FOf (FL.set q v) x = FOf FL x := by
  unfold FOf
  simp only [List.getD_eq_getElem?_getD, List.getElem?_set]
  refine ⟨by simp [hq], fun x hx => by rw [if_neg (fun e => hx e.symm)]⟩
structure ParI (b1 b2 n : Nat) (L FL SL : List Nat) (v7 : Value) (w wr : World) : Prop where
  f : Cells wr b1 3 (nums FL)
  s : Cells wr b2 3 (nums SL)
  l : Nats w.heap.size wr v7 L
  a1 : v7.ownBlock ≠ some b1
  a2 : v7.ownBlock ≠ some b2
  lf : FL.length = n
  ln : SL.length = n
  se : ∀ (x z : Nat), SL[x]? = some z → (z = 0 ∧ x ∉ L) ∨ (z = 1 ∧ x ∈ L)
  b : Below w.heap.size w wr
def ParPost (n : Nat) (l : List AF) (s : Nat) (D : Nat → Option Int) (w : World) (e : Ending) (w' : World) : Prop :=
  ∃ (pb : Nat) (FL L : List Nat), e = .returned (.slice (some ⟨pb, 0, none⟩) n n) ∧ Cells w' pb 3 (nums FL) ∧ FL.length = n ∧ BInv (webC l) s D n L (FOf FL) (fun _ _ => True) ∧ Below w.heap.size w w'
theorem ParI.below {b1 b2 n : Nat} {L FL SL : List Nat} {v7 : Value} {w wr wy : World} (k : ParI b1 b2 n L FL SL v7 w wr) (o : Below wr.heap.size wr wy) : ParI b1 b2 n L FL SL v7 w wy :=
  ⟨k.f.below o k.f.lt, k.s.below o k.s.lt, k.l.below o, k.a1, k.a2, k.lf, k.ln, k.se, k.b.trans (o.mono k.b.size)⟩
set_option linter.unusedSimpArgs false in
set_option maxRecDepth 100000 in
set_option maxHeartbeats 8000000 in
theorem parents_any (B : Nat) (C : CA) (n N : Nat) (l : List AF) (s : Nat) (Z : SB) (iv : Value) (hs : HS) (ds : List (Option Int)) (H : List Nat) (S : List Bool) (D : Nat → Option Int) (w0 w : World) (ok : CsrOk n l) (see : CSee w0 C n l) (hN : l.length = N) (hb : Below w0.heap.size w0 w)
    (hr : StRep w B C n N Z iv hs ds H S) (hS : IsS (webC l) (-1) s D) (hD : ∀ x, ds.getD x none = D x) (hbig : ∀ x d, D x = some d → 0 ≤ d ∧ d ≤ 65535 * 140737488355328) (hsn : s < n) :
    Calls Tryz.prog 95 #[.pointer (some ⟨Z.sb, 0, none⟩), .int .i64 (s : Int)] w (ParPost n l s D w) := by
  have hn := ok.hn
  have hmk := run_make_n (P := Tryz.prog) 28 3 (.int .i64 0) 1 8 Tryz.underlying28 Tryz.infoInt .i64 .i64 n (by omega) (by omega)
  rw [nums_rep] at hmk
  have HSN := Lib.hid (fun W => snodes_any C n N W hn)
  unfold csrVal at HSN
  have z0 : w.cell? ⟨Z.sb, 0, none⟩ = some (.slice C.fa (n + 1) C.fc) := hr.st.cell rfl
  have z1 : w.cell? ⟨Z.sb, 1, none⟩ = some (.slice C.ta N C.tc) := hr.st.cell rfl
  have z2 : w.cell? ⟨Z.sb, 2, none⟩ = some (.slice C.wa N C.wc) := hr.st.cell rfl
  have lz := hr.st.lt
  have HR := Lib.hid hr
  have OK := Lib.hid ok
  have SEE := Lib.hid see
  have HN := Lib.hid hN
  have HB := Lib.hid hb
  have HS := Lib.hid hS
  have HD := Lib.hid hD
  have HBIG := Lib.hid hbig
  clear ok see hN hb hr hS hD hbig
  go_enter Tryz.func95, Tryz.ntmps95
  go_wp2_with fail
  refine (HSN.out _).mono ?_
  rintro e w1 ⟨rfl, hb1⟩
  have z0' := ck hb1 z0
  have z1' := ck hb1 z1
  have z2' := ck hb1 z2
  have lz1 := block_lt z0'
  have HB1 := Lib.hid hb1
  clear z0 z1 z2 hb1
  go_wp2_with fail
  refine (HSN.out _).mono ?_
  rintro e w2 ⟨rfl, hb2⟩
  have HB2 := Lib.hid (HB1.out.trans (((Below.refl w1.heap.size w1).alloc (Nat.le_refl _) (.cells (nums (List.replicate n 0)).toArray 3)).trans (hb2.mono (by simp)) |>.mono HB1.out.size))
  have HF2 := Lib.hid ((Cells.new w1 3 (nums (List.replicate n 0))).below hb2 (by simp))
  have hsz : w1.heap.size + 1 ≤ w2.heap.size := by have := hb2.size; simp at this; omega
  clear z0' z1' z2' hb2
  go_upto_region 3 with fail
  obtain ⟨W3, hW3⟩ : ∃ W3, w2.alloc (.cells (nums (List.replicate n 0)).toArray 3) = W3 := ⟨_, rfl⟩
  obtain ⟨b1, hb1⟩ : ∃ b, w1.heap.size = b := ⟨_, rfl⟩
  obtain ⟨b2, hb2⟩ : ∃ b, w2.heap.size = b := ⟨_, rfl⟩
  have hf3 := HF2.out.alloc (.cells (nums (List.replicate n 0)).toArray 3)
  have hs3 := Cells.new w2 3 (nums (List.replicate n 0))
  have hbb3 := HB2.out.alloc (by have := HB1.out.size; omega) (.cells (nums (List.replicate n 0)).toArray 3)
  have hb1w := HB1.out.size
  rw [hW3, hb1] at hf3
  rw [hW3, hb2] at hs3
  rw [hW3] at hbb3
  rw [hb1] at hsz hb1w
  rw [hb2] at hsz
  rw [hW3, hb1, hb2]
  have y3 : W3.cell? ⟨b2, s, none⟩ = some (.int .i64 0) := hs3.cell (nums_get (x := 0) (by simp [hsn]))
  have f3 := hs3.frozen s
  have l3 := hs3.lt
  have HF3 := Lib.hid hf3
  have HS3 := Lib.hid hs3
  have HBB := Lib.hid hbb3
  clear hW3 hb1 hb2 hf3 hs3 hbb3 HF2 HB2 HB1 lz1
  go_wp2_with fail
  have hfr : Nats W3.heap.size ((W3.setCell ⟨b2, s, none⟩ (.int .i64 1)).alloc (.cells #[.int .i64 (s : Int)] 3)) (.slice (some ⟨W3.heap.size, 0, none⟩) 1 1) [s] := by
    have := Nats.fresh (W3.setCell ⟨b2, s, none⟩ (.int .i64 1)) [s] (by simp)
    rw [World.size_setCell] at this
    exact this
  have hO3 : Only [b2] W3 (W3.setCell ⟨b2, s, none⟩ (.int .i64 1)) := (Only.refl _ W3).setCell (p := ⟨b2, s, none⟩) (by simp) _
  have hs4 := HS3.out.set s (.int .i64 ((1 : Nat) : Int))
  rw [nums_set] at hs4
  have hst : ParI b1 b2 n [s] (List.replicate n 0) ((List.replicate n 0).set s 1) (.slice (some ⟨W3.heap.size, 0, none⟩) 1 1) w ((W3.setCell ⟨b2, s, none⟩ (.int .i64 1)).alloc (.cells #[.int .i64 (s : Int)] 3)) := by
    refine ⟨(HF3.out.kept hO3 (by simp; omega)).alloc _, hs4.alloc _, hfr.mono HBB.out.size, ?_, ?_, by simp, by simp, fun x z hz => ?_, (HBB.out.setCell (p := ⟨b2, s, none⟩) (by show w.heap.size ≤ b2; omega) _).alloc (by have := HBB.out.size; simp; omega) _⟩
    · have := HF3.out.lt
      simp [Value.ownBlock]; omega
    · have := HS3.out.lt
      simp [Value.ownBlock]; omega
    · rw [List.getElem?_set] at hz
      by_cases e1 : s = x
      · rw [if_pos e1] at hz
        simp [hsn] at hz
        exact .inr ⟨hz.symm, by simp [e1]⟩
      · rw [if_neg e1] at hz
        have := List.mem_of_getElem? hz
        simp at this
        exact .inl ⟨this.2, by simp; omega⟩
  have HST := Lib.hid hst
  have hbi : BInv (webC l) s D n [s] (FOf (List.replicate n 0)) (fun a _ => a ∈ ([s] : List Nat).take 0) := (BInv.start hsn _).weaken (fun a t ha ht h => by simp at h)
  have HBI := Lib.hid hbi
  have hbn : b1 ≠ b2 := by omega
  have hb1w' : w.heap.size ≤ b2 := by omega
  clear hfr hO3 hs4 hst hbi HF3 HS3 HBB y3 f3 l3 hmk
  go_loopg [7, 8, 9, 10, 11, 12, 13, 14, 15] n (fun gg v7 v8 v9 v10 v11 v12 v13 v14 v15 wr => ∃ (i : Nat) (L FL SL : List Nat), v8 = .int .i64 i ∧ gg = n - i ∧ i ≤ L.length ∧ ParI b1 b2 n L FL SL v7 w wr ∧ BInv (webC l) s D n L (FOf FL) (fun a _ => a ∈ L.take i))
  case atStart => exact ⟨0, _, _, _, rfl, rfl, Nat.zero_le _, HST.out, HBI.out⟩
  case round =>
    obtain ⟨i, L, FL, SL, rfl, hg, hi, hp, hbi⟩ := hrel
    obtain ⟨g7, c7, rfl, hg1, hg2, -⟩ := hp.l.block (List.getElem?_eq_some_iff.1 hbi.first).1
    have hMn := hbi.le
    obtain ⟨M, hM⟩ : ∃ M, L.length = M := ⟨_, rfl⟩
    rw [hM] at hp hi hMn ⊢
    have hr := HR.out.below hp.b
    have z4 : wr.cell? ⟨Z.sb, 4, none⟩ = some (.pointer (some ⟨Z.tb, 0, none⟩)) := hr.st.cell rfl
    have HM := Lib.hid hM
    have HP := Lib.hid hp
    have HBI2 := Lib.hid hbi
    have HG := Lib.hid hg
    have HR2 := Lib.hid hr
    by_cases hiM : i < M
    · obtain ⟨v, hv⟩ : ∃ v, L[i]? = some v := ⟨_, List.getElem?_eq_getElem (by omega)⟩
      have cv := hp.l.cellIn hv
      have lg7 := block_lt cv
      have hvn : v < n := hbi.lt v (List.mem_of_getElem? hv)
      obtain ⟨d, hdv⟩ := hbi.has HS.out.src v (List.mem_of_getElem? hv)
      have hdd : ds[v]? = some (some d) := by
        have := HD.out v
        rw [hdv, List.getD_eq_getElem?_getD, List.getElem?_eq_getElem (by rw [hr.ld]; exact hvn)] at this
        rw [List.getElem?_eq_getElem (by rw [hr.ld]; exact hvn)]
        exact congrArg some this
      have dlo := HBIG.out v d hdv
      have HV := Lib.hid (And.intro hv hdv)
      have HDD := Lib.hid hdd
      clear hM hp hbi hg hr hv hdv hdd
      go_wp2_with fail
      refine (stampGet_any v (some d) _ HR2.out.sp HDD.out).mono ?_
      rintro e w4 ⟨rfl, hb4⟩
      have HP4 := Lib.hid (HP.out.below hb4)
      have hr4 := HR2.out.below hb4
      have z0 : w4.cell? ⟨Z.sb, 0, none⟩ = some (.slice C.fa (n + 1) C.fc) := hr4.st.cell rfl
      obtain ⟨bf, of, ef, hcf⟩ := SEE.out.first
      have HBW := Lib.hid (HB.out.trans (HP4.out.b.mono HB.out.size))
      have c0 := ck HBW.out (hcf v (by omega))
      have lf := block_lt c0
      obtain ⟨p, hp1⟩ : ∃ p, n + 1 = p := ⟨_, rfl⟩
      obtain ⟨f, hf⟩ : ∃ f, cntLt l v = f := ⟨_, rfl⟩
      obtain ⟨v1, hv1⟩ : ∃ v1, v + 1 = v1 := ⟨_, rfl⟩
      obtain ⟨g, hg⟩ : ∃ g, cntLt l v1 = g := ⟨_, rfl⟩
      have hgN : g ≤ N := by rw [← hg, ← HN.out]; exact cntLt_le _ _
      have hfg : f ≤ g := by rw [← hf, ← hg]; exact cntLt_mono _ (by omega)
      have hNb : N ≤ 262144 := by rw [← HN.out]; exact OK.out.len
      have hvp : v < p := by omega
      have hvp1 : v1 < p := by omega
      have hvi : (v : Int) + 1 = (v1 : Int) := by omega
      have cv1 := IntWalk.i64_in (v1 : Int) (by omega)
      rw [hf] at c0
      rw [ef, hp1] at z0
      have HE := Lib.hid (And.intro hp1 (And.intro hf (And.intro hv1 hg)))
      have HEF := Lib.hid (And.intro ef hcf)
      clear hb4 hr4 hcf ef hp1 hf hv1 hg z4 cv lg7
      simp only [getVal]
      go_wp2_with fail
      have HBJ := Lib.hid (HBI2.out.weaken (Q := Walked l (L.take i) v f) (fun a t _ _ h => walked_start l (L.take i) v a t (by rw [HE.out.2.1]; exact h)))
      clear z0 c0 lf
      go_loopg [7, 12, 13, 14, 15] (g - f) (fun gg v7 v12 v13 v14 v15 wr => ∃ (j : Nat) (L' FL' SL' : List Nat), v12 = .int .i64 j ∧ f ≤ j ∧ j ≤ g ∧ gg = g - j ∧ ParI b1 b2 n L' FL' SL' v7 w wr ∧ BInv (webC l) s D n L' (FOf FL') (Walked l (L.take i) v j) ∧ L'.take i = L.take i ∧ L'[i]? = some v)
      case atStart => exact ⟨f, L, FL, SL, rfl, Nat.le_refl _, hfg, rfl, HP4.out, HBJ.out, rfl, HV.out.1⟩
      case round =>
        obtain ⟨j, L', FL', SL', rfl, hj1, hj2, hg, hp, hbi, hT, hLv⟩ := hrel
        obtain ⟨g8, c8, rfl, hg81, hg82, -⟩ := hp.l.block (List.getElem?_eq_some_iff.1 hbi.first).1
        have hMn2 := hbi.le
        obtain ⟨K, hK⟩ : ∃ K, L'.length = K := ⟨_, rfl⟩
        rw [hK] at hp hMn2 ⊢
        have hr := HR.out.below hp.b
        have z0 : wr.cell? ⟨Z.sb, 0, none⟩ = some (.slice C.fa (n + 1) C.fc) := hr.st.cell rfl
        have z1 : wr.cell? ⟨Z.sb, 1, none⟩ = some (.slice C.ta N C.tc) := hr.st.cell rfl
        have z4 : wr.cell? ⟨Z.sb, 4, none⟩ = some (.pointer (some ⟨Z.tb, 0, none⟩)) := hr.st.cell rfl
        have HBW2 := Lib.hid (HB.out.trans (hp.b.mono HB.out.size))
        have c1 := ck HBW2.out (HEF.out.2 v1 (by omega))
        rw [HE.out.2.2.2] at c1
        rw [HEF.out.1, HE.out.1] at z0
        have lf1 := block_lt c1
        have HK := Lib.hid hK
        have HP5 := Lib.hid hp
        have HBI5 := Lib.hid hbi
        have HT := Lib.hid (And.intro hT hLv)
        have HG2 := Lib.hid hg
        have HR5 := Lib.hid hr
        by_cases hjg : j < g
        · have hbf := OK.out.byFrom
          obtain ⟨x, hx⟩ : ∃ x, l[j]? = some x := ⟨_, List.getElem?_eq_getElem (by rw [HN.out]; omega)⟩
          have hxv : x.1.val = v := (row_iff hbf hx v).2 (by rw [HE.out.2.1, HE.out.2.2.1, HE.out.2.2.2]; exact ⟨hj1, hjg⟩)
          obtain ⟨q, hq⟩ : ∃ q, x.2.1.val = q := ⟨_, rfl⟩
          obtain ⟨cw, hcw⟩ : ∃ cw, x.2.2.val = cw := ⟨_, rfl⟩
          have hmem : (q, cw) ∈ webC l v := webC_mem.2 ⟨x, List.mem_of_getElem? hx, hxv, by rw [hq, hcw]⟩
          obtain ⟨bt, ot, et, ct⟩ := SEE.out.t.int (toL_get hx)
          obtain ⟨bw, ow, ew, cww⟩ := SEE.out.u.int (wtL_get hx)
          have ct1 := ck HBW2.out ct
          rw [hq] at ct1
          rw [hcw] at cww
          rw [et] at z1
          have hqn : q < n := by rw [← hq]; exact (OK.out.clean.inG x (List.mem_of_getElem? hx)).2
          have hcb : cw ≤ 2147483647 := by rw [← hcw]; have := x.2.2.isLt; omega
          have hjN : j < N := by omega
          have u1 : IntKind.u64.wrap (cw : Int) = (cw : Int) := IntWalk.u64_in _ (by omega)
          have u2 : IntKind.u64.wrap (d + (cw : Int)) = d + (cw : Int) := IntWalk.u64_in _ (by omega)
          have lt1 := block_lt ct1
          obtain ⟨ee, hee, hele⟩ := HS.out.step HV.out.2 hmem
          have hdq : ds[q]? = some (some ee) := by
            have := HD.out q
            simp only at hee
            rw [hee, List.getD_eq_getElem?_getD, List.getElem?_eq_getElem (by rw [hr.ld]; exact hqn)] at this
            rw [List.getElem?_eq_getElem (by rw [hr.ld]; exact hqn)]
            exact congrArg some this
          have HX := Lib.hid (And.intro hx (And.intro hxv (And.intro hq (And.intro hcw (And.intro hmem hee)))))
          have HEW := Lib.hid (And.intro ew cww)
          have HDQ := Lib.hid hdq
          clear hK hp hbi hg hr hT hLv hx hxv hq hcw hmem et ct ew cww hee hele hdq hbf
          go_wp2_with fail
          refine (stampGet_any q (some ee) _ HR5.out.sp HDQ.out).mono ?_
          rintro e w5 ⟨rfl, hb5⟩
          have hp6 := HP5.out.below hb5
          have hr6 := HR5.out.below hb5
          have z2 : w5.cell? ⟨Z.sb, 2, none⟩ = some (.slice C.wa N C.wc) := hr6.st.cell rfl
          have cw6 := ck (HBW2.out.trans (hb5.mono HBW2.out.size)) HEW.out.2
          rw [HEW.out.1] at z2
          have lw6 := block_lt cw6
          obtain ⟨zz, hzz⟩ : ∃ zz, SL'[q]? = some zz := ⟨_, List.getElem?_eq_getElem (by rw [hp6.ln]; exact hqn)⟩
          have HZZ := Lib.hid hzz
          have HP6 := Lib.hid hp6
          have HR6 := Lib.hid hr6
          simp only [getVal]
          rcases hp6.se q zz hzz with ⟨rfl, hno⟩ | ⟨rfl, hin⟩
          · have s0 : w5.cell? ⟨b2, q, none⟩ = some (.int .i64 0) := hp6.s.cell (nums_get hzz)
            have ls0 := hp6.s.lt
            by_cases htt : ee = d + (cw : Int)
            · subst htt
              obtain ⟨fz, hfz⟩ : ∃ fz, FL'[q]? = some fz := ⟨_, List.getElem?_eq_getElem (by rw [hp6.lf]; exact hqn)⟩
              have y1 : w5.cell? ⟨b1, q, none⟩ = some (.int .i64 (fz : Int)) := hp6.f.cell (nums_get hfz)
              have fs := hp6.s.frozen q
              have ff := hp6.f.frozen q
              have ly := hp6.f.lt
              have hbn2 : b2 ≠ b1 := fun e => hbn e.symm
              have HNO := Lib.hid hno
              clear hb5 hp6 hr6 hzz hno hfz z0 z1 z4 c1 ct1
              go_upto_region 18 with fail
              have hOA : Only [b2, b1] w5 ((w5.setCell ⟨b2, q, none⟩ (.int .i64 1)).setCell ⟨b1, q, none⟩ (.int .i64 (v : Int))) := ((Only.refl _ w5).setCell (p := ⟨b2, q, none⟩) (by simp) _).setCell (p := ⟨b1, q, none⟩) (by simp) _
              have hfA := (HP6.out.f.other (a := ⟨b2, q, none⟩) hbn (.int .i64 1)).set q (.int .i64 (v : Int))
              have hsA := (HP6.out.s.set q (.int .i64 ((1 : Nat) : Int))).other (a := ⟨b1, q, none⟩) hbn2 (.int .i64 (v : Int))
              rw [nums_set] at hfA hsA
              have hlA := HP6.out.l.kept hOA (fun k hk hm => by
                have h1 := HP6.out.a1
                have h2 := HP6.out.a2
                rw [hk] at h1 h2
                simp only [List.mem_cons, List.not_mem_nil, or_false] at hm
                rcases hm with rfl | rfl
                · exact h2 rfl
                · exact h1 rfl)
              have hbA := HP6.out.b.trans (hOA.below (B := w.heap.size) HP6.out.b.size (fun k hk => by
                simp only [List.mem_cons, List.not_mem_nil, or_false] at hk
                omega))
              obtain ⟨wA, hwA⟩ : ∃ wA, (w5.setCell ⟨b2, q, none⟩ (.int .i64 1)).setCell ⟨b1, q, none⟩ (.int .i64 (v : Int)) = wA := ⟨_, rfl⟩
              rw [hwA] at hOA hlA hbA ⊢
              replace hfA : Cells wA b1 3 (nums (FL'.set q v)) := by rw [← hwA]; exact hfA
              replace hsA : Cells wA b2 3 (nums (SL'.set q 1)) := by rw [← hwA]; exact hsA
              have lA1 := hfA.lt
              have lA2 := hsA.lt
              have HFA := Lib.hid hfA
              have HSA := Lib.hid hsA
              have HLA := Lib.hid hlA
              have HBA := Lib.hid hbA
              have hKb : K ≤ 65536 := by omega
              clear hwA hOA hfA hsA hlA hbA s0 ls0 y1 fs ff ly z2 cw6 lw6
              go_wp2_with (at_builtin; refine wpList_app _ rfl _ _ 28 rfl 3 (.int .i64 0) 1 8 Tryz.underlying28 Tryz.infoInt rfl (by decide) (.slice (some ⟨g8, 0, none⟩) K c8) K (L'.flatMap i64Cells) rfl ?own ⟨wA.heap.size, 0, none⟩ 1 1 (i64Cells q) rfl rfl ?c1 ?c2 ?c3 ?c4 ?_)
              case own =>
                have := HLA.out.own
                rw [HK.out] at this
                exact own_kept (bs := []) this ((Only.refl _ wA).alloc _) (fun q _ => by simp)
              case c1 => exact cells_new wA 3 (i64Cells q)
              case c2 => intro u hu; simp [i64Cells] at hu; subst hu; rfl
              case c3 => unfold maxLen; omega
              case c4 => omega
              intro ao6 cap6 w6 hown6 ho6 hk6
              have hba := (Below.refl wA.heap.size wA).alloc (Nat.le_refl _) (.cells #[.int .i64 (q : Int)] 3)
              have hn6 := (HLA.out.below hba).app [q] (m := 1) rfl (ao := ao6) (cap := cap6) (w5 := w6) (by rw [HK.out]; simpa using hown6) (by rw [HK.out]; simpa using hk6) (by have := HBA.out.size; simp; omega)
              rw [HK.out] at hn6
              have hnb : ∀ b, (Value.slice (some ⟨g8, 0, none⟩) K c8).ownBlock ≠ some b → b < wA.heap.size → (Value.slice ao6 (K + 1) cap6).ownBlock ≠ some b ∧ b ∉ (Value.slice (some ⟨g8, 0, none⟩) K c8).ownBlock.toList := fun b h1 h2 => ⟨fun h3 => by
                rcases hk6 b h3 with h4 | h4
                · exact h1 h4
                · omega, fun h3 => h1 (own_mem h3)⟩
              have hx1 := hnb b1 HP6.out.a1 lA1
              have hx2 := hnb b2 HP6.out.a2 lA2
              have hq0 : q ∉ L' := HNO.out
              have hse : ∀ (x z : Nat), (SL'.set q 1)[x]? = some z → (z = 0 ∧ x ∉ L' ++ [q]) ∨ (z = 1 ∧ x ∈ L' ++ [q]) := by
                intro x z hz
                rw [List.getElem?_set] at hz
                by_cases e1 : q = x
                · subst e1
                  rw [if_pos rfl, if_pos (by rw [HP6.out.ln]; exact hqn)] at hz
                  simp only [Option.some.injEq] at hz
                  exact .inr ⟨hz.symm, by simp⟩
                · rw [if_neg e1] at hz
                  rcases HP6.out.se x z hz with ⟨h1, h2⟩ | ⟨h1, h2⟩
                  · exact .inl ⟨h1, by simp [h2]; omega⟩
                  · exact .inr ⟨h1, List.mem_append_left _ h2⟩
              have hp7 : ParI b1 b2 n (L' ++ [q]) (FL'.set q v) (SL'.set q 1) (.slice ao6 (K + 1) cap6) w w6 :=
                ⟨(HFA.out.alloc _).kept ho6 hx1.2, (HSA.out.alloc _).kept ho6 hx2.2, hn6, hx1.1, hx2.1, by rw [List.length_set]; exact HP6.out.lf, by rw [List.length_set]; exact HP6.out.ln, hse,
                  (HBA.out.trans (hba.mono HBA.out.size)).trans (ho6.below (B := w.heap.size) (by have := HBA.out.size; simp; omega) (fun k hk => HLA.out.new k (own_mem hk)))⟩
              have hiK : i < L'.length := (List.getElem?_eq_some_iff.1 HT.out.2).1
              have hvL : v ∈ L' := List.mem_of_getElem? HT.out.2
              have hFF := FOf_set (FL := FL') (q := q) (v := v) (by rw [HP6.out.lf]; exact hqn)
              have hbk : BInv (webC l) s D n (L' ++ [q]) (FOf (FL'.set q v)) (Walked l (L.take i) v (j + 1)) :=
                HBI5.out.find (a := v) (s := (q, cw)) hvL HX.out.2.2.2.2.1 hq0 ⟨d, HV.out.2, HX.out.2.2.2.2.2⟩ hqn hFF.1 hFF.2 (fun a t _ _ h => by
                  have := walked_succ HX.out.1 a t h
                  rw [HX.out.2.2.1, HX.out.2.2.2.1] at this
                  exact this) (fun t h => by
                  rcases h with h1 | ⟨h1, -⟩
                  · rw [← HT.out.1] at h1
                    exact hq0 (List.mem_of_mem_take h1)
                  · exact hq0 (by have h2 : q = v := h1; rw [h2]; exact hvL))
              have HP7 := Lib.hid hp7
              have HBK := Lib.hid (And.intro hbk hiK)
              clear hown6 ho6 hk6 hba hn6 hnb hx1 hx2 hq0 hse hp7 hiK hvL hFF hbk
              go_wp2_with fail
              go_roundg (g - (j + 1))
              case measure => rw [HG2.out]; omega
              case rel => exact ⟨j + 1, L' ++ [q], FL'.set q v, SL'.set q 1, by go_num, by omega, by omega, rfl, HP7.out, HBK.out.1, by rw [List.take_append_of_le_length (by have := HBK.out.2; omega)]; exact HT.out.1, by rw [List.getElem?_append_left HBK.out.2]; exact HT.out.2⟩
            · have q1 : decide (ee = d + (cw : Int)) = false := by simp [htt]
              have q2 : (ee == d + (cw : Int)) = false := by simp [htt]
              have hbk : BInv (webC l) s D n L' (FOf FL') (Walked l (L.take i) v (j + 1)) := HBI5.out.skip (a := v) (s := (q, cw)) (.inr (fun ⟨d2, h1, h2⟩ => by
                rw [HV.out.2] at h1
                simp only [Option.some.injEq] at h1
                subst h1
                rw [HX.out.2.2.2.2.2] at h2
                simp only [Option.some.injEq] at h2
                exact htt h2)) (fun a t _ _ h => by
                  have := walked_succ HX.out.1 a t h
                  rw [HX.out.2.2.1, HX.out.2.2.2.1] at this
                  exact this)
              have HBK := Lib.hid hbk
              clear hb5 hp6 hr6 hzz hno hbk z0 z1 z4 c1 ct1
              go_wp2_with fail
              go_roundg (g - (j + 1))
              case measure => rw [HG2.out]; omega
              case rel => exact ⟨j + 1, L', FL', SL', by go_num, by omega, by omega, rfl, HP6.out, HBK.out, HT.out.1, HT.out.2⟩
          · have s0 : w5.cell? ⟨b2, q, none⟩ = some (.int .i64 1) := hp6.s.cell (nums_get hzz)
            have ls0 := hp6.s.lt
            have hbk : BInv (webC l) s D n L' (FOf FL') (Walked l (L.take i) v (j + 1)) := HBI5.out.skip (a := v) (s := (q, cw)) (.inl hin) (fun a t _ _ h => by
              have := walked_succ HX.out.1 a t h
              rw [HX.out.2.2.1, HX.out.2.2.2.1] at this
              exact this)
            have HBK := Lib.hid hbk
            clear hb5 hp6 hr6 hzz hin hbk z0 z1 z4 c1 ct1
            go_wp2_with fail
            go_roundg (g - (j + 1))
            case measure => rw [HG2.out]; omega
            case rel => exact ⟨j + 1, L', FL', SL', by go_num, by omega, by omega, rfl, HP6.out, HBK.out, HT.out.1, HT.out.2⟩
        · obtain rfl : j = g := by omega
          have hz : BInv (webC l) s D n L' (FOf FL') (fun a _ => a ∈ L'.take (i + 1)) := hbi.weaken (fun a t _ ht h => by
            have h1 := walked_end OK.out.byFrom (L.take i) v a t ht (by rw [List.take_add_one, hT, hLv] at h; exact h)
            rw [HE.out.2.2.1, HE.out.2.2.2] at h1
            exact h1)
          have hiK : i + 1 ≤ K := by
            have := (List.getElem?_eq_some_iff.1 hLv).1
            omega
          have HZ := Lib.hid hz
          clear hK hp hbi hg hr hT hLv hz z1 z4
          go_wp2_with fail
          go_roundg (n - (i + 1))
          case measure => rw [HG.out]; omega
          case rel => exact ⟨i + 1, L', FL', SL', by go_num, rfl, by rw [HK.out]; exact hiK, HP5.out, HZ.out⟩
    · obtain rfl : i = M := by omega
      have HPO := Lib.hid (show ParPost n l s D w (.returned (.slice (some ⟨b1, 0, none⟩) n n)) wr from ⟨b1, FL, L, rfl, hp.f, hp.lf, hbi.weaken (fun a t ha _ _ => by rw [← hM, List.take_length]; exact ha), hp.b⟩)
      clear hM hp hbi hg hr z4
      go_wp2_with fail
      go_ret
      exact HPO.out
set_option linter.unusedSimpArgs false in
set_option maxRecDepth 100000 in
set_option maxHeartbeats 8000000 in
theorem node_any (C : CA) (n N : Nat) (l : List AF) (L : List Nat) (la : Option Addr) (lc : Nat) (w : World) (ok : CsrOk n l) (see : CSee w C n l) (hN : l.length = N) (sl : See w la lc i64Cells 1 L) (hL : ∀ x ∈ L, x < n) (hLl : L.length ≤ 1048576) :
    Calls Tryz.prog 92 #[csrVal C n N, .slice la L.length lc] w fun e w' => e = .returned .nilIface ∧ Below w.heap.size w w' := by
  have hn := ok.hn
  obtain ⟨M, hM⟩ : ∃ M, L.length = M := ⟨_, rfl⟩
  have HCK := Lib.hid (fun W s => ccheck_any C n l W ok s)
  rw [hN] at HCK
  have HSN := Lib.hid (fun W => snodes_any C n N W hn)
  unfold csrVal at HSN HCK
  rw [hM] at hLl ⊢
  have HM := Lib.hid hM
  have SEE := Lib.hid see
  have SL := Lib.hid sl
  have HL := Lib.hid hL
  have HX := Lib.hid (Cells.new w 145 [.slice C.fa (n + 1) C.fc, .slice C.ta N C.tc, .slice C.wa N C.wc])
  have HB := Lib.hid ((Below.refl w.heap.size w).alloc (Nat.le_refl _) (.cells #[.slice C.fa (n + 1) C.fc, .slice C.ta N C.tc, .slice C.wa N C.wc] 145))
  clear ok see hN sl hL hM
  unfold csrVal
  go_enter Tryz.func92, Tryz.ntmps92
  go_wp2_with fail
  refine (HCK.out _ (SEE.out.below HB.out)).mono ?_
  rintro e w1 ⟨rfl, hb1⟩
  have HX1 := Lib.hid (HX.out.below (hb1.mono (by simp)) HX.out.lt)
  have HB1 := Lib.hid (HB.out.trans (hb1.mono (by simp)))
  clear hb1
  go_wp2_with fail
  go_loopg [15, 7] M (fun g vi v7 wr => ∃ k : Nat, vi = .int .i64 k ∧ k ≤ M ∧ g = M - k ∧ Cells wr w.heap.size 145 [.slice C.fa (n + 1) C.fc, .slice C.ta N C.tc, .slice C.wa N C.wc] ∧ Below w.heap.size w wr)
  case atStart => exact ⟨0, rfl, Nat.zero_le _, rfl, HX1.out, HB1.out⟩
  case round =>
    obtain ⟨k, rfl, hk, hg, hx, hbl⟩ := hrel
    have HGM := Lib.hid hg
    have HX2 := Lib.hid hx
    have HBL := Lib.hid hbl
    have x0 : wr.cell? ⟨w.heap.size, 0, none⟩ = some (.slice C.fa (n + 1) C.fc) := hx.cell rfl
    have x1 : wr.cell? ⟨w.heap.size, 1, none⟩ = some (.slice C.ta N C.tc) := hx.cell rfl
    have x2 : wr.cell? ⟨w.heap.size, 2, none⟩ = some (.slice C.wa N C.wc) := hx.cell rfl
    have l0 := hx.lt
    clear hg hx hbl HX1 HB1
    by_cases hkl : k < M
    · obtain ⟨x, hx⟩ : ∃ x, L[k]? = some x := ⟨_, List.getElem?_eq_getElem (by rw [HM.out]; exact hkl)⟩
      obtain ⟨b, o, ea, cc⟩ := SL.out.int hx
      have cc1 := ck HBL.out cc
      have hxn := HL.out x (List.mem_of_getElem? hx)
      have lb := block_lt cc1
      have q0 : decide ((x : Int) < 0) = false := by simp
      have q1 : decide ((n : Int) ≤ (x : Int)) = false := by simp; omega
      have q2 : decide (n ≤ x) = false := by simp; omega
      have EA := Lib.hid ea
      clear hx cc ea
      rw [EA.out]
      go_wp2_with fail
      refine (HSN.out _).mono ?_
      rintro e w2 ⟨rfl, hb2⟩
      have HX3 := Lib.hid (HX2.out.below hb2 HX2.out.lt)
      have HB3 := Lib.hid (HBL.out.trans (hb2.mono HBL.out.size))
      clear hb2 x0 x1 x2
      go_wp2_with fail
      rw [← EA.out]
      go_roundg (M - (k + 1))
      case measure => rw [HGM.out]; omega
      case rel => exact ⟨k + 1, by go_num, by omega, rfl, HX3.out, HB3.out⟩
    · obtain rfl : k = M := by omega
      go_wp2_with fail
      go_ret
      exact ⟨rfl, HBL.out⟩
theorem Tryz.sizeBnd : (Tryz.prog.info? 193).map (·.size) = some 3 := by kernel_rfl
set_option linter.unusedSimpArgs false in
set_option maxRecDepth 100000 in
set_option maxHeartbeats 8000000 in
theorem free_any (w : World) : Calls Tryz.prog 94 #[] w fun e w' => e = .returned (.agg #[.int .i64 4611686018427387904, .int .i64 4611686018427387904, .int .u64 18446744073709551615]) ∧ Below w.heap.size w w' := by
  have HB := Lib.hid ((Below.refl w.heap.size w).alloc (Nat.le_refl _) (.cells #[.int .i64 4611686018427387904, .int .i64 4611686018427387904, .int .u64 18446744073709551615] 193))
  have HR := Lib.hid (Cells.new w 193 [.int .i64 4611686018427387904, .int .i64 4611686018427387904, .int .u64 18446744073709551615])
  go_enter Tryz.func94, Tryz.ntmps94
  go_wp2_with fail
  refine bodyPost_ret (results_e rfl _ _ w.heap.size 193 [.int .i64 4611686018427387904, .int .i64 4611686018427387904, .int .u64 18446744073709551615] _ rfl HR.out Tryz.underlying193 rfl (by rw [Tryz.sizeBnd]; rfl)) rfl ?_
  exact ⟨rfl, HB.out⟩
def SPathPost (l : List AF) (s t : Nat) (d : Int) (w : World) (e : Ending) (w' : World) : Prop :=
  ∃ (p : List Nat) (ao : Option Addr) (cap : Nat), e = .returned (.tuple #[.slice ao p.length cap, .nilIface]) ∧ ArcPath l s t d p ∧ Nats w.heap.size w' (.slice ao p.length cap) p ∧ Below w.heap.size w w'
set_option linter.unusedSimpArgs false in
set_option maxRecDepth 100000 in
set_option maxHeartbeats 8000000 in
theorem spath_any (C : CA) (n N s t : Nat) (l : List AF) (d : Int) (w : World) (ok : CsrOk n l) (see : CSee w C n l) (hN : l.length = N) (hs : s < n) (ht : t < n) (hw : Wk (webC l) (-1) s t d) :
    Calls Tryz.prog 73 #[csrVal C n N, .int .i64 (s : Int), .int .i64 (t : Int)] w (SPathPost l s t d w) := by
  have hn := ok.hn
  have OK := Lib.hid ok
  have SEE := Lib.hid see
  have HN := Lib.hid hN
  have HW := Lib.hid hw
  have HND := Lib.hid (fun la lc W sl h => node_any C n N l [s, t] la lc W ok h hN sl (by simp; omega) (by simp))
  have HRUN := Lib.hid (fun W h => run_any C n N s l W ok h hN hs)
  unfold csrVal at HND HRUN
  have HX := Lib.hid (Cells.new w 145 [.slice C.fa (n + 1) C.fc, .slice C.ta N C.tc, .slice C.wa N C.wc])
  have HB := Lib.hid ((Below.refl w.heap.size w).alloc (Nat.le_refl _) (.cells #[.slice C.fa (n + 1) C.fc, .slice C.ta N C.tc, .slice C.wa N C.wc] 145))
  have hfr : Nats (w.heap.size + 1) ((w.alloc (.cells #[.slice C.fa (n + 1) C.fc, .slice C.ta N C.tc, .slice C.wa N C.wc] 145)).alloc (.cells #[.int .i64 (s : Int), .int .i64 (t : Int)] 3)) (.slice (some ⟨w.heap.size + 1, 0, none⟩) 2 2) [s, t] := by
    have := Nats.fresh (w.alloc (.cells #[.slice C.fa (n + 1) C.fc, .slice C.ta N C.tc, .slice C.wa N C.wc] 145)) [s, t] (by simp)
    rw [World.size_alloc] at this
    exact this
  have HFR := Lib.hid hfr
  clear ok see hN hw hfr
  unfold csrVal
  go_enter Tryz.func73, Tryz.ntmps73
  go_wp2_with fail
  refine (HND.out _ _ _ HFR.out.see.1 ((SEE.out.below HB.out).below ((Below.refl _ _).alloc (Nat.le_refl _) _))).mono ?_
  rintro e w1 ⟨rfl, hb1⟩
  have hbb := (HB.out.alloc (by simp) (.cells #[.int .i64 (s : Int), .int .i64 (t : Int)] 3)).trans (hb1.mono (by simp; omega))
  have hx1 := (HX.out.alloc (.cells #[.int .i64 (s : Int), .int .i64 (t : Int)] 3)).below hb1 (by simp; omega)
  have x0 : w1.cell? ⟨w.heap.size, 0, none⟩ = some (.slice C.fa (n + 1) C.fc) := hx1.cell rfl
  have x1 : w1.cell? ⟨w.heap.size, 1, none⟩ = some (.slice C.ta N C.tc) := hx1.cell rfl
  have x2 : w1.cell? ⟨w.heap.size, 2, none⟩ = some (.slice C.wa N C.wc) := hx1.cell rfl
  have l1 := hx1.lt
  have HB1 := Lib.hid hbb
  clear hbb hx1 hb1
  go_wp2_with fail
  go_region_held3 (fun W => W.cell? ⟨w.heap.size, 0, none⟩ = some (.slice C.fa (n + 1) C.fc) ∧ W.cell? ⟨w.heap.size, 1, none⟩ = some (.slice C.ta N C.tc) ∧ W.cell? ⟨w.heap.size, 2, none⟩ = some (.slice C.wa N C.wc)) (go_keep)
    (first
    | (go_at_call 94; (with_reducible refine (free_any _).mono ?_); rintro e w2 ⟨rfl, hb2⟩; (have j0 := ck hb2 x0); (have j1 := ck hb2 x1); (have j2 := ck hb2 x2); (have HB2 := Lib.hid (HB1.out.drew.trans (hb2.mono HB1.out.size))); clear hb2)
    | (go_at_call 93; (with_reducible refine (HRUN.out _ ?_).mono ?_); exact (SEE.out.below HB2.out); rintro e w3 ⟨Z, iv, hs3, ds, H, S, D, rfl, hr3, hS, hD, hF, hbig, hb3⟩; (have m0 := ck hb3 j0); (have m1 := ck hb3 j1); (have m2 := ck hb3 j2); (have HB3 := Lib.hid (HB2.out.trans (hb3.mono HB2.out.size))); (have HR3 := Lib.hid hr3); (have HS := Lib.hid (And.intro hS (And.intro hD (And.intro hF hbig)))); clear hb3 hr3 hS hD hF hbig))
  try dsimp only [Exit.then]
  obtain ⟨dt, hdt, hdl⟩ := HS.out.1.least t d HW.out
  obtain ⟨bt, hbt⟩ : ∃ bt, S[t]? = some bt := ⟨_, List.getElem?_eq_getElem (by rw [HR3.out.ls]; exact ht)⟩
  have hbt2 : bt = true := (HS.out.2.2.1 t bt hbt).2 ⟨dt, hdt⟩
  subst hbt2
  have z6 : w3.cell? ⟨Z.sb, 6, none⟩ = some (.slice (some ⟨Z.eb, 0, none⟩) n n) := HR3.out.st.cell rfl
  have z6b : w3.cell? ⟨Z.eb, t, none⟩ = some (.bool true) := HR3.out.se.cell (bools_get hbt)
  have le := HR3.out.se.lt
  have HDT := Lib.hid (And.intro hdt hdl)
  clear hdt hdl hbt x0 x1 x2 j0 j1 j2 m0 m1 m2
  go_wp2_with fail
  refine (parents_any _ C n N l s Z iv hs3 ds H S D w w3 OK.out SEE.out HN.out HB3.out HR3.out HS.out.1 HS.out.2.1 HS.out.2.2.2 hs).mono ?_
  rintro e w4 ⟨pb, FL, L, rfl, hfl, hfn, hbi, hb4⟩
  have HFL := Lib.hid hfl
  have HFN := Lib.hid hfn
  have HBI := Lib.hid hbi
  have HB4 := Lib.hid (HB3.out.trans (hb4.mono HB3.out.size))
  have lp := hfl.lt
  clear hfl hfn hbi hb4 z6 z6b le
  go_wp2_with fail
  have hfr : Nats w.heap.size (w4.alloc (.cells #[.int .i64 (t : Int)] 3)) (.slice (some ⟨w4.heap.size, 0, none⟩) 1 1) [t].reverse := (Nats.fresh w4 [t] (by simp)).mono HB4.out.size
  obtain ⟨k0, hk0⟩ := List.mem_iff_getElem?.1 (HBI.out.all HS.out.1 t dt HDT.out.1)
  have hwb := WayBack.start (l := l) (D := D) (L := L) hk0 HDT.out.1
  have HST := Lib.hid (And.intro hfr (And.intro hk0 hwb))
  have hpb : (Value.slice (some ⟨w4.heap.size, 0, none⟩) 1 1).ownBlock ≠ some pb := by simp [Value.ownBlock]; omega
  have HPB := Lib.hid hpb
  clear hfr hk0 hwb hpb
  go_loopg [11, 12] k0 (fun gg v11 v12 wr => ∃ (k v : Nat) (q : List Nat), v12 = .int .i64 v ∧ gg = k ∧ L[k]? = some v ∧ WayBack l D L t q k ∧ Nats w.heap.size wr v11 q.reverse ∧ v11.ownBlock ≠ some pb ∧ Cells wr pb 3 (nums FL) ∧ Below w.heap.size w wr)
  case atStart => exact ⟨k0, t, [t], rfl, rfl, HST.out.2.1, HST.out.2.2, HST.out.1, HPB.out, HFL.out.alloc _, HB4.out.alloc HB4.out.size _⟩
  case round =>
    obtain ⟨k, v, q, rfl, hg, hv, hwb, hnl, hob, hcf, hbl⟩ := hrel
    obtain ⟨ao, cap, rfl⟩ := hnl.form
    have hql : q.length ≤ n := hwb.len HBI.out
    obtain ⟨K, hK⟩ : ∃ K, q.reverse.length = K := ⟨_, rfl⟩
    have hKn : K ≤ 65536 := by rw [← hK, List.length_reverse]; omega
    rw [hK] at hnl hob ⊢
    have HK := Lib.hid hK
    have HG := Lib.hid hg
    have HV := Lib.hid (And.intro hv hwb)
    have HNL := Lib.hid hnl
    have HOB := Lib.hid hob
    have HCF := Lib.hid hcf
    have HBL := Lib.hid hbl
    have hvn : v < n := HBI.out.lt v (List.mem_of_getElem? hv)
    have lpb := hcf.lt
    by_cases hvs : v = s
    · subst hvs
      have hpath := hwb.done HS.out.1 hv HW.out
      have HPA := Lib.hid hpath
      clear hK hg hv hwb hnl hob hcf hbl hpath
      go_wp2_with fail
      refine (reverse_any w.heap.size _ _ _ HNL.out (by rw [HK.out]; omega)).mono ?_
      rintro e w5 ⟨rfl, hn5, ho5⟩
      rw [List.reverse_reverse] at hn5
      have HN5 := Lib.hid hn5
      have HB5 := Lib.hid (HBL.out.trans (ho5.below (B := w.heap.size) HBL.out.size (fun b hb => HNL.out.new b (own_mem hb))))
      clear hn5 ho5
      go_wp2_with fail
      go_returns
      have hKq : q.length = K := by rw [← HK.out, List.length_reverse]
      subst hKq
      exact ⟨q, ao, cap, rfl, HPA.out, HN5.out, HB5.out⟩
    · obtain ⟨p, hp1, hp2, hp3⟩ := hwb.step HBI.out hv hvs
      obtain ⟨y, hy⟩ : ∃ y, FOf FL v = y := ⟨_, rfl⟩
      rw [hy] at hp2 hp3
      have hyc : FL[v]? = some y := by
        rw [← hy]
        unfold FOf
        rw [List.getD_eq_getElem?_getD, List.getElem?_eq_getElem (by rw [HFN.out]; exact hvn)]
        rfl
      have cy : wr.cell? ⟨pb, v, none⟩ = some (.int .i64 (y : Int)) := hcf.cell (nums_get hyc)
      have e1 : ((v : Int) == (s : Int)) = false := by simp; omega
      have e2 : decide ((v : Int) = (s : Int)) = false := by simp; omega
      have e3 : (v == s) = false := by simp; omega
      have HP := Lib.hid (And.intro hp1 (And.intro hp2 hp3))
      clear hK hg hv hwb hnl hob hcf hbl hp1 hp2 hp3 hy hyc
      go_wp2_with (at_builtin; refine wpList_app _ rfl _ _ 28 rfl 3 (.int .i64 0) 1 8 Tryz.underlying28 Tryz.infoInt rfl (by decide) (.slice ao K cap) K (q.reverse.flatMap i64Cells) rfl ?own ⟨wr.heap.size, 0, none⟩ 1 1 (i64Cells y) rfl rfl ?c1 ?c2 ?c3 ?c4 ?_)
      case own =>
        have := HNL.out.own
        rw [HK.out] at this
        exact own_kept (bs := []) this ((Only.refl _ wr).alloc _) (fun q _ => by simp)
      case c1 => exact cells_new wr 3 (i64Cells y)
      case c2 => intro u hu; simp [i64Cells] at hu; subst hu; rfl
      case c3 => unfold maxLen; omega
      case c4 => omega
      intro ao6 cap6 w6 hown6 ho6 hk6
      have hba := (Below.refl wr.heap.size wr).alloc (Nat.le_refl _) (.cells #[.int .i64 (y : Int)] 3)
      have hn6 := (HNL.out.below hba).app [y] (m := 1) rfl (ao := ao6) (cap := cap6) (w5 := w6) (by rw [HK.out]; simpa using hown6) (by rw [HK.out]; simpa using hk6) (by have := HBL.out.size; simp; omega)
      rw [HK.out, ← List.reverse_cons] at hn6
      have hx1 : (Value.slice ao6 (K + 1) cap6).ownBlock ≠ some pb := fun h3 => by
        rcases hk6 pb h3 with h4 | h4
        · exact HOB.out h4
        · omega
      have hx2 : pb ∉ (Value.slice ao K cap).ownBlock.toList := fun h3 => HOB.out (own_mem h3)
      have H6 := Lib.hid (And.intro hn6 (And.intro hx1 (And.intro ((HCF.out.alloc _).kept ho6 hx2) ((HBL.out.trans (hba.mono HBL.out.size)).trans (ho6.below (B := w.heap.size) (by have := HBL.out.size; simp; omega) (fun k hk => HNL.out.new k (own_mem hk)))))))
      clear hown6 ho6 hk6 hba hn6 hx1 hx2
      go_wp2_with fail
      go_roundg p
      case measure => rw [HG.out]; exact HP.out.1
      case rel => exact ⟨p, y, y :: q, by go_num, rfl, HP.out.2.1, HP.out.2.2, H6.out.1, H6.out.2.1, H6.out.2.2.1, H6.out.2.2.2⟩
end Go.Proofs.YtchhbgckonpedaaGreatDoor
