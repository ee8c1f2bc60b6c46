/- unpack.plainly: a plain search of the graph. -/
import Derived.Test.YtchhbgckonpedaaGreatDoorG31
import Derived.Test.YtchhbgckonpedaaGreatDoorG34
import Derived.Test.YtchhbgckonpedaaGreatDoorG36
import Derived.Test.YtchhbgckonpedaaGreatDoorG32
import Derived.Test.YtchhbgckonpedaaGreatDoorG28
import Derived.Test.YtchhbgckonpedaaGreatDoorG24
import Derived.Deep.RegionHeldLaw
import Derived.Deep.RegionHeld3
namespace Go.Proofs.YtchhbgckonpedaaGreatDoor
open Go.ChangeShapes Go.WideShapes Go.ChangeAt Go.RowKit Go.Joins Go.Deep
set_option linter.unusedSimpArgs false in
set_option maxRecDepth 100000 in
set_option maxHeartbeats 8000000 in
theorem plainly_ok (A : HA) (h : HierD) (s t : Nat) (hk : cntOf h ≤ 262144) : PlainlyOk A h s t := by
  intro w d ls r see hc hls hch hlong hsum hm
  obtain ⟨D, E, -, hne, -⟩ := hm.parts rfl
  obtain ⟨hs, ht⟩ := nodesErr_nil.1 hne
  obtain ⟨fit, -, -, ho, -⟩ := checkErr_parts hc
  have ok := order_nil ho
  have hsn : s < h.node.length := by omega
  have htn : t < h.node.length := by omega
  have hn := fit.n
  have e1 := nodeAt_idx (ok.mem s hsn)
  have e2 := nodeAt_idx (ok.mem t htn)
  have hway : ∀ l' : List AF, l'.Perm (arcsL h) → Wk (webC l') (-1) s t d := by
    intro l' hp
    have h1 := chain_walk hc hp s ls _ _ 0 hls hch (by rw [e1]; exact .nil)
    rw [e2, hsum, Int.zero_add] at h1
    exact h1
  have hal : (arcsL h).length ≤ 262144 := by
    have := arcsTo_len h (endsOf h).length
    rw [arcsTo_all, cnt_ends hc] at this
    omega
  have HGR := Lib.hid (fun W s => graph_any A h W s (by show cntOf h ≤ _; omega))
  have SEE := Lib.hid see
  have HC := Lib.hid hc
  have HWAY := Lib.hid hway
  have HAL := Lib.hid hal
  have HCL := Lib.hid (arcs_clean hc)
  have HB := Lib.hid ((Below.refl w.heap.size w).alloc (Nat.le_refl _) (.cells (hierCells A h).toArray 25))
  unfold hierVal at HGR
  clear see hc hls hch hlong hsum hm hne hs ht fit ho ok e1 e2 hway hal D E
  unfold hierVal
  go_enter Tryz.func47, Tryz.ntmps47
  go_wp2_with fail
  refine (HGR.out _ (SEE.out.below HB.out)).mono ?_
  rintro e w1 (⟨v, -, -, hbad, -⟩ | ⟨ao, cap, la, rfl, -, hp1, hs1, ho1, hb1⟩)
  · exact absurd HC.out hbad
  have hcl1 := HCL.out.perm hp1
  have hll1 : la.length ≤ 262144 := by rw [hp1.length_eq]; exact HAL.out
  have HBU := Lib.hid (fun W see => build_any h.node.length ao cap la W see hn hll1 hcl1)
  have SA := Lib.hid ho1.see.1
  have HP1 := Lib.hid hp1
  have HB1 := Lib.hid (HB.out.trans (hb1.mono (by simp)))
  clear hp1 hs1 ho1 hb1 hcl1 hll1
  go_wp2_with fail
  refine (HBU.out _ (SA.out.alloc _)).mono ?_
  rintro e w2 ⟨C, lb, rfl, hp2, hok2, hsee2, hb2⟩
  have HB2 := Lib.hid (HB1.out.trans (((Below.refl w1.heap.size w1).alloc (Nat.le_refl _) (.cells #[.int .i64 (h.node.length : Int), .slice ao la.length cap] 52)).trans (hb2.mono (by simp)) |>.mono HB1.out.size))
  have hway := HWAY.out lb (hp2.trans HP1.out)
  have HSP := Lib.hid (fun W see => spath_any C h.node.length lb.length s t lb d W hok2 see rfl hsn htn hway)
  have SE2 := Lib.hid hsee2
  have HP2 := Lib.hid (hp2.trans HP1.out)
  unfold csrVal at HSP
  clear hp2 hok2 hsee2 hb2 hway
  unfold csrVal
  go_wp2_with fail
  refine (HSP.out _ (SE2.out.below ((Below.refl _ _).alloc (Nat.le_refl _) _))).mono ?_
  rintro e w3 ⟨p, po, pc, rfl, hpa, hpn, hb3⟩
  have hb4 := HB2.out.trans (((Below.refl w2.heap.size w2).alloc (Nat.le_refl _) (.cells #[.slice C.fa (h.node.length + 1) C.fc, .slice C.ta lb.length C.tc, .slice C.wa lb.length C.wc] 145)).trans (hb3.mono (by simp)) |>.mono HB2.out.size)
  have HPN := Lib.hid (And.intro (path_of_arcs HC.out HP2.out hpa) (And.intro (hpn.mono (C := w.heap.size) (by have := HB2.out.size; simp; omega)) hb4))
  clear hpa hpn hb3 hb4
  go_wp2_with fail
  go_returns
  exact ⟨p, po, pc, rfl, HPN.out.1, HPN.out.2.1, HPN.out.2.2⟩
theorem links_arcs {h : HierD} (hc : checkErr h = .nil) {l : List AF} (hl : l.Perm (arcsL h)) : ∀ ls : List Nat, (∀ x ∈ ls, x < cntOf h ∧ (linkAt h x).plain = true) → ∃ es : List AF, (∀ x ∈ es, x ∈ l) ∧ ls.map (stepOf h) = es.map pairA ∧ (es.map fun x : AF => x.2.2.val) = ls.map fun x => (linkAt h x).wt := by
  intro ls
  induction ls with
  | nil => intro _; exact ⟨[], by simp, rfl, rfl⟩
  | cons x ls ih =>
    intro he
    obtain ⟨es, h1, h2, h3⟩ := ih fun y hy => he y (by simp [hy])
    obtain ⟨a1, a2⟩ := he x (by simp)
    obtain ⟨y, y1, y2, y3, y4⟩ := link_arc hc a1 a2
    refine ⟨y :: es, fun z hz => ?_, ?_, ?_⟩
    · rcases List.mem_cons.1 hz with rfl | hz
      · exact hl.mem_iff.2 y1
      · exact h1 z hz
    · rw [List.map_cons, List.map_cons, h2]
      unfold stepOf pairA
      rw [y2, y3]
    · rw [List.map_cons, List.map_cons, h3, y4]
theorem path_lt {n : Nat} : ∀ p : List Nat, (∀ y ∈ steps p, y.2 < n) → (∀ s, p.head? = some s → s < n) → ∀ x ∈ p, x < n := by
  intro p
  induction p with
  | nil => intro _ _ x hx; simp at hx
  | cons a p ih =>
    intro h1 h2 x hx
    rcases List.mem_cons.1 hx with rfl | hx
    · exact h2 _ rfl
    · cases p with
      | nil => simp at hx
      | cons b p =>
        have e : steps (a :: b :: p) = (a, b) :: steps (b :: p) := rfl
        rw [e] at h1
        refine ih (fun y hy => h1 y (by simp [hy])) (fun s hs => ?_) x hx
        simp only [List.head?_cons, Option.some.injEq] at hs
        subst hs
        exact h1 (a, b) (by simp)
theorem PathIs.ok {h : HierD} (hc : checkErr h = .nil) {s t : Nat} {d : Int} {p : List Nat} (a : PathIs h s t d p) (hs : s < h.node.length) {l : List AF} (hl : l.Perm (arcsL h)) :
    p.length ≤ h.node.length ∧ ∃ es : List AF, WalkOk l es p s t ∧ ((((es.map fun x : AF => x.2.2.val).sum : Nat) : Int)) ≤ d := by
  obtain ⟨ls, h1, h2, h3⟩ := a.links
  obtain ⟨es, g1, g2, g3⟩ := links_arcs hc hl ls h1
  refine ⟨nodup_bound _ p a.nodup (path_lt p (fun y hy => ?_) (fun s' hs' => ?_)), es, ⟨a.head, a.last, a.nodup, g1, by rw [h2, g2], ?_⟩, by rw [g3]; exact h3⟩
  · rw [h2] at hy
    obtain ⟨x, hx, rfl⟩ := List.mem_map.1 hy
    exact (node_lt hc (ends_lt hc (endAt_mem hc (h1 x hx).1)).2).1
  · rw [a.head] at hs'
    simp only [Option.some.injEq] at hs'
    omega
  · exact (Clean.perm (arcs_clean hc) hl).nd
noncomputable def rgBody : Code := Tryz.f23.body.getD .skip
set_option linter.unusedSimpArgs false in
set_option maxRecDepth 100000 in
set_option maxHeartbeats 8000000 in
theorem rgraph_app {s0 s2 s4 s7 s8 s9 s10 s11 s12 s13 s14 s15 s16 s17 s18 s19 s20 s21 s22 s23 s47 s48 s49 : Value} {s24 s25 s26 s27 s28 s29 s30 s31 s32 s33 s34 s35 s36 s37 s38 s39 s40 s41 s42 s43 s44 s45 s46 : Value} {hb G eb kb b0 o0 n c0 M cap q0 q1 v0 v1 wt : Nat} {ao : Option Addr} {gn : Value} {xs : List Value} {W : World} {K1 K2 K3 : Act → World → Prop} {R : Ending → World → Prop}
    (k0 : W.cell? ⟨hb, 0, none⟩ = some (.slice (some ⟨b0, o0, none⟩) n c0)) (y1 : W.cell? ⟨eb, 0, none⟩ = some (.int .i64 (q0 : Int))) (y4 : W.cell? ⟨eb, 1, none⟩ = some (.int .i64 (q1 : Int))) (y5 : W.cell? ⟨kb, 1, none⟩ = some (.int .u64 (wt : Int)))
    (cG : Cells W G 52 [gn, .slice ao M cap]) (z0 : W.cell? ⟨b0, o0 + q0, none⟩ = some (.int .u32 (v0 : Int))) (z1 : W.cell? ⟨b0, o0 + q1, none⟩ = some (.int .u32 (v1 : Int)))
    (hq0 : q0 < n) (hq1 : q1 < n) (hv0 : v0 ≤ 65536) (hv1 : v1 ≤ 65536) (hwt : wt ≤ 2147483647) (hM : M ≤ 1048576) (hown : W.ownsRow 0 100 3 (.slice ao M cap) M xs) (hng : G ∉ (Value.slice ao M cap).ownBlock.toList)
    (nh : hb ∉ (Value.slice ao M cap).ownBlock.toList) (ne : eb ∉ (Value.slice ao M cap).ownBlock.toList) (nk : kb ∉ (Value.slice ao M cap).ownBlock.toList) (nb : b0 ∉ (Value.slice ao M cap).ownBlock.toList) (xh : hb ≠ G) (xe : eb ≠ G) (xk : kb ≠ G) (xb : b0 ≠ G)
    (hQ : ∀ (ao5 : Option Addr) (cap5 : Nat) (w5 : World) (t24 t25 t26 t27 t28 t29 t30 t31 t32 t33 t34 t35 t36 t37 t38 t39 t40 t41 t42 t43 t44 t45 t46 : Value), w5.ownsRow 0 100 3 (.slice ao5 (M + 1) cap5) (M + 1) (xs ++ [.int .i64 (v0 : Int), .int .i64 (v1 : Int), .int .i64 (wt : Int)]) →
      Only (Value.slice ao M cap).ownBlock.toList W w5 → (∀ k, (Value.slice ao5 (M + 1) cap5).ownBlock = some k → (Value.slice ao M cap).ownBlock = some k ∨ W.heap.size ≤ k) → Cells w5 G 52 [gn, .slice ao M cap] →
      K1 ⟨#[s0, .pointer (some ⟨hb, 0, none⟩), s2, .pointer (some ⟨G, 0, none⟩), s4, .pointer (some ⟨eb, 0, none⟩), .pointer (some ⟨kb, 0, none⟩), s7, s8, s9, s10, s11, s12, s13, s14, s15, s16, s17, s18, s19, s20, s21, s22, s23, t24, t25, t26, t27, t28, t29, t30, t31, t32, t33, t34, t35, t36, t37, t38, t39, t40, t41, t42, t43, t44, t45, t46, s47, s48, s49], []⟩ (w5.setCell ⟨G, 1, none⟩ (.slice ao5 (M + 1) cap5))) :
    Code.wp Tryz.prog ((regionAt 7 rgBody).getD .skip) (Exit.inBlock 1 (Exit.then K1 (Exit.then K2 (Exit.inBlock 0 (Exit.then K3 (bodyPost Tryz.prog Tryz.f23 R)))))) ⟨#[s0, .pointer (some ⟨hb, 0, none⟩), s2, .pointer (some ⟨G, 0, none⟩), s4, .pointer (some ⟨eb, 0, none⟩), .pointer (some ⟨kb, 0, none⟩), s7, s8, s9, s10, s11, s12, s13, s14, s15, s16, s17, s18, s19, s20, s21, s22, s23, s24, s25, s26, s27, s28, s29, s30, s31, s32, s33, s34, s35, s36, s37, s38, s39, s40, s41, s42, s43, s44, s45, s46, s47, s48, s49], []⟩ W := by
  have HQ := Lib.hid hQ
  have g1 : W.cell? ⟨G, 1, none⟩ = some (.slice ao M cap) := cG.cell rfl
  have f1 := cG.frozen 1
  have lG := cG.lt
  have lb := block_lt z0
  have le := block_lt y1
  have lk := block_lt y5
  have lh := block_lt k0
  have cv0 := IntWalk.i64_in (v0 : Int) (by omega)
  have cv1 := IntWalk.i64_in (v1 : Int) (by omega)
  have cwt := IntWalk.i64_in (wt : Int) (by omega)
  have HC := Lib.hid cG
  have HO := Lib.hid hown
  have HN := Lib.hid hng
  clear hQ cG hown hng
  have NH := Lib.hid nh
  have NE := Lib.hid ne
  have NK := Lib.hid nk
  have NB := Lib.hid nb
  clear nh ne nb nk
  have K0 := Lib.hid (And.intro k0 (And.intro y1 (And.intro y4 (And.intro y5 (And.intro z0 z1)))))
  conv => arg 2; whnf
  refine wp_region_held_drew (S := fun w' => w'.cell? ⟨hb, 0, none⟩ = some (.slice (some ⟨b0, o0, none⟩) n c0) ∧ w'.cell? ⟨eb, 0, none⟩ = some (.int .i64 (q0 : Int)) ∧ w'.cell? ⟨eb, 1, none⟩ = some (.int .i64 (q1 : Int)) ∧ w'.cell? ⟨kb, 1, none⟩ = some (.int .u64 (wt : Int)) ∧ w'.cell? ⟨b0, o0 + q0, none⟩ = some (.int .u32 (v0 : Int)) ∧ w'.cell? ⟨b0, o0 + q1, none⟩ = some (.int .u32 (v1 : Int))) (by kernel_rfl) K0.out (fun hHeld => ?_)
  simp only [List.size_toArray, List.length_cons, List.length_nil, Nat.reduceAdd, Array.replicate_succ, Array.replicate_zero, List.push_toArray, List.nil_append, List.cons_append]
  refine wpAnyH_take (i := 0) (oi := { dst := some 24, op := Op.fieldAddr 52 (Operand.tmp 3) 1, type := 0, pos := "ref.go:166", after := #[], guard := none }) (v := .pointer (some ⟨G, 1, none⟩)) rfl (by kernel_rfl) (by kernel_rfl) (by kernel_rfl) (fun c a w' h => h) (Or.inl ⟨by rfl, ?_⟩) hHeld ?_
  · intro W hSw
    try dsimp only at hSw
    clear hSw
    clear hHeld
    go_simp
  simp only [Act.put, List.setIfInBounds_toArray, List.set_cons_zero, List.set_cons_succ]
  refine wpAnyH_take (i := 2) (oi := { dst := some 26, op := Op.fieldAddr 25 (Operand.tmp 1) 0, type := 0, pos := "ref.go:166", after := #[], guard := none }) (v := .pointer (some ⟨hb, 0, none⟩)) rfl (by kernel_rfl) (by kernel_rfl) (by kernel_rfl) (fun c a w' h => h) (Or.inl ⟨by rfl, ?_⟩) hHeld ?_
  · intro W hSw
    try dsimp only at hSw
    clear hSw
    clear hHeld
    go_simp
  simp only [Act.put, List.setIfInBounds_toArray, List.set_cons_zero, List.set_cons_succ]
  refine wpAnyH_take (i := 3) (oi := { dst := some 27, op := Op.load 22 (Operand.tmp 26), type := 22, pos := "ref.go:166", after := #[{ on := 2, ground := Ground.data }], guard := none }) (v := .slice (some ⟨b0, o0, none⟩) n c0) rfl (by kernel_rfl) (by kernel_rfl) (by kernel_rfl) (fun c a w' h => h) (Or.inl ⟨by rfl, ?_⟩) hHeld ?_
  · intro W hSw
    try dsimp only at hSw
    obtain ⟨m0, m1, m2, m3, m4, m5⟩ := hSw
    clear hHeld
    go_simp
  simp only [Act.put, List.setIfInBounds_toArray, List.set_cons_zero, List.set_cons_succ]
  refine wpAnyH_take (i := 4) (oi := { dst := some 28, op := Op.fieldAddr 59 (Operand.tmp 5) 0, type := 0, pos := "ref.go:166", after := #[], guard := none }) (v := .pointer (some ⟨eb, 0, none⟩)) rfl (by kernel_rfl) (by kernel_rfl) (by kernel_rfl) (fun c a w' h => h) (Or.inl ⟨by rfl, ?_⟩) hHeld ?_
  · intro W hSw
    try dsimp only at hSw
    clear hSw
    clear hHeld
    go_simp
  simp only [Act.put, List.setIfInBounds_toArray, List.set_cons_zero, List.set_cons_succ]
  refine wpAnyH_take (i := 5) (oi := { dst := some 29, op := Op.load 3 (Operand.tmp 28), type := 3, pos := "ref.go:166", after := #[{ on := 4, ground := Ground.data }], guard := none }) (v := .int .i64 (q0 : Int)) rfl (by kernel_rfl) (by kernel_rfl) (by kernel_rfl) (fun c a w' h => h) (Or.inl ⟨by rfl, ?_⟩) hHeld ?_
  · intro W hSw
    try dsimp only at hSw
    obtain ⟨m0, m1, m2, m3, m4, m5⟩ := hSw
    clear hHeld
    go_simp
  simp only [Act.put, List.setIfInBounds_toArray, List.set_cons_zero, List.set_cons_succ]
  refine wpAnyH_take (i := 6) (oi := { dst := some 30, op := Op.indexAddr 22 (Operand.tmp 27) (Operand.tmp 29), type := 0, pos := "ref.go:166", after := #[{ on := 3, ground := Ground.data }, { on := 5, ground := Ground.data }], guard := none }) (v := .pointer (some ⟨b0, o0 + q0, none⟩)) rfl (by kernel_rfl) (by kernel_rfl) (by kernel_rfl) (fun c a w' h => h) (Or.inl ⟨by rfl, ?_⟩) hHeld ?_
  · intro W hSw
    try dsimp only at hSw
    clear hSw
    clear hHeld
    go_simp
  simp only [Act.put, List.setIfInBounds_toArray, List.set_cons_zero, List.set_cons_succ]
  refine wpAnyH_take (i := 7) (oi := { dst := some 31, op := Op.load 62 (Operand.tmp 30), type := 62, pos := "ref.go:166", after := #[{ on := 6, ground := Ground.data }], guard := none }) (v := .int .u32 (v0 : Int)) rfl (by kernel_rfl) (by kernel_rfl) (by kernel_rfl) (fun c a w' h => h) (Or.inl ⟨by rfl, ?_⟩) hHeld ?_
  · intro W hSw
    try dsimp only at hSw
    obtain ⟨m0, m1, m2, m3, m4, m5⟩ := hSw
    clear hHeld
    go_simp
  simp only [Act.put, List.setIfInBounds_toArray, List.set_cons_zero, List.set_cons_succ]
  refine wpAnyH_take (i := 8) (oi := { dst := some 32, op := Op.convert 62 3 (Operand.tmp 31), type := 3, pos := "ref.go:166", after := #[{ on := 7, ground := Ground.data }], guard := none }) (v := .int .i64 (v0 : Int)) rfl (by kernel_rfl) (by kernel_rfl) (by kernel_rfl) (fun c a w' h => h) (Or.inl ⟨by rfl, ?_⟩) hHeld ?_
  · intro W hSw
    try dsimp only at hSw
    clear hSw
    clear hHeld
    go_simp
  simp only [Act.put, List.setIfInBounds_toArray, List.set_cons_zero, List.set_cons_succ]
  refine wpAnyH_take (i := 9) (oi := { dst := some 33, op := Op.fieldAddr 25 (Operand.tmp 1) 0, type := 0, pos := "ref.go:166", after := #[], guard := none }) (v := .pointer (some ⟨hb, 0, none⟩)) rfl (by kernel_rfl) (by kernel_rfl) (by kernel_rfl) (fun c a w' h => h) (Or.inl ⟨by rfl, ?_⟩) hHeld ?_
  · intro W hSw
    try dsimp only at hSw
    clear hSw
    clear hHeld
    go_simp
  simp only [Act.put, List.setIfInBounds_toArray, List.set_cons_zero, List.set_cons_succ]
  refine wpAnyH_take (i := 10) (oi := { dst := some 34, op := Op.load 22 (Operand.tmp 33), type := 22, pos := "ref.go:166", after := #[{ on := 9, ground := Ground.data }], guard := none }) (v := .slice (some ⟨b0, o0, none⟩) n c0) rfl (by kernel_rfl) (by kernel_rfl) (by kernel_rfl) (fun c a w' h => h) (Or.inl ⟨by rfl, ?_⟩) hHeld ?_
  · intro W hSw
    try dsimp only at hSw
    obtain ⟨m0, m1, m2, m3, m4, m5⟩ := hSw
    clear hHeld
    go_simp
  simp only [Act.put, List.setIfInBounds_toArray, List.set_cons_zero, List.set_cons_succ]
  refine wpAnyH_take (i := 11) (oi := { dst := some 35, op := Op.fieldAddr 59 (Operand.tmp 5) 1, type := 0, pos := "ref.go:166", after := #[], guard := none }) (v := .pointer (some ⟨eb, 1, none⟩)) rfl (by kernel_rfl) (by kernel_rfl) (by kernel_rfl) (fun c a w' h => h) (Or.inl ⟨by rfl, ?_⟩) hHeld ?_
  · intro W hSw
    try dsimp only at hSw
    clear hSw
    clear hHeld
    go_simp
  simp only [Act.put, List.setIfInBounds_toArray, List.set_cons_zero, List.set_cons_succ]
  refine wpAnyH_take (i := 12) (oi := { dst := some 36, op := Op.load 3 (Operand.tmp 35), type := 3, pos := "ref.go:166", after := #[{ on := 11, ground := Ground.data }], guard := none }) (v := .int .i64 (q1 : Int)) rfl (by kernel_rfl) (by kernel_rfl) (by kernel_rfl) (fun c a w' h => h) (Or.inl ⟨by rfl, ?_⟩) hHeld ?_
  · intro W hSw
    try dsimp only at hSw
    obtain ⟨m0, m1, m2, m3, m4, m5⟩ := hSw
    clear hHeld
    go_simp
  simp only [Act.put, List.setIfInBounds_toArray, List.set_cons_zero, List.set_cons_succ]
  refine wpAnyH_take (i := 13) (oi := { dst := some 37, op := Op.indexAddr 22 (Operand.tmp 34) (Operand.tmp 36), type := 0, pos := "ref.go:166", after := #[{ on := 10, ground := Ground.data }, { on := 12, ground := Ground.data }], guard := none }) (v := .pointer (some ⟨b0, o0 + q1, none⟩)) rfl (by kernel_rfl) (by kernel_rfl) (by kernel_rfl) (fun c a w' h => h) (Or.inl ⟨by rfl, ?_⟩) hHeld ?_
  · intro W hSw
    try dsimp only at hSw
    clear hSw
    clear hHeld
    go_simp
  simp only [Act.put, List.setIfInBounds_toArray, List.set_cons_zero, List.set_cons_succ]
  refine wpAnyH_take (i := 14) (oi := { dst := some 38, op := Op.load 62 (Operand.tmp 37), type := 62, pos := "ref.go:166", after := #[{ on := 13, ground := Ground.data }], guard := none }) (v := .int .u32 (v1 : Int)) rfl (by kernel_rfl) (by kernel_rfl) (by kernel_rfl) (fun c a w' h => h) (Or.inl ⟨by rfl, ?_⟩) hHeld ?_
  · intro W hSw
    try dsimp only at hSw
    obtain ⟨m0, m1, m2, m3, m4, m5⟩ := hSw
    clear hHeld
    go_simp
  simp only [Act.put, List.setIfInBounds_toArray, List.set_cons_zero, List.set_cons_succ]
  refine wpAnyH_take (i := 15) (oi := { dst := some 39, op := Op.convert 62 3 (Operand.tmp 38), type := 3, pos := "ref.go:166", after := #[{ on := 14, ground := Ground.data }], guard := none }) (v := .int .i64 (v1 : Int)) rfl (by kernel_rfl) (by kernel_rfl) (by kernel_rfl) (fun c a w' h => h) (Or.inl ⟨by rfl, ?_⟩) hHeld ?_
  · intro W hSw
    try dsimp only at hSw
    clear hSw
    clear hHeld
    go_simp
  simp only [Act.put, List.setIfInBounds_toArray, List.set_cons_zero, List.set_cons_succ]
  refine wpAnyH_take (i := 16) (oi := { dst := some 40, op := Op.fieldAddr 65 (Operand.tmp 6) 1, type := 0, pos := "ref.go:166", after := #[], guard := none }) (v := .pointer (some ⟨kb, 1, none⟩)) rfl (by kernel_rfl) (by kernel_rfl) (by kernel_rfl) (fun c a w' h => h) (Or.inl ⟨by rfl, ?_⟩) hHeld ?_
  · intro W hSw
    try dsimp only at hSw
    clear hSw
    clear hHeld
    go_simp
  simp only [Act.put, List.setIfInBounds_toArray, List.set_cons_zero, List.set_cons_succ]
  refine wpAnyH_take (i := 17) (oi := { dst := some 41, op := Op.load 45 (Operand.tmp 40), type := 45, pos := "ref.go:166", after := #[{ on := 16, ground := Ground.data }], guard := none }) (v := .int .u64 (wt : Int)) rfl (by kernel_rfl) (by kernel_rfl) (by kernel_rfl) (fun c a w' h => h) (Or.inl ⟨by rfl, ?_⟩) hHeld ?_
  · intro W hSw
    try dsimp only at hSw
    obtain ⟨m0, m1, m2, m3, m4, m5⟩ := hSw
    clear hHeld
    go_simp
  simp only [Act.put, List.setIfInBounds_toArray, List.set_cons_zero, List.set_cons_succ]
  refine wpAnyH_take (i := 18) (oi := { dst := some 42, op := Op.convert 45 3 (Operand.tmp 41), type := 3, pos := "ref.go:166", after := #[{ on := 17, ground := Ground.data }], guard := none }) (v := .int .i64 (wt : Int)) rfl (by kernel_rfl) (by kernel_rfl) (by kernel_rfl) (fun c a w' h => h) (Or.inl ⟨by rfl, ?_⟩) hHeld ?_
  · intro W hSw
    try dsimp only at hSw
    clear hSw
    clear hHeld
    go_simp
  simp only [Act.put, List.setIfInBounds_toArray, List.set_cons_zero, List.set_cons_succ]
  refine wpAnyH_take (i := 19) (oi := { dst := some 43, op := Op.build 100 #[(0, Operand.tmp 32), (1, Operand.tmp 39), (2, Operand.tmp 42)], type := 100, pos := "ref.go:166", after := #[{ on := 8, ground := Ground.data }, { on := 15, ground := Ground.data }, { on := 18, ground := Ground.data }], guard := none }) (v := .agg #[.int .i64 (v0 : Int), .int .i64 (v1 : Int), .int .i64 (wt : Int)]) rfl (by kernel_rfl) (by kernel_rfl) (by kernel_rfl) (fun c a w' h => h) (Or.inl ⟨by rfl, ?_⟩) hHeld ?_
  · intro W hSw
    try dsimp only at hSw
    clear hSw
    clear hHeld
    go_simp
  simp only [Act.put, List.setIfInBounds_toArray, List.set_cons_zero, List.set_cons_succ]
  refine wpAnyH_ready (rs := [1, 20]) (by kernel_rfl) (by simp) ?_
  refine AllReadyH.cons (o := { dst := some 25, op := Op.load 50 (Operand.tmp 24), type := 50, pos := "ref.go:166", after := #[{ on := 0, ground := Ground.data }], guard := none }) rfl (fun K hK => ?_) (AllReadyH.cons (o := { dst := some 44, op := Op.buildSlice 50 1 #[(0, Operand.tmp 43)], type := 50, pos := "ref.go:166", after := #[{ on := 19, ground := Ground.data }], guard := none }) rfl (fun K hK => ?_) AllReadyH.nil)
  · go_simp
    refine hK.out _ _ hHeld (fun hHeld => ?_)
    clear hK K
    simp only [Act.put, List.setIfInBounds_toArray, List.set_cons_zero, List.set_cons_succ]
    refine wpAnyH_ready (rs := [20]) (by kernel_rfl) (by simp) (AllReadyH.cons (o := { dst := some 44, op := Op.buildSlice 50 1 #[(0, Operand.tmp 43)], type := 50, pos := "ref.go:166", after := #[{ on := 19, ground := Ground.data }], guard := none }) rfl (fun K hK => ?_) AllReadyH.nil)
    go_simp
    have hba : Below W.heap.size W (W.alloc (.cells #[.int .i64 (v0 : Int), .int .i64 (v1 : Int), .int .i64 (wt : Int)] 100)).drew := ((Below.refl _ _).alloc (Nat.le_refl _) _).drew
    have x1 := (HC.out.alloc (.cells #[.int .i64 (v0 : Int), .int .i64 (v1 : Int), .int .i64 (wt : Int)] 100)).drew
    have x2 : (W.alloc (.cells #[.int .i64 (v0 : Int), .int .i64 (v1 : Int), .int .i64 (wt : Int)] 100)).drew.ownsRow 0 100 3 (.slice ao M cap) M xs := own_kept (bs := []) HO.out (((Only.refl _ W).alloc (.cells #[.int .i64 (v0 : Int), .int .i64 (v1 : Int), .int .i64 (wt : Int)] 100)).drew) (fun q _ => by simp)
    have x3 : ∀ (j : Nat) (u : Value), ([.int .i64 (v0 : Int), .int .i64 (v1 : Int), .int .i64 (wt : Int)] : List Value)[j]? = some u → (W.alloc (.cells #[.int .i64 (v0 : Int), .int .i64 (v1 : Int), .int .i64 (wt : Int)] 100)).drew.cell? ((⟨W.heap.size, 0, none⟩ : Addr).add j) = some u := fun j u hu => cells_new W 100 [.int .i64 (v0 : Int), .int .i64 (v1 : Int), .int .i64 (wt : Int)] j u hu
    have x4 := hba
    refine hK.out _ _ ⟨ck hba K0.out.1, ck hba K0.out.2.1, ck hba K0.out.2.2.1, ck hba K0.out.2.2.2.1, ck hba K0.out.2.2.2.2.1, ck hba K0.out.2.2.2.2.2⟩ (fun hHeld => ?_)
    clear hK K hba
    simp only [Act.put, List.setIfInBounds_toArray, List.set_cons_zero, List.set_cons_succ]
    obtain ⟨wa, hwa⟩ : ∃ wa, (W.alloc (.cells #[.int .i64 (v0 : Int), .int .i64 (v1 : Int), .int .i64 (wt : Int)] 100)).drew = wa := ⟨_, rfl⟩
    rw [hwa] at x1 x2 x3 x4 hHeld ⊢
    clear hwa
    have HA1 := Lib.hid x1
    have HA2 := Lib.hid x2
    have HA3 := Lib.hid x3
    have HAB := Lib.hid x4
    have ga : wa.cell? ⟨G, 1, none⟩ = some (.slice ao M cap) := x1.cell rfl
    clear x1 x2 x3 x4
    refine wpAnyH_ready (rs := [21]) (by kernel_rfl) (by simp) (AllReadyH.cons (o := { dst := some 45, op := Op.call { callee := Callee.builtin Builtin.append, args := #[Operand.tmp 25, Operand.tmp 44], argTypes := #[50, 50] }, type := 50, pos := "ref.go:166", after := #[{ on := 1, ground := Ground.data }, { on := 20, ground := Ground.data }], guard := none }) rfl (fun K hK => ?_) AllReadyH.nil)
    refine step_app rfl (.tmp 25) (.tmp 44) 50 rfl 100 (.agg #[.int .i64 0, .int .i64 0, .int .i64 0]) 3 24 Tryz.underlying50 Tryz.infoArc rfl (by decide) (.slice ao M cap) M xs rfl HA2.out ⟨W.heap.size, 0, none⟩ 1 1 [.int .i64 (v0 : Int), .int .i64 (v1 : Int), .int .i64 (wt : Int)] rfl rfl HA3.out (by intro u hu; simp at hu; rcases hu with rfl | rfl | rfl <;> rfl) (by unfold maxLen; omega) (by omega) ?_
    intro ao5 cap5 w5 hown5 ho5 hk5
    have hc5 := HA1.out.kept ho5 HN.out
    have hOW : Only (Value.slice ao M cap).ownBlock.toList W w5 := (Only.of_below HAB.out).trans ho5 (fun x hx => .inl hx)
    have hk6 : ∀ k, (Value.slice ao5 (M + 1) cap5).ownBlock = some k → (Value.slice ao M cap).ownBlock = some k ∨ W.heap.size ≤ k := fun k hk => (hk5 k hk).imp id (fun h => Nat.le_trans HAB.out.size h)
    have p5 : w5.cell? ⟨G, 1, none⟩ = some (.slice ao M cap) := hc5.cell rfl
    have f5 := hc5.frozen 1
    have l5 := hc5.lt
    have s0' := hOW.cell K0.out.1 NH.out
    have s1' := hOW.cell K0.out.2.1 NE.out
    have s2' := hOW.cell K0.out.2.2.1 NE.out
    have s3' := hOW.cell K0.out.2.2.2.1 NK.out
    have s4' := hOW.cell K0.out.2.2.2.2.1 NB.out
    have s5' := hOW.cell K0.out.2.2.2.2.2 NB.out
    have HC5 := Lib.hid hc5
    have HO5 := Lib.hid hown5
    have HY5 := Lib.hid hOW
    have HK6 := Lib.hid hk6
    have HS5 := Lib.hid (And.intro s0' (And.intro s1' (And.intro s2' (And.intro s3' (And.intro s4' s5')))))
    refine hK.out _ _ HS5.out (fun hHeld => ?_)
    clear hK K hc5 hown5 ho5 hk5 hOW hk6 s0' s1' s2' s3' s4' s5'
    simp only [Act.put, List.setIfInBounds_toArray, List.set_cons_zero, List.set_cons_succ]
    refine wpAnyH_take (i := 22) (oi := { dst := some 46, op := Op.fieldAddr 52 (Operand.tmp 3) 1, type := 0, pos := "ref.go:166", after := #[{ on := 0, ground := Ground.phase }, { on := 1, ground := Ground.phase }, { on := 2, ground := Ground.phase }, { on := 3, ground := Ground.phase }, { on := 4, ground := Ground.phase }, { on := 5, ground := Ground.phase }, { on := 6, ground := Ground.phase }, { on := 7, ground := Ground.phase }, { on := 8, ground := Ground.phase }, { on := 9, ground := Ground.phase }, { on := 10, ground := Ground.phase }, { on := 11, ground := Ground.phase }, { on := 12, ground := Ground.phase }, { on := 13, ground := Ground.phase }, { on := 14, ground := Ground.phase }, { on := 15, ground := Ground.phase }, { on := 16, ground := Ground.phase }, { on := 17, ground := Ground.phase }, { on := 18, ground := Ground.phase }, { on := 19, ground := Ground.phase }, { on := 20, ground := Ground.phase }, { on := 21, ground := Ground.phase }], guard := none }) (v := .pointer (some ⟨G, 1, none⟩)) rfl (by kernel_rfl) (by kernel_rfl) (by kernel_rfl) (fun c a w' h => h) (Or.inl ⟨by rfl, ?_⟩) hHeld ?_
    · intro W hSw
      try dsimp only at hSw
      clear hSw
      clear hHeld
      go_simp
    simp only [Act.put, List.setIfInBounds_toArray, List.set_cons_zero, List.set_cons_succ]
    refine wpAnyH_ready (rs := [23]) (by kernel_rfl) (by simp) (AllReadyH.cons (o := { dst := none, op := Op.store 50 (Operand.tmp 46) (Operand.tmp 45), type := 0, pos := "ref.go:166", after := #[{ on := 22, ground := Ground.data }, { on := 21, ground := Ground.data }, { on := 21, ground := Ground.chain }, { on := 0, ground := Ground.phase }, { on := 1, ground := Ground.phase }, { on := 2, ground := Ground.phase }, { on := 3, ground := Ground.phase }, { on := 4, ground := Ground.phase }, { on := 5, ground := Ground.phase }, { on := 6, ground := Ground.phase }, { on := 7, ground := Ground.phase }, { on := 8, ground := Ground.phase }, { on := 9, ground := Ground.phase }, { on := 10, ground := Ground.phase }, { on := 11, ground := Ground.phase }, { on := 12, ground := Ground.phase }, { on := 13, ground := Ground.phase }, { on := 14, ground := Ground.phase }, { on := 15, ground := Ground.phase }, { on := 16, ground := Ground.phase }, { on := 17, ground := Ground.phase }, { on := 18, ground := Ground.phase }, { on := 19, ground := Ground.phase }, { on := 20, ground := Ground.phase }, { on := 21, ground := Ground.phase }], guard := none }) rfl (fun K hK => ?_) AllReadyH.nil)
    go_simp
    have hfar : ∀ (b o : Nat) (v : Value), b ≠ G → w5.cell? ⟨b, o, none⟩ = some v → (w5.setCell ⟨G, 1, none⟩ (.slice ao5 (M + 1) cap5)).cell? ⟨b, o, none⟩ = some v := fun b o v hne hv => ((Only.refl [G] w5).setCell (p := ⟨G, 1, none⟩) (by simp) _).cell hv (by simpa using hne)
    refine hK.out _ _ ⟨hfar _ _ _ xh HS5.out.1, hfar _ _ _ xe HS5.out.2.1, hfar _ _ _ xe HS5.out.2.2.1, hfar _ _ _ xk HS5.out.2.2.2.1, hfar _ _ _ xb HS5.out.2.2.2.2.1, hfar _ _ _ xb HS5.out.2.2.2.2.2⟩ (fun hHeld => ?_)
    clear hK K hHeld
    try simp only [Act.put, List.setIfInBounds_toArray, List.set_cons_zero, List.set_cons_succ]
    refine wpAnyH_done (by kernel_rfl) ?_ _
    exact HQ.out ao5 cap5 w5 _ _ _ _ _ _ _ _ _ _ _ _ _ _ _ _ _ _ _ _ _ _ _ HO5.out HY5.out HK6.out HC5.out
  · go_simp
    have hba : Below W.heap.size W (W.alloc (.cells #[.int .i64 (v0 : Int), .int .i64 (v1 : Int), .int .i64 (wt : Int)] 100)).drew := ((Below.refl _ _).alloc (Nat.le_refl _) _).drew
    have x1 := (HC.out.alloc (.cells #[.int .i64 (v0 : Int), .int .i64 (v1 : Int), .int .i64 (wt : Int)] 100)).drew
    have x2 : (W.alloc (.cells #[.int .i64 (v0 : Int), .int .i64 (v1 : Int), .int .i64 (wt : Int)] 100)).drew.ownsRow 0 100 3 (.slice ao M cap) M xs := own_kept (bs := []) HO.out (((Only.refl _ W).alloc (.cells #[.int .i64 (v0 : Int), .int .i64 (v1 : Int), .int .i64 (wt : Int)] 100)).drew) (fun q _ => by simp)
    have x3 : ∀ (j : Nat) (u : Value), ([.int .i64 (v0 : Int), .int .i64 (v1 : Int), .int .i64 (wt : Int)] : List Value)[j]? = some u → (W.alloc (.cells #[.int .i64 (v0 : Int), .int .i64 (v1 : Int), .int .i64 (wt : Int)] 100)).drew.cell? ((⟨W.heap.size, 0, none⟩ : Addr).add j) = some u := fun j u hu => cells_new W 100 [.int .i64 (v0 : Int), .int .i64 (v1 : Int), .int .i64 (wt : Int)] j u hu
    have x4 := hba
    refine hK.out _ _ ⟨ck hba K0.out.1, ck hba K0.out.2.1, ck hba K0.out.2.2.1, ck hba K0.out.2.2.2.1, ck hba K0.out.2.2.2.2.1, ck hba K0.out.2.2.2.2.2⟩ (fun hHeld => ?_)
    clear hK K hba
    simp only [Act.put, List.setIfInBounds_toArray, List.set_cons_zero, List.set_cons_succ]
    obtain ⟨wa, hwa⟩ : ∃ wa, (W.alloc (.cells #[.int .i64 (v0 : Int), .int .i64 (v1 : Int), .int .i64 (wt : Int)] 100)).drew = wa := ⟨_, rfl⟩
    rw [hwa] at x1 x2 x3 x4 hHeld ⊢
    clear hwa
    have HA1 := Lib.hid x1
    have HA2 := Lib.hid x2
    have HA3 := Lib.hid x3
    have HAB := Lib.hid x4
    have ga : wa.cell? ⟨G, 1, none⟩ = some (.slice ao M cap) := x1.cell rfl
    clear x1 x2 x3 x4
    refine wpAnyH_ready (rs := [1]) (by kernel_rfl) (by simp) (AllReadyH.cons (o := { dst := some 25, op := Op.load 50 (Operand.tmp 24), type := 50, pos := "ref.go:166", after := #[{ on := 0, ground := Ground.data }], guard := none }) rfl (fun K hK => ?_) AllReadyH.nil)
    go_simp
    refine hK.out _ _ hHeld (fun hHeld => ?_)
    clear hK K
    simp only [Act.put, List.setIfInBounds_toArray, List.set_cons_zero, List.set_cons_succ]
    refine wpAnyH_ready (rs := [21]) (by kernel_rfl) (by simp) (AllReadyH.cons (o := { dst := some 45, op := Op.call { callee := Callee.builtin Builtin.append, args := #[Operand.tmp 25, Operand.tmp 44], argTypes := #[50, 50] }, type := 50, pos := "ref.go:166", after := #[{ on := 1, ground := Ground.data }, { on := 20, ground := Ground.data }], guard := none }) rfl (fun K hK => ?_) AllReadyH.nil)
    refine step_app rfl (.tmp 25) (.tmp 44) 50 rfl 100 (.agg #[.int .i64 0, .int .i64 0, .int .i64 0]) 3 24 Tryz.underlying50 Tryz.infoArc rfl (by decide) (.slice ao M cap) M xs rfl HA2.out ⟨W.heap.size, 0, none⟩ 1 1 [.int .i64 (v0 : Int), .int .i64 (v1 : Int), .int .i64 (wt : Int)] rfl rfl HA3.out (by intro u hu; simp at hu; rcases hu with rfl | rfl | rfl <;> rfl) (by unfold maxLen; omega) (by omega) ?_
    intro ao5 cap5 w5 hown5 ho5 hk5
    have hc5 := HA1.out.kept ho5 HN.out
    have hOW : Only (Value.slice ao M cap).ownBlock.toList W w5 := (Only.of_below HAB.out).trans ho5 (fun x hx => .inl hx)
    have hk6 : ∀ k, (Value.slice ao5 (M + 1) cap5).ownBlock = some k → (Value.slice ao M cap).ownBlock = some k ∨ W.heap.size ≤ k := fun k hk => (hk5 k hk).imp id (fun h => Nat.le_trans HAB.out.size h)
    have p5 : w5.cell? ⟨G, 1, none⟩ = some (.slice ao M cap) := hc5.cell rfl
    have f5 := hc5.frozen 1
    have l5 := hc5.lt
    have s0' := hOW.cell K0.out.1 NH.out
    have s1' := hOW.cell K0.out.2.1 NE.out
    have s2' := hOW.cell K0.out.2.2.1 NE.out
    have s3' := hOW.cell K0.out.2.2.2.1 NK.out
    have s4' := hOW.cell K0.out.2.2.2.2.1 NB.out
    have s5' := hOW.cell K0.out.2.2.2.2.2 NB.out
    have HC5 := Lib.hid hc5
    have HO5 := Lib.hid hown5
    have HY5 := Lib.hid hOW
    have HK6 := Lib.hid hk6
    have HS5 := Lib.hid (And.intro s0' (And.intro s1' (And.intro s2' (And.intro s3' (And.intro s4' s5')))))
    refine hK.out _ _ HS5.out (fun hHeld => ?_)
    clear hK K hc5 hown5 ho5 hk5 hOW hk6 s0' s1' s2' s3' s4' s5'
    simp only [Act.put, List.setIfInBounds_toArray, List.set_cons_zero, List.set_cons_succ]
    refine wpAnyH_take (i := 22) (oi := { dst := some 46, op := Op.fieldAddr 52 (Operand.tmp 3) 1, type := 0, pos := "ref.go:166", after := #[{ on := 0, ground := Ground.phase }, { on := 1, ground := Ground.phase }, { on := 2, ground := Ground.phase }, { on := 3, ground := Ground.phase }, { on := 4, ground := Ground.phase }, { on := 5, ground := Ground.phase }, { on := 6, ground := Ground.phase }, { on := 7, ground := Ground.phase }, { on := 8, ground := Ground.phase }, { on := 9, ground := Ground.phase }, { on := 10, ground := Ground.phase }, { on := 11, ground := Ground.phase }, { on := 12, ground := Ground.phase }, { on := 13, ground := Ground.phase }, { on := 14, ground := Ground.phase }, { on := 15, ground := Ground.phase }, { on := 16, ground := Ground.phase }, { on := 17, ground := Ground.phase }, { on := 18, ground := Ground.phase }, { on := 19, ground := Ground.phase }, { on := 20, ground := Ground.phase }, { on := 21, ground := Ground.phase }], guard := none }) (v := .pointer (some ⟨G, 1, none⟩)) rfl (by kernel_rfl) (by kernel_rfl) (by kernel_rfl) (fun c a w' h => h) (Or.inl ⟨by rfl, ?_⟩) hHeld ?_
    · intro W hSw
      try dsimp only at hSw
      clear hSw
      clear hHeld
      go_simp
    simp only [Act.put, List.setIfInBounds_toArray, List.set_cons_zero, List.set_cons_succ]
    refine wpAnyH_ready (rs := [23]) (by kernel_rfl) (by simp) (AllReadyH.cons (o := { dst := none, op := Op.store 50 (Operand.tmp 46) (Operand.tmp 45), type := 0, pos := "ref.go:166", after := #[{ on := 22, ground := Ground.data }, { on := 21, ground := Ground.data }, { on := 21, ground := Ground.chain }, { on := 0, ground := Ground.phase }, { on := 1, ground := Ground.phase }, { on := 2, ground := Ground.phase }, { on := 3, ground := Ground.phase }, { on := 4, ground := Ground.phase }, { on := 5, ground := Ground.phase }, { on := 6, ground := Ground.phase }, { on := 7, ground := Ground.phase }, { on := 8, ground := Ground.phase }, { on := 9, ground := Ground.phase }, { on := 10, ground := Ground.phase }, { on := 11, ground := Ground.phase }, { on := 12, ground := Ground.phase }, { on := 13, ground := Ground.phase }, { on := 14, ground := Ground.phase }, { on := 15, ground := Ground.phase }, { on := 16, ground := Ground.phase }, { on := 17, ground := Ground.phase }, { on := 18, ground := Ground.phase }, { on := 19, ground := Ground.phase }, { on := 20, ground := Ground.phase }, { on := 21, ground := Ground.phase }], guard := none }) rfl (fun K hK => ?_) AllReadyH.nil)
    go_simp
    have hfar : ∀ (b o : Nat) (v : Value), b ≠ G → w5.cell? ⟨b, o, none⟩ = some v → (w5.setCell ⟨G, 1, none⟩ (.slice ao5 (M + 1) cap5)).cell? ⟨b, o, none⟩ = some v := fun b o v hne hv => ((Only.refl [G] w5).setCell (p := ⟨G, 1, none⟩) (by simp) _).cell hv (by simpa using hne)
    refine hK.out _ _ ⟨hfar _ _ _ xh HS5.out.1, hfar _ _ _ xe HS5.out.2.1, hfar _ _ _ xe HS5.out.2.2.1, hfar _ _ _ xk HS5.out.2.2.2.1, hfar _ _ _ xb HS5.out.2.2.2.2.1, hfar _ _ _ xb HS5.out.2.2.2.2.2⟩ (fun hHeld => ?_)
    clear hK K hHeld
    try simp only [Act.put, List.setIfInBounds_toArray, List.set_cons_zero, List.set_cons_succ]
    refine wpAnyH_done (by kernel_rfl) ?_ _
    exact HQ.out ao5 cap5 w5 _ _ _ _ _ _ _ _ _ _ _ _ _ _ _ _ _ _ _ _ _ _ _ HO5.out HY5.out HK6.out HC5.out
end Go.Proofs.YtchhbgckonpedaaGreatDoor
