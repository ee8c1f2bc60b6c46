/- hier.Graph: the plain links as arcs, sorted. -/
import Derived.Test.YtblkkjfpggcgfaaGreatDoorH24
import Derived.Test.YtblkkjfpggcgfaaGreatDoorH26
import Derived.Test.YtblkkjfpggcgfaaGreatDoorH27
import Derived.Test.YtblkkjfpggcgfaaGreatDoorH25
import Derived.Test.YtblkkjfpggcgfaaGreatDoorH23
namespace Go.Proofs.YtblkkjfpggcgfaaGreatDoor
open Go.ChangeShapes Go.WideShapes Go.ChangeAt Go.RowKit Go.Joins Go.Deep
def arcOf (h : HierD) (e : EndD) : AF := (Fin.ofNat 65536 (nodeAt h e.tail), Fin.ofNat 65536 (nodeAt h e.head), Fin.ofNat 2147483648 e.link.wt)
def arcsTo (h : HierD) (k : Nat) : List AF := (((endsOf h).take k).filter (·.link.plain)).map (arcOf h)
def arcsL (h : HierD) : List AF := ((endsOf h).filter (·.link.plain)).map (arcOf h)
theorem arcsTo_all (h : HierD) : arcsTo h (endsOf h).length = arcsL h := by unfold arcsTo arcsL; rw [List.take_length]
theorem arcsTo_len (h : HierD) (k : Nat) : (arcsTo h k).length ≤ k := by
  unfold arcsTo
  rw [List.length_map]
  exact Nat.le_trans (List.length_filter_le _ _) (by rw [List.length_take]; omega)
theorem arcsTo_succ (h : HierD) (k : Nat) (x : EndD) (hx : (endsOf h)[k]? = some x) : arcsTo h (k + 1) = arcsTo h k ++ (if x.link.plain then [arcOf h x] else []) := by
  unfold arcsTo
  rw [List.take_add_one, hx, List.filter_append, List.map_append]
  cases hp : x.link.plain <;> simp [hp]
theorem plain_wt {h : HierD} (hc : checkErr h = .nil) {x : EndD} (hx : x ∈ endsOf h) (hp : x.link.plain = true) : x.link.wt ≤ 2147483647 := by
  obtain ⟨-, -, -, -, hg⟩ := checkErr_parts hc
  obtain ⟨k, hk, rfl⟩ := List.mem_iff_getElem.1 hx
  obtain ⟨-, hw⟩ := linksGo_nil hg k hk
  unfold weightB at hw
  have hgd : (endsOf h).getD k default = (endsOf h)[k] := by rw [List.getD_eq_getElem?_getD, List.getElem?_eq_getElem hk]; rfl
  rw [hgd] at hw
  dsimp only at hw
  rw [hp] at hw
  simpa using hw
theorem node_lt {h : HierD} (hc : checkErr h = .nil) {q : Nat} (hq : q < h.node.length) : nodeAt h q < h.node.length ∧ h.node[q]? = some (nodeAt h q) := by
  obtain ⟨-, -, -, ho, -⟩ := checkErr_parts hc
  have ok := order_nil ho
  have e : h.node[q]? = some (nodeAt h q) := by
    unfold nodeAt
    rw [List.getD_eq_getElem?_getD, List.getElem?_eq_getElem hq]
    rfl
  exact ⟨ok.lt _ (List.mem_of_getElem? e), e⟩
theorem ends_lt {h : HierD} (hc : checkErr h = .nil) {x : EndD} (hx : x ∈ endsOf h) : x.tail < h.node.length ∧ x.head < h.node.length := by
  obtain ⟨k, hk, rfl⟩ := List.mem_iff_getElem.1 hx
  have hk2 : k < cntOf h := by rw [← cnt_ends hc]; exact hk
  have := (end_cases hc hk2).2
  have e : endAt h k = (endsOf h)[k] := by unfold endAt; rw [List.getD_eq_getElem?_getD, List.getElem?_eq_getElem hk]; rfl
  rwa [e] at this
theorem arcOf_vals {h : HierD} (hc : checkErr h = .nil) {x : EndD} (hx : x ∈ endsOf h) (hp : x.link.plain = true) : (arcOf h x).1.val = nodeAt h x.tail ∧ (arcOf h x).2.1.val = nodeAt h x.head ∧ (arcOf h x).2.2.val = x.link.wt := by
  have h1 := plain_wt hc hx hp
  obtain ⟨h2, h3⟩ := ends_lt hc hx
  obtain ⟨f, -, -, -, -⟩ := checkErr_parts hc
  have h4 := (node_lt hc h2).1
  have h5 := (node_lt hc h3).1
  have h6 := f.n
  refine ⟨?_, ?_, ?_⟩
  · exact Nat.mod_eq_of_lt (by omega)
  · exact Nat.mod_eq_of_lt (by omega)
  · exact Nat.mod_eq_of_lt (by omega)
def graphCells (n : Nat) (v : Value) : List Value := [.int .i64 (n : Int), v]
def GraphPost (h : HierD) (w : World) (e : Ending) (w' : World) : Prop :=
  (∃ v, e = .returned (.tuple #[.agg #[.int .i64 0, .slice none 0 0], v]) ∧ ErrIs w' v (checkErr h) ∧ checkErr h ≠ .nil ∧ Below w.heap.size w w') ∨
  (∃ ao cap l, e = .returned (.tuple #[.agg #[.int .i64 h.node.length, .slice ao l.length cap], .nilIface]) ∧ checkErr h = .nil ∧ l.Perm (arcsL h) ∧ l.Pairwise (fun x y => ltOf cmp2 y x = false) ∧ ArcsO w.heap.size w' (.slice ao l.length cap) l ∧ Below w.heap.size w w')
theorem gsort_any (B : Nat) (w : World) (v : Value) (l : List AF) (h : ArcsO B w v l) (hlen : l.length ≤ 4294967296) :
    Calls Tryz.prog 18 #[v, .func (.func 19) #[] #[]] w fun e w' => e = .returned (.tuple #[]) ∧ ∃ l' : List AF, l'.Perm l ∧ l'.Pairwise (fun x y => ltOf cmp2 y x = false) ∧ ArcsO B w' v l' ∧ Only v.ownBlock.toList w w' :=
  sort_any cmp2 swo2 19 (enters_of Tryz.func19 (by kernel_rfl) rfl) (fun x y W => gcmp_any x y W) B w v l h hlen
theorem ErrIs.putG {w : World} {x : EV} {B : Nat} {l : List Value} {v : Value} (h : ErrIs w v x) (hc : Cells w B 30 l) (a b : Value) : ErrIs ((w.setCell ⟨B, 0, none⟩ a).setCell ⟨B, 1, none⟩ b) v x := by
  cases x with
  | nil => exact h
  | code n => exact h
  | «at» k i n =>
    obtain ⟨q, hv, hq⟩ := h
    have hne : q ≠ B := by
      rintro rfl
      unfold Cells at hq hc
      rw [hq] at hc
      simp at hc
    exact ⟨q, hv, (hq.other hne _).other hne _⟩
set_option linter.unusedSimpArgs false in
set_option maxRecDepth 100000 in
set_option maxHeartbeats 8000000 in
theorem graph_any (A : HA) (h : HierD) (w : World) (see : HSee w A h) (hk : h.up.length + h.dn.length ≤ 281474976710656) : Calls Tryz.prog 6 #[hierVal A h] w (GraphPost h w) := by
  have SEE := Lib.hid see
  have HX0 := Lib.hid ((Cells.new w 25 (hierCells A h)).alloc (.cells #[.int .i64 0, .slice none 0 0] 30))
  have hr0 := Cells.new (w.alloc (.cells (hierCells A h).toArray 25)) 30 [.int .i64 0, .slice none 0 0]
  rw [show (w.alloc (.cells (hierCells A h).toArray 25)).heap.size = w.heap.size + 1 by simp] at hr0
  have HR0 := Lib.hid hr0
  clear hr0
  have HB0 := Lib.hid (((Below.refl w.heap.size w).alloc (Nat.le_refl _) (.cells (hierCells A h).toArray 25)).alloc (by simp) (.cells #[.int .i64 0, .slice none 0 0] 30))
  obtain ⟨k0, k1, k2, k3, k4⟩ := hier_five HX0.out
  clear see
  unfold hierVal
  go_enter Tryz.func6, Tryz.ntmps6
  go_wp2_with fail
  refine (ends_any A h _ (SEE.out.below HB0.out)).mono ?_
  rintro e w1 (⟨v, rfl, hv, hc, hb⟩ | ⟨aa, ac, rfl, hc, sa, hb⟩)
  · obtain ⟨tt, u, rfl⟩ := hv.iface hc
    have HR := Lib.hid (HR0.out.below hb HR0.out.lt)
    have r0 : w1.cell? ⟨w.heap.size + 1, 0, none⟩ = some (.int .i64 0) := HR.out.cell rfl
    have r1 : w1.cell? ⟨w.heap.size + 1, 1, none⟩ = some (.slice none 0 0) := HR.out.cell rfl
    have f0 := HR.out.frozen 0
    have f1 := HR.out.frozen 1
    have lr := HR.out.lt
    have HB := Lib.hid (HB0.out.trans (hb.mono HB0.out.size))
    have HV := Lib.hid hv
    have HC := Lib.hid hc
    clear hv hc hb k0 k1 k2 k3 k4
    go_wp2_with fail
    refine bodyPost_ret (results_ct rfl _ _ (w.heap.size + 1) 30 [.int .i64 0, .slice none 0 0] _ rfl ((HR.out.set 0 _).set 1 _) Tryz.underlying30 rfl (by rw [Tryz.sizeGraph]; rfl)) rfl ?_
    exact .inl ⟨_, rfl, ErrIs.putG HV.out HR.out _ _, HC.out, (HB.out.setCell (p := ⟨w.heap.size + 1, 0, none⟩) (by simp) _).setCell (p := ⟨w.heap.size + 1, 1, none⟩) (by simp) _⟩
  · have HR := Lib.hid (HR0.out.below hb HR0.out.lt)
    have HX := Lib.hid (HX0.out.below hb (by simp; omega))
    have HB := Lib.hid (HB0.out.trans (hb.mono HB0.out.size))
    have hN : (endsOf h).length ≤ 1048576 := by
      rw [cnt_ends hc]
      exact cnt_small hc hk
    have hn := (checkErr_parts hc).1.n
    have HC := Lib.hid hc
    have SA := Lib.hid sa
    have lr := HR.out.lt
    have lx := HX.out.lt
    obtain ⟨k0, k1, k2, k3, k4⟩ := hier_five HX.out
    obtain ⟨N, hNN⟩ : ∃ N, (endsOf h).length = N := ⟨_, rfl⟩
    rw [hNN] at hN
    rw [hNN]
    have HNN := Lib.hid hNN
    clear hc hb sa hNN k1 k2 k3 k4
    go_wp2_with fail
    obtain ⟨G, hG⟩ : ∃ G, w1.heap.size = G := ⟨_, rfl⟩
    have HGG := Lib.hid hG
    have c0 := Cells.new w1 30 (graphCells h.node.length (.slice none 0 0))
    rw [hG] at c0
    have C0 := Lib.hid c0
    have hsz1 := HB.out.size
    clear c0
    rw [hG]
    clear hG
    go_loopg [24] N (fun g vi wr => ∃ (k : Nat) (ao : Option Addr) (cap : Nat), vi = .int .i64 k ∧ k ≤ N ∧ g = N - k ∧ Cells wr G 30 (graphCells h.node.length (.slice ao (arcsTo h k).length cap)) ∧ ArcsO (G + 1) wr (.slice ao (arcsTo h k).length cap) (arcsTo h k) ∧ Below w1.heap.size w1 wr)
    case atStart => exact ⟨0, none, 0, rfl, Nat.zero_le _, rfl, C0.out, ArcsO.nil _ _, (Below.refl _ _).alloc (Nat.le_refl _) _⟩
    case round =>
      obtain ⟨k, ao, cap, rfl, hk, hg, hc, ha, hbl⟩ := hrel
      have HGM := Lib.hid hg
      have HCE := Lib.hid hc
      have HA := Lib.hid ha
      have HBL := Lib.hid hbl
      have hgs := hc.lt
      clear hg hc ha hbl
      by_cases hkl : k < N
      · obtain ⟨x, hx⟩ : ∃ x, (endsOf h)[k]? = some x := ⟨_, List.getElem?_eq_getElem (by rw [HNN.out]; exact hkl)⟩
        obtain ⟨b, o, ea, cc⟩ := SA.out.cell k x hx
        have e0 := ck HBL.out (cc 0 _ rfl)
        have e1 := ck HBL.out (cc 1 _ rfl)
        have e2 := ck HBL.out (cc 2 _ rfl)
        have e3 := ck HBL.out (cc 3 _ rfl)
        have e4 := ck HBL.out (cc 4 _ rfl)
        have e5 := ck HBL.out (cc 5 _ rfl)
        have e6 := ck HBL.out (cc 6 _ rfl)
        rw [Nat.add_zero] at e0
        have lb := block_lt e0
        have EA := Lib.hid ea
        have HXX := Lib.hid hx
        have HMX := Lib.hid (List.mem_of_getElem? hx)
        clear hx cc ea k0
        rw [EA.out]
        go_wp2_with fail
        refine (plain_any x.link _).mono ?_
        rintro e w2 ⟨rfl, hb⟩
        have hy := (Cells.new wr 65 (endCells x)).below hb (by simp)
        have hb0 := ((Below.refl wr.heap.size wr).alloc (Nat.le_refl _) (.cells (endCells x).toArray 65)).trans (hb.mono (by simp))
        have hce := HCE.out.below hb0 HCE.out.lt
        have ha := HA.out.below hb0
        have hbl := HBL.out.trans (hb0.mono HBL.out.size)
        have HCE2 := Lib.hid hce
        have HA2 := Lib.hid ha
        have HBL2 := Lib.hid hbl
        have HY := Lib.hid hy
        clear hb hb0 hce ha hbl hy e0 e1 e2 e3 e4 e5 e6
        have hgs2 := HCE2.out.lt
        have hws := HY.out.lt
        cases hp : x.link.plain with
        | false =>
          have HP := Lib.hid hp
          clear hp
          go_wp2_with fail
          rw [← EA.out]
          go_roundg (N - (k + 1))
          case measure => rw [HGM.out]; omega
          case rel =>
            have hs : arcsTo h (k + 1) = arcsTo h k := by rw [arcsTo_succ h k x HXX.out, HP.out]; simp
            refine ⟨k + 1, ao, cap, by go_num, by omega, rfl, ?_, ?_, HBL2.out⟩
            · rw [hs]; exact HCE2.out
            · rw [hs]; exact HA2.out
        | true =>
          have HP := Lib.hid hp
          clear hp
          have hq := ends_lt HC.out HMX.out
          have hv := arcOf_vals HC.out HMX.out HP.out
          have hwt := plain_wt HC.out HMX.out HP.out
          obtain ⟨q0, hq0⟩ : ∃ q, x.tail = q := ⟨_, rfl⟩
          obtain ⟨q1, hq1⟩ : ∃ q, x.head = q := ⟨_, rfl⟩
          obtain ⟨wt, hwt0⟩ : ∃ q, x.link.wt = q := ⟨_, rfl⟩
          rw [hq0, hq1] at hq
          rw [hq0, hq1, hwt0] at hv
          rw [hwt0] at hwt
          obtain ⟨n0, m0⟩ := node_lt HC.out hq.1
          obtain ⟨n1, m1⟩ := node_lt HC.out hq.2
          obtain ⟨v0, hv0⟩ : ∃ q, nodeAt h q0 = q := ⟨_, rfl⟩
          obtain ⟨v1, hv1⟩ : ∃ q, nodeAt h q1 = q := ⟨_, rfl⟩
          rw [hv0] at n0 m0 hv
          rw [hv1] at n1 m1 hv
          have SEE2 := Lib.hid (SEE.out.below (HB.out.trans (HBL2.out.mono hsz1)))
          obtain ⟨b0, o0, ea0, cc0⟩ := SEE2.out.node.cell q0 v0 m0
          obtain ⟨b1, o1, ea1, cc1⟩ := SEE2.out.node.cell q1 v1 m1
          rw [ea0] at ea1
          simp only [Option.some.injEq, Addr.mk.injEq, and_true] at ea1
          obtain ⟨rfl, rfl⟩ := ea1
          have z0 := cc0 0 _ rfl
          have z1 := cc1 0 _ rfl
          simp only [Nat.mul_one, Nat.add_zero] at z0 z1
          have lz := block_lt z0
          have HX3 := Lib.hid (HX.out.below HBL2.out HX.out.lt)
          obtain ⟨k0, -, -, -, -⟩ := hier_five HX3.out
          rw [ea0] at k0
          have y0 : w2.cell? ⟨wr.heap.size, 0, none⟩ = some (.int .u32 x.link.to) := HY.out.cell rfl
          have y1 : w2.cell? ⟨wr.heap.size, 1, none⟩ = some (.int .u64 (wt : Int)) := by rw [← hwt0]; exact HY.out.cell rfl
          have y4 : w2.cell? ⟨wr.heap.size, 4, none⟩ = some (.int .i64 (q0 : Int)) := by rw [← hq0]; exact HY.out.cell rfl
          have y5 : w2.cell? ⟨wr.heap.size, 5, none⟩ = some (.int .i64 (q1 : Int)) := by rw [← hq1]; exact HY.out.cell rfl
          have g0 : w2.cell? ⟨G, 0, none⟩ = some (.int .i64 (h.node.length : Int)) := HCE2.out.cell rfl
          obtain ⟨M, hM⟩ : ∃ M, (arcsTo h k).length = M := ⟨_, rfl⟩
          have hMk : M ≤ k := by rw [← hM]; exact arcsTo_len h k
          have g1 : w2.cell? ⟨G, 1, none⟩ = some (.slice ao M cap) := by rw [← hM]; exact HCE2.out.cell rfl
          have f1 := HCE2.out.frozen 1
          have cv0 := IntWalk.i64_in (v0 : Int) (by omega)
          have cv1 := IntWalk.i64_in (v1 : Int) (by omega)
          have cwt := IntWalk.i64_in (wt : Int) (by omega)
          have HM := Lib.hid hM
          have HV := Lib.hid hv
          have EA0 := Lib.hid ea0
          have HM0 := Lib.hid m0
          obtain ⟨hql0, hql1⟩ := hq
          clear hv hq0 hq1 hwt0 hv0 hv1 m0 m1 ea0 cc0 cc1 hM
          go_upto_region 9 with fail
          have hcx : arcCells (arcOf h x) = [.int .i64 (v0 : Int), .int .i64 (v1 : Int), .int .i64 (wt : Int)] := by
            unfold arcCells
            rw [HV.out.1, HV.out.2.1, HV.out.2.2]
          have hownk : w2.ownsRow 0 68 3 (.slice ao M cap) M ((arcsTo h k).flatMap arcCells) := by
            have := HA2.out.own
            rwa [HM.out] at this
          have HOK := Lib.hid hownk
          have HCX := Lib.hid hcx
          have hng : G ∉ (Value.slice ao M cap).ownBlock.toList := by
            intro hm
            have h1 := HA2.out.new G (by rw [HM.out]; exact own_mem hm)
            omega
          have HNG := Lib.hid hng
          have hcm : Cells w2 G 30 [.int .i64 (h.node.length : Int), .slice ao M cap] := by
            have := HCE2.out
            rw [HM.out] at this
            exact this
          have HCM := Lib.hid hcm
          clear hcm
          clear hownk hcx hng
          have hnh : ∀ b : Nat, b < G → b ∉ (Value.slice ao M cap).ownBlock.toList := by
            intro b hb hm
            have h1 := HA2.out.new b (by rw [HM.out]; exact own_mem hm)
            omega
          have hne : wr.heap.size ∉ (Value.slice ao M cap).ownBlock.toList := by
            intro hm
            have h1 := (HA.out.own.lt _ (by rw [HM.out]; exact own_mem hm)).2
            omega
          have hbG : b0 < G := by rw [← HGG.out]; exact Nat.lt_of_lt_of_le (block_lt (show w.cell? ⟨b0, o0 + q0, none⟩ = _ from by
            obtain ⟨b2, o2, ea2, cc2⟩ := SEE.out.node.cell q0 v0 HM0.out
            rw [EA0.out] at ea2
            simp only [Option.some.injEq, Addr.mk.injEq, and_true] at ea2
            obtain ⟨rfl, rfl⟩ := ea2
            have := cc2 0 _ rfl
            simpa only [Nat.mul_one, Nat.add_zero] using this)) HB.out.size
          have hGw : G ≤ wr.heap.size := by omega
          have hw0 : w.heap.size < G := by rw [← HGG.out]; exact lx
          change Code.wp _ ((regionAt 9 ghBody).getD .skip) _ _ _
          refine graph_app k0 y1 y4 y5 HCM.out z0 z1 hql0 hql1 (by omega) (by omega) hwt (by omega) HOK.out HNG.out (hnh _ hw0) hne (hnh _ hbG) (by omega) (by omega) (by omega) ?_
          intro ao5 cap5 w5 t31 t32 t33 t34 t35 t36 t37 t38 t39 t40 t41 t42 t43 t44 t45 t46 t47 t48 t49 t50 t51 t52 t53 t54 hown5 ho5 hk5 hc5
          have hbl5 : Below w1.heap.size w1 w5 := HBL2.out.trans (ho5.below HBL2.out.size (fun q hq => by
            have h1 := HA2.out.new q (by rw [HM.out]; exact own_mem hq)
            have h2 := HGG.out
            omega))
          have hs : arcsTo h (k + 1) = arcsTo h k ++ [arcOf h x] := by rw [arcsTo_succ h k x HXX.out, HP.out]; rfl
          have hn5 : ArcsO (G + 1) w5 (.slice ao5 (M + 1) cap5) (arcsTo h (k + 1)) := by
            rw [hs]
            have := HA2.out.app [arcOf h x] (m := 1) rfl (ao := ao5) (cap := cap5) (w5 := w5) (by rw [HM.out, List.flatMap_singleton, HCX.out]; exact hown5) (by rw [HM.out]; exact hk5) (by omega)
            rwa [HM.out] at this
          have hM5 : (arcsTo h (k + 1)).length = M + 1 := by rw [hs, List.length_append, HM.out]; rfl
          have N5 := Lib.hid hn5
          have B5 := Lib.hid hbl5
          have C5 := Lib.hid hc5
          have M5 := Lib.hid hM5
          clear hown5 ho5 hk5 hbl5 hs hn5 hc5 hM5 hnh hne
          go_wp2_with fail
          rw [← EA.out]
          go_roundg (N - (k + 1))
          case measure => rw [HGM.out]; omega
          case rel =>
            refine ⟨k + 1, ao5, cap5, by go_num, by omega, rfl, ?_, ?_, B5.out.setCell (p := ⟨G, 1, none⟩) (by have := HGG.out; show w1.heap.size ≤ G; omega) _⟩
            · rw [M5.out]
              exact C5.out.set 1 (.slice ao5 (M + 1) cap5)
            · rw [M5.out]
              exact N5.out.kept (bs := [G]) ((Only.refl _ w5).setCell (p := ⟨G, 1, none⟩) (by simp) _) (fun q hq hm => by
                have h1 := N5.out.new q hq
                simp at hm
                omega)
      · obtain rfl : k = N := by omega
        have hall : arcsTo h k = arcsL h := by
          have := arcsTo_all h
          rwa [HNN.out] at this
        rw [hall] at HCE HA
        have hlen : (arcsL h).length ≤ k := by rw [← hall]; exact arcsTo_len h k
        obtain ⟨M, hM⟩ : ∃ M, (arcsL h).length = M := ⟨_, rfl⟩
        rw [hM] at HCE HA hlen
        have HM := Lib.hid hM
        have g1 : wr.cell? ⟨G, 1, none⟩ = some (.slice ao M cap) := HCE.out.cell rfl
        clear hall hM k0
        go_wp2_with fail
        refine (gsort_any (G + 1) wr (.slice ao M cap) (arcsL h) HA.out (by rw [HM.out]; omega)).mono ?_
        rintro e w2 ⟨rfl, l', hperm, hsort, hown, honly⟩
        have hng : ∀ b : Nat, b ≤ G → b ∉ (Value.slice ao M cap).ownBlock.toList := by
          intro b hb hm
          have h1 := HA.out.new b (own_mem hm)
          omega
        have hc2 := HCE.out.kept honly (hng _ (Nat.le_refl _))
        have hGG := HGG.out
        have hr2 := (HR.out.below HBL.out HR.out.lt).kept honly (hng _ (by omega))
        have hbl2 : Below w1.heap.size w1 w2 := HBL.out.trans (honly.below HBL.out.size (fun q hq => by
          have h1 := HA.out.new q (own_mem hq)
          omega))
        have g0 : w2.cell? ⟨G, 0, none⟩ = some (.int .i64 (h.node.length : Int)) := hc2.cell rfl
        have g1 : w2.cell? ⟨G, 1, none⟩ = some (.slice ao M cap) := hc2.cell rfl
        have r0 : w2.cell? ⟨w.heap.size + 1, 0, none⟩ = some (.int .i64 0) := hr2.cell rfl
        have r1 : w2.cell? ⟨w.heap.size + 1, 1, none⟩ = some (.slice none 0 0) := hr2.cell rfl
        have f0 := hr2.frozen 0
        have f1 := hr2.frozen 1
        have lr2 := hr2.lt
        have lc2 := hc2.lt
        have HR2 := Lib.hid hr2
        have HBL3 := Lib.hid hbl2
        have HO2 := Lib.hid hown
        have HP2 := Lib.hid hperm
        have HS2 := Lib.hid hsort
        clear hperm hsort hown honly hng hc2 hr2 hbl2 hGG
        go_wp2_with fail
        refine bodyPost_ret (results_ct rfl _ _ (w.heap.size + 1) 30 [.int .i64 (h.node.length : Int), .slice ao M cap] _ rfl ((HR2.out.set 0 _).set 1 _) Tryz.underlying30 rfl (by rw [Tryz.sizeGraph]; rfl)) rfl ?_
        have hl' : l'.length = M := by rw [HP2.out.length_eq, HM.out]
        have hsz := HB.out.size
        have hGG := HGG.out
        refine .inr ⟨ao, cap, l', by rw [hl']; rfl, HC.out, HP2.out, HS2.out, ?_, ((HB.out.trans (HBL3.out.mono hsz)).setCell (p := ⟨w.heap.size + 1, 0, none⟩) (by simp) _).setCell (p := ⟨w.heap.size + 1, 1, none⟩) (by simp) _⟩
        rw [hl']
        have hk2 : w.heap.size + 1 < G := by omega
        exact (HO2.out.kept (bs := [w.heap.size + 1]) (((Only.refl _ w2).setCell (p := ⟨w.heap.size + 1, 0, none⟩) (by simp) _).setCell (p := ⟨w.heap.size + 1, 1, none⟩) (by simp) _) (fun q hq hm => by
          have h1 := HO2.out.new q hq
          simp at hm
          omega)).mono (by omega)
theorem near_rise {l : List EndD} (h : ∀ j x y, l[j]? = some x → l[j + 1]? = some y → x.link.to < y.link.to) : l.Pairwise fun x y => x.link.to < y.link.to := by
  rw [List.pairwise_iff_getElem]
  intro i j hi hj hij
  induction j with
  | zero => omega
  | succ j ih =>
    have h1 := h j _ _ (List.getElem?_eq_getElem (by omega)) (List.getElem?_eq_getElem hj)
    by_cases e : i = j
    · subst e; exact h1
    · exact Nat.lt_trans (ih (by omega) (by omega)) h1
theorem part_rise {h : HierD} (hc : checkErr h = .nil) (A S B : List EndD) (e : endsOf h = A ++ S ++ B) (r : Nat) (hr : ∀ x ∈ S, x.rank = r) (hu : ∀ j, j + 1 < S.length → A.length + (j + 1) ≠ h.up.length) :
    S.Pairwise fun x y => x.link.to < y.link.to := by
  obtain ⟨f, -, -, -, hg⟩ := checkErr_parts hc
  refine near_rise fun j x y hx hy => ?_
  have hj := (List.getElem?_eq_some_iff.1 hy).1
  have hk : ∀ q z, S[q]? = some z → (endsOf h).getD (A.length + q) default = z := by
    intro q z hz
    have hq := (List.getElem?_eq_some_iff.1 hz).1
    rw [e, List.getD_eq_getElem?_getD, List.append_assoc, List.getElem?_append_right (by omega), Nat.add_sub_cancel_left, List.getElem?_append_left hq, hz]
    rfl
  have hlen : A.length + (j + 1) < (endsOf h).length := by
    rw [e]
    simp only [List.length_append]
    omega
  have hs := (linksGo_nil hg _ hlen).1
  rw [shapeB_eq _ _ _ _ y x (hk _ _ hy) (by rw [show A.length + (j + 1) - 1 = A.length + j by omega]; exact hk _ _ hx)] at hs
  have e1 := hr x (List.mem_of_getElem? hx)
  have e2 := hr y (List.mem_of_getElem? hy)
  split at hs
  · cases hs
  split at hs
  · cases hs
  rename_i h2
  have := hu j hj
  apply Classical.byContradiction
  intro hno
  exact h2 ⟨by omega, this, by omega, by omega⟩
def pairE (x : EndD) : Nat × Nat := (x.tail, x.head)
theorem ends_nodup {h : HierD} (hc : checkErr h = .nil) : (endsOf h).Pairwise fun x y => pairE x ≠ pairE y := by
  obtain ⟨u, d⟩ := parts_firsts hc
  have hrise : ∀ x ∈ endsOf h, x.rank < x.link.to := by
    intro x hx
    obtain ⟨f, -, -, -, hg⟩ := checkErr_parts hc
    obtain ⟨k, hk, rfl⟩ := List.mem_iff_getElem.1 hx
    have hs := (linksGo_nil hg k hk).1
    rw [shapeB_eq _ _ _ _ (endsOf h)[k] _ (by rw [List.getD_eq_getElem?_getD, List.getElem?_eq_getElem hk]; rfl) rfl] at hs
    split at hs
    · cases hs
    · omega
  have split3 : ∀ r, r < h.node.length → List.range h.node.length = List.range r ++ [r] ++ (List.range (h.node.length - (r + 1))).map (fun x => r + 1 + x) := by
    intro r hr
    rw [show List.range r ++ [r] = List.range (r + 1) from (List.range_succ).symm]
    have := List.range_add (n := r + 1) (m := h.node.length - (r + 1))
    rw [show r + 1 + (h.node.length - (r + 1)) = h.node.length by omega] at this
    exact this
  have hup : ∀ r, r < h.node.length → (endsUp h.upF h.up r).Pairwise fun x y => x.link.to < y.link.to := by
    intro r hr
    have e : endsOf h = (List.range r).flatMap (endsUp h.upF h.up) ++ endsUp h.upF h.up r ++ (((List.range (h.node.length - (r + 1))).map (fun x => r + 1 + x)).flatMap (endsUp h.upF h.up) ++ (List.range h.node.length).flatMap (endsDn h.dnF h.dn)) := by
      unfold endsOf
      conv => lhs; arg 1; rw [split3 r hr]
      simp only [List.flatMap_append, List.flatMap_cons, List.flatMap_nil, List.append_nil, List.append_assoc]
    refine part_rise hc _ _ _ e r (fun x hx => ?_) (fun j hj => ?_)
    · unfold endsUp at hx
      obtain ⟨l, -, rfl⟩ := List.mem_map.1 hx
      rfl
    · have h1 := endsUp_length u (r + 1) (by omega)
      rw [List.range_succ, List.flatMap_append, List.length_append] at h1
      simp only [List.flatMap_cons, List.flatMap_nil, List.append_nil] at h1
      have h2 := u.le (r + 1) (by omega)
      omega
  have hdn : ∀ r, r < h.node.length → (endsDn h.dnF h.dn r).Pairwise fun x y => x.link.to < y.link.to := by
    intro r hr
    have e : endsOf h = ((List.range h.node.length).flatMap (endsUp h.upF h.up) ++ (List.range r).flatMap (endsDn h.dnF h.dn)) ++ endsDn h.dnF h.dn r ++ ((List.range (h.node.length - (r + 1))).map (fun x => r + 1 + x)).flatMap (endsDn h.dnF h.dn) := by
      unfold endsOf
      conv => lhs; arg 2; rw [split3 r hr]
      simp only [List.flatMap_append, List.flatMap_cons, List.flatMap_nil, List.append_nil, List.append_assoc]
    refine part_rise hc _ _ _ e r (fun x hx => ?_) (fun j hj => ?_)
    · unfold endsDn at hx
      obtain ⟨l, -, rfl⟩ := List.mem_map.1 hx
      rfl
    · have h1 := endsUp_length u _ (Nat.le_refl _)
      rw [u.last] at h1
      rw [List.length_append, h1]
      omega
  have hpu : ∀ r x, x ∈ endsUp h.upF h.up r → pairE x = (r, x.link.to) ∧ x.rank = r := by
    intro r x hx
    unfold endsUp at hx
    obtain ⟨l, -, rfl⟩ := List.mem_map.1 hx
    exact ⟨rfl, rfl⟩
  have hpd : ∀ r x, x ∈ endsDn h.dnF h.dn r → pairE x = (x.link.to, r) ∧ x.rank = r := by
    intro r x hx
    unfold endsDn at hx
    obtain ⟨l, -, rfl⟩ := List.mem_map.1 hx
    exact ⟨rfl, rfl⟩
  have hall := hrise
  unfold endsOf at hall ⊢
  rw [List.pairwise_append]
  refine ⟨?_, ?_, fun x hx y hy e => ?_⟩
  · rw [List.pairwise_flatMap]
    refine ⟨fun r hr => ?_, ?_⟩
    · refine (hup r (List.mem_range.1 hr)).imp_of_mem fun {x y} hx hy hlt e => ?_
      rw [(hpu r x hx).1, (hpu r y hy).1] at e
      simp only [Prod.mk.injEq, true_and] at e
      omega
    · refine List.nodup_range.imp fun {a b} hab x hx y hy e => ?_
      rw [(hpu a x hx).1, (hpu b y hy).1] at e
      simp only [Prod.mk.injEq] at e
      exact hab e.1
  · rw [List.pairwise_flatMap]
    refine ⟨fun r hr => ?_, ?_⟩
    · refine (hdn r (List.mem_range.1 hr)).imp_of_mem fun {x y} hx hy hlt e => ?_
      rw [(hpd r x hx).1, (hpd r y hy).1] at e
      simp only [Prod.mk.injEq, and_true] at e
      omega
    · refine List.nodup_range.imp fun {a b} hab x hx y hy e => ?_
      rw [(hpd a x hx).1, (hpd b y hy).1] at e
      simp only [Prod.mk.injEq] at e
      exact hab e.2
  · have h1 := hall x (List.mem_append_left _ hx)
    have h2 := hall y (List.mem_append_right _ hy)
    obtain ⟨a, -, ha⟩ := List.mem_flatMap.1 hx
    obtain ⟨b, -, hb⟩ := List.mem_flatMap.1 hy
    obtain ⟨e1, e2⟩ := hpu a x ha
    obtain ⟨e3, e4⟩ := hpd b y hb
    rw [e1, e3] at e
    simp only [Prod.mk.injEq] at e
    omega
theorem nodeAt_inj {h : HierD} (hc : checkErr h = .nil) {a b : Nat} (ha : a < h.node.length) (hb : b < h.node.length) (e : nodeAt h a = nodeAt h b) : a = b := by
  obtain ⟨-, -, -, ho, -⟩ := checkErr_parts hc
  have ok := order_nil ho
  have h1 := (node_lt hc ha).2
  rw [e] at h1
  exact nodup_place ok.nodup h1 (node_lt hc hb).2
theorem ends_apart {h : HierD} (hc : checkErr h = .nil) {x : EndD} (hx : x ∈ endsOf h) : x.tail ≠ x.head := by
  obtain ⟨f, -, -, -, hg⟩ := checkErr_parts hc
  have hx' := hx
  obtain ⟨k, hk, rfl⟩ := List.mem_iff_getElem.1 hx
  have hs := (linksGo_nil hg k hk).1
  rw [shapeB_eq _ _ _ _ (endsOf h)[k] _ (by rw [List.getD_eq_getElem?_getD, List.getElem?_eq_getElem hk]; rfl) rfl] at hs
  split at hs
  · cases hs
  rename_i h1
  generalize (endsOf h)[k] = x at *
  unfold endsOf at hx'
  rcases List.mem_append.1 hx' with h2 | h2
  · obtain ⟨a, -, ha⟩ := List.mem_flatMap.1 h2
    unfold endsUp at ha
    obtain ⟨l, -, rfl⟩ := List.mem_map.1 ha
    simp only at h1 ⊢
    omega
  · obtain ⟨a, -, ha⟩ := List.mem_flatMap.1 h2
    unfold endsDn at ha
    obtain ⟨l, -, rfl⟩ := List.mem_map.1 ha
    simp only at h1 ⊢
    omega
theorem arcs_mem {h : HierD} {x : AF} : x ∈ arcsL h ↔ ∃ e ∈ endsOf h, e.link.plain = true ∧ x = arcOf h e := by
  unfold arcsL
  simp only [List.mem_map, List.mem_filter]
  constructor
  · rintro ⟨e, ⟨h1, h2⟩, h3⟩; exact ⟨e, h1, h2, h3.symm⟩
  · rintro ⟨e, h1, h2, h3⟩; exact ⟨e, ⟨h1, h2⟩, h3.symm⟩
theorem arcs_clean {h : HierD} (hc : checkErr h = .nil) : Clean h.node.length (arcsL h) := by
  refine ⟨fun x hx => ?_, fun x hx => ?_, ?_⟩
  · obtain ⟨e, h1, h2, rfl⟩ := arcs_mem.1 hx
    obtain ⟨e1, e2, -⟩ := arcOf_vals hc h1 h2
    obtain ⟨l1, l2⟩ := ends_lt hc h1
    rw [e1, e2]
    exact ⟨(node_lt hc l1).1, (node_lt hc l2).1⟩
  · obtain ⟨e, h1, h2, rfl⟩ := arcs_mem.1 hx
    obtain ⟨e1, e2, -⟩ := arcOf_vals hc h1 h2
    obtain ⟨l1, l2⟩ := ends_lt hc h1
    rw [e1, e2]
    exact fun hq => ends_apart hc h1 (nodeAt_inj hc l1 l2 hq)
  · unfold arcsL
    rw [List.map_map, List.nodup_iff_pairwise_ne, List.pairwise_map]
    refine ((ends_nodup hc).filter _).imp_of_mem fun {x y} hx hy hne e => ?_
    obtain ⟨x1, x2⟩ := List.mem_filter.1 hx
    obtain ⟨y1, y2⟩ := List.mem_filter.1 hy
    obtain ⟨a1, a2, -⟩ := arcOf_vals hc x1 x2
    obtain ⟨b1, b2, -⟩ := arcOf_vals hc y1 y2
    obtain ⟨l1, l2⟩ := ends_lt hc x1
    obtain ⟨m1, m2⟩ := ends_lt hc y1
    simp only [Function.comp, Prod.mk.injEq, a1, a2, b1, b2] at e
    refine hne ?_
    unfold pairE
    rw [nodeAt_inj hc l1 m1 e.1, nodeAt_inj hc l2 m2 e.2]
theorem endAt_mem {h : HierD} (hc : checkErr h = .nil) {i : Nat} (hi : i < cntOf h) : endAt h i ∈ endsOf h := by
  rw [← cnt_ends hc] at hi
  unfold endAt
  rw [List.getD_eq_getElem?_getD, List.getElem?_eq_getElem hi]
  exact List.getElem_mem _
theorem link_arc {h : HierD} (hc : checkErr h = .nil) {i : Nat} (hi : i < cntOf h) (hp : (linkAt h i).plain = true) : ∃ x ∈ arcsL h, x.1.val = nodeAt h (endAt h i).tail ∧ x.2.1.val = nodeAt h (endAt h i).head ∧ x.2.2.val = (linkAt h i).wt := by
  have hm := endAt_mem hc hi
  have hl := endAt_link hc hi
  have hp' : (endAt h i).link.plain = true := by rw [hl]; exact hp
  obtain ⟨e1, e2, e3⟩ := arcOf_vals hc hm hp'
  exact ⟨_, arcs_mem.2 ⟨_, hm, hp', rfl⟩, e1, e2, by rw [e3, hl]⟩
theorem arc_link {h : HierD} (hc : checkErr h = .nil) {x : AF} (hx : x ∈ arcsL h) : ∃ i, i < cntOf h ∧ (linkAt h i).plain = true ∧ (x.1.val, x.2.1.val) = stepOf h i ∧ x.2.2.val = (linkAt h i).wt := by
  obtain ⟨e, h1, h2, rfl⟩ := arcs_mem.1 hx
  obtain ⟨e1, e2, e3⟩ := arcOf_vals hc h1 h2
  obtain ⟨k, hk, rfl⟩ := List.mem_iff_getElem.1 h1
  have hk2 : k < cntOf h := by rw [← cnt_ends hc]; exact hk
  have e4 : endAt h k = (endsOf h)[k] := by unfold endAt; rw [List.getD_eq_getElem?_getD, List.getElem?_eq_getElem hk]; rfl
  have hl := endAt_link hc hk2
  rw [e4] at hl
  refine ⟨k, hk2, by rw [← hl]; exact h2, ?_, by rw [e3, hl]⟩
  unfold stepOf
  rw [e1, e2, e4]
theorem chain_walk {h : HierD} (hc : checkErr h = .nil) {l : List AF} (hl : l.Perm (arcsL h)) (u : Nat) : ∀ (ls : List Nat) (a b : Nat) (d : Int), (∀ x ∈ ls, x < cntOf h ∧ (linkAt h x).plain = true) → Chain h ls a b → Wk (webC l) (-1) u (nodeAt h a) d →
    Wk (webC l) (-1) u (nodeAt h b) (d + (((ls.map fun x => (linkAt h x).wt).sum : Nat) : Int)) := by
  intro ls
  induction ls with
  | nil =>
    intro a b d _ hch hw
    have e : a = b := hch
    subst e
    simpa using hw
  | cons x ls ih =>
    intro a b d hp hch hw
    obtain ⟨h1, h2⟩ := hch
    subst h1
    obtain ⟨p1, p2⟩ := hp x (by simp)
    obtain ⟨y, hy, y1, y2, y3⟩ := link_arc hc p1 p2
    have hm : (y.2.1.val, y.2.2.val) ∈ webC l (nodeAt h (endAt h x).tail) := webC_mem.2 ⟨y, hl.mem_iff.2 hy, y1, rfl⟩
    have hw2 := hw.snoc _ hm (by omega)
    simp only [y2, y3] at hw2
    have := ih _ _ _ (fun z hz => hp z (by simp [hz])) h2 hw2
    rw [List.map_cons, List.sum_cons]
    have e : d + (((linkAt h x).wt + (ls.map fun x => (linkAt h x).wt).sum : Nat) : Int) = d + ((linkAt h x).wt : Int) + (((ls.map fun x => (linkAt h x).wt).sum : Nat) : Int) := by omega
    rw [e]
    exact this
theorem up_way {h : HierD} (hc : checkErr h = .nil) {s : Nat} {D : Nat → Option Int} (hD : IsD h.node.length h.upF h.up s D) : ∀ (m : Nat) (a : Int), D m = some a → ∃ ls, WayIs h ls s m a := by
  intro m
  induction m using Nat.strongRecOn with
  | _ m ih =>
    intro a ha
    by_cases e : m = s
    · subst e
      rw [hD.src] at ha
      simp only [Option.some.injEq] at ha
      subst ha
      exact ⟨[], WayIs.nil h m⟩
    · obtain ⟨x, d, l, hx, hd, hl, hto, rfl⟩ := hD.bwd m a e ha
      have hlt := ((half_up hc).up x hx l hl).1
      obtain ⟨ls, hls⟩ := ih x (by omega) d hd
      obtain ⟨i, h1, h2, h3⟩ := seg_get hl
      obtain ⟨g1, g2, g3, g4⟩ := up_link hc hx h1 h2 h3
      have := hls.snoc g1 g2 (g3.trans hto)
      rw [g4] at this
      exact ⟨_, this⟩
theorem dn_way {h : HierD} (hc : checkErr h = .nil) {t : Nat} {E : Nat → Option Int} (hE : IsD h.node.length h.dnF h.dn t E) : ∀ (m : Nat) (b : Int), E m = some b → ∃ ls, WayIs h ls m t b := by
  intro m
  induction m using Nat.strongRecOn with
  | _ m ih =>
    intro a ha
    by_cases e : m = t
    · subst e
      rw [hE.src] at ha
      simp only [Option.some.injEq] at ha
      subst ha
      exact ⟨[], WayIs.nil h m⟩
    · obtain ⟨x, d, l, hx, hd, hl, hto, rfl⟩ := hE.bwd m a e ha
      have hlt := ((half_dn hc).up x hx l hl).1
      obtain ⟨ls, hls⟩ := ih x (by omega) d hd
      obtain ⟨i, h1, h2, h3⟩ := seg_get hl
      obtain ⟨g1, g2, g3, g4⟩ := dn_link hc hx h1 h2 h3
      have := hls.cons g1 (g2.trans hto) g3
      rw [g4] at this
      exact ⟨_, by rw [Int.add_comm] at this; exact this⟩
theorem WayIs.app {h : HierD} {l m : List Nat} {s u t : Nat} {a b : Int} (p : WayIs h l s u a) (q : WayIs h m u t b) : WayIs h (l ++ m) s t (a + b) := by
  refine ⟨fun x hx => ?_, p.chain.app q.chain, by rw [List.map_append, List.sum_append, Int.natCast_add, p.sum, q.sum]⟩
  rcases List.mem_append.1 hx with hx | hx
  · exact p.lt x hx
  · exact q.lt x hx
theorem meet_at {D E : Nat → Option Int} : ∀ (k r : Nat) (d : Int), meetTo D E k = (r, d) → d ≠ 18446744073709551615 → ∃ a b, D r = some a ∧ E r = some b ∧ d = a + b := by
  intro k
  induction k with
  | zero =>
    intro r d h hd
    simp only [meetTo, Prod.mk.injEq] at h
    exact absurd h.2.symm hd
  | succ k ih =>
    intro r d h hd
    unfold meetTo at h
    split at h
    · rename_i x y hx hy
      split at h
      · simp only [Prod.mk.injEq] at h
        obtain ⟨rfl, rfl⟩ := h
        exact ⟨x, y, hx, hy, rfl⟩
      · exact ih r d h hd
    · exact ih r d h hd
theorem node_idx {h : HierD} (hc : checkErr h = .nil) {a : Nat} (ha : a < h.node.length) : h.node.idxOf (nodeAt h a) = a := by
  have hm : nodeAt h a ∈ h.node := by
    unfold nodeAt
    rw [List.getD_eq_getElem?_getD, List.getElem?_eq_getElem ha, Option.getD_some]
    exact List.getElem_mem ha
  exact nodeAt_inj hc (List.idxOf_lt_length_of_mem hm) ha (nodeAt_idx hm)
theorem ends_web {h : HierD} {e : EndD} (he : e ∈ endsOf h) : (e.head, e.link.wt) ∈ webD h e.tail := by
  unfold endsOf at he
  rw [List.mem_append, List.mem_flatMap, List.mem_flatMap] at he
  rw [webD_mem]
  rcases he with ⟨r, hr, hm⟩ | ⟨r, hr, hm⟩
  · obtain ⟨l, hl, rfl⟩ := List.mem_map.1 hm
    exact .inl ⟨List.mem_range.1 hr, l, hl, rfl⟩
  · obtain ⟨l, hl, rfl⟩ := List.mem_map.1 hm
    exact .inr ⟨List.mem_range.1 hr, l, hl, rfl, rfl⟩
theorem arcs_web {h : HierD} (hc : checkErr h = .nil) {l : List AF} (hl : l.Perm (arcsL h)) {s v : Nat} {x : Int} (hw : Wk (webC l) (-1) s v x) : Wk (webD h) (-1) (h.node.idxOf s) (h.node.idxOf v) x := by
  induction hw with
  | nil => exact .nil
  | @snoc v x t hw hs hr ih =>
    obtain ⟨y, hy, rfl, rfl⟩ := webC_mem.1 hs
    obtain ⟨i, h1, h2, h3, h4⟩ := arc_link hc (hl.mem_iff.1 hy)
    unfold stepOf at h3
    simp only [Prod.mk.injEq] at h3
    have hm := endAt_mem hc h1
    obtain ⟨l1, l2⟩ := ends_lt hc hm
    have hs2 := ends_web hm
    have e1 : h.node.idxOf y.1.val = (endAt h i).tail := by rw [h3.1]; exact node_idx hc l1
    have e2 : h.node.idxOf y.2.1.val = (endAt h i).head := by rw [h3.2]; exact node_idx hc l2
    rw [e1] at ih
    have := Wk.snoc _ ih hs2 (by dsimp only; omega)
    dsimp only at this ⊢
    rw [e2, h4, ← endAt_link hc h1]
    exact this
theorem meet_plainway {h : HierD} (hc : checkErr h = .nil) {l : List AF} (hl : l.Perm (arcsL h)) {s t : Int} {r : Nat} {d : Int} {D E : Nat → Option Int} (k : nodesErr h.node.length s t = .nil) (hD : IsD h.node.length h.upF h.up (h.node.idxOf s.toNat) D) (hE : IsD h.node.length h.dnF h.dn (h.node.idxOf t.toNat) E)
    (hm : meetTo D E h.node.length = (r, d)) (hd : d ≠ 18446744073709551615) : Wk (webC l) (-1) s.toNat t.toNat d := by
  obtain ⟨a, b, ha, hb, rfl⟩ := meet_at _ _ _ hm hd
  obtain ⟨l1, w1⟩ := up_way hc hD _ _ ha
  obtain ⟨l2, w2⟩ := dn_way hc hE _ _ hb
  have w := w1.app w2
  obtain ⟨hs, ht⟩ := nodesErr_nil.1 k
  obtain ⟨-, -, -, ho, -⟩ := checkErr_parts hc
  have ok := order_nil ho
  have n1 := nodeAt_idx (h := h) (ok.mem s.toNat (by omega))
  have n2 := nodeAt_idx (h := h) (ok.mem t.toNat (by omega))
  have hw := chain_walk hc hl s.toNat (stackOut h (l1 ++ l2)) _ _ 0 (stack_mem hc w.lt) (stack_chain hc _ _ _ w.lt w.chain) (by rw [n1]; exact .nil)
  rw [n2, stack_wt hc _ w.lt, w.sum] at hw
  simpa using hw
structure TrueIs (h : HierD) (t : Nat) (M : Nat → Option Int) (d : Int) (x : EV) : Prop where
  le : x = .nil → ∃ m, M t = some m ∧ m ≤ d
  eq : x = .nil → (∀ r, r < h.node.length → HoldsD h r) → M t = some d
  none : x ≠ .nil → x = .code 16 ∧ ((∀ r, r < h.node.length → HoldsD h r) → M t = none)
theorem true_is {h : HierD} (hc : checkErr h = .nil) {l : List AF} (hl : l.Perm (arcsL h)) {s t : Nat} (hs : s < h.node.length) (ht : t < h.node.length) {M : Nat → Option Int} (hM : IsS (webC l) (-1) s M) (hMb : ∀ v m, M v = some m → m < 18446744073709551615) {r : Nat} {d : Int} {x : EV} (m : MeetIs h (s : Int) (t : Int) r d x) : TrueIs h t M d x := by
  obtain ⟨-, -, -, ho, -⟩ := checkErr_parts hc
  have ok := order_nil ho
  have hne : nodesErr h.node.length (s : Int) (t : Int) = .nil := nodesErr_nil.2 ⟨⟨by omega, by omega⟩, by omega, by omega⟩
  have i1 : h.node.idxOf s < h.node.length := List.idxOf_lt_length_of_mem (ok.mem _ hs)
  have i2 : h.node.idxOf t < h.node.length := List.idxOf_lt_length_of_mem (ok.mem _ ht)
  cases m with
  | form e => exact absurd hc e
  | nodes e k => exact absurd hne k
  | walk D E r d e k hD hE hm hd =>
    have hw := meet_plainway hc hl k hD hE hm hd
    simp only [Int.toNat_natCast] at hw hD hE
    obtain ⟨y, h1, h2⟩ := hM.least t d hw
    refine ⟨fun _ => ⟨y, h1, h2⟩, fun _ hh => ?_, fun h => absurd rfl h⟩
    have := true_le hc hh i1 i2 hD hE (arcs_web hc hl (hM.walk t y h1))
    rw [hm] at this
    rw [h1]
    congr 1
    dsimp only at this
    omega
  | none D E e k hD hE hd =>
    simp only [Int.toNat_natCast] at hD hE
    refine ⟨fun h => (by cases h), fun h => (by cases h), fun _ => ⟨rfl, fun hh => ?_⟩⟩
    cases hMt : M t with
    | none => rfl
    | some y =>
      have := true_le hc hh i1 i2 hD hE (arcs_web hc hl (hM.walk t y hMt))
      have := hMb t y hMt
      omega
def nums (l : List Nat) : List Value := l.map fun x : Nat => Value.int .i64 (x : Int)
theorem nums_get {l : List Nat} {i x : Nat} (h : l[i]? = some x) : (nums l)[i]? = some (.int .i64 (x : Int)) := by unfold nums; rw [List.getElem?_map, h]; rfl
theorem nums_set (l : List Nat) (i x : Nat) : (nums l).set i (.int .i64 (x : Int)) = nums (l.set i x) := by unfold nums; rw [List.map_set]
theorem nums_rep (n : Nat) : madeCells (Value.int .i64 0).cells (n * 1) = (nums (List.replicate n 0)).toArray := by
  rw [marks_made]
  congr 1
  unfold marksOf nums
  apply List.ext_getElem?
  intro j
  by_cases hj : j < n
  · rw [List.getElem?_map, List.getElem?_range hj, List.getElem?_map, List.getElem?_replicate, if_pos hj]; rfl
  · rw [List.getElem?_eq_none (by simpa using hj), List.getElem?_eq_none (by simpa using hj)]
theorem Cells.seeInts {w : World} {b cap : Nat} {l : List Nat} (h : Cells w b 3 (nums l)) (hn : l.length ≤ cap) (hm : cap ≤ maxLen) : See w (some ⟨b, 0, none⟩) cap i64Cells 1 l := by
  refine ⟨hn, hm, fun i x hx => ⟨b, 0, rfl, fun j u hu => ?_⟩⟩
  have hj : j = 0 := by
    have := (List.getElem?_eq_some_iff.1 hu).1
    simp [i64Cells] at this
    omega
  subst hj
  simp only [i64Cells, List.getElem?_cons_zero, Option.some.injEq] at hu
  subst hu
  rw [Nat.zero_add, Nat.mul_one, Nat.add_zero]
  exact h.cell (nums_get hx)
end Go.Proofs.YtblkkjfpggcgfaaGreatDoor
