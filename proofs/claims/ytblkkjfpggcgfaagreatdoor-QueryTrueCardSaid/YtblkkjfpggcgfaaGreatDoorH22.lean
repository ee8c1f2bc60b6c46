/- Is a hierarchy true at a rank? -/
import Derived.Test.YtblkkjfpggcgfaaGreatDoorH21
namespace Go.Proofs.YtblkkjfpggcgfaaGreatDoor
open Go.ChangeShapes Go.WideShapes Go.ChangeAt Go.RowKit Go.Joins Go.Deep
def okPair (h : HierD) (r : Nat) (a b : LinkD) : Prop := a.to ≠ b.to → ∃ d, Wk (webD h) r a.to b.to d ∧ d ≤ (a.wt : Int) + (b.wt : Int)
def HoldsD (h : HierD) (r : Nat) : Prop := ∀ a ∈ seg h.dnF h.dn r, ∀ b ∈ seg h.upF h.up r, okPair h r a b
def HoldsPost (h : HierD) (r : Nat) (w : World) (e : Ending) (w' : World) : Prop := ∃ b : Bool, e = .returned (.bool b) ∧ (b = true ↔ HoldsD h r) ∧ Below w.heap.size w w'
theorem web_ok {h : HierD} (ok : HalfOk h.node.length h.upF h.up) (okd : HalfOk h.node.length h.dnF h.dn) : ∀ a s, a < h.node.length → s ∈ webD h a → s.1 < h.node.length ∧ s.2 ≤ 140737488355328 := by
  intro a s ha hs
  unfold webD at hs
  rw [webTo_mem] at hs
  rcases hs with ⟨h1, l, hl, rfl⟩ | ⟨h1, l, hl, h2, h3⟩
  · exact (ok.up a h1 l hl).2
  · exact ⟨h1, by rw [h3]; exact (okd.up s.1 h1 l hl).2.2⟩
theorem web_len {h : HierD} (u : FirstsOk h.node.length h.upF h.up.length) (d : FirstsOk h.node.length h.dnF h.dn.length) (htot : h.up.length + h.dn.length ≤ 1048576) : ∀ a, a < h.node.length → (webD h a).length ≤ 1048576 := by
  intro a _
  have h1 := webTo_len u d h.node.length (Nat.le_refl _) a
  have h2 := u.le h.node.length (Nat.le_refl _)
  have h3 := d.le h.node.length (Nat.le_refl _)
  unfold webD
  omega
set_option linter.unusedSimpArgs false in
set_option maxRecDepth 100000 in
set_option maxHeartbeats 8000000 in
theorem holds_any (A : HA) (h : HierD) (r base bo : Nat) (vs : Nat → Value) (w : World) (see : HSee w A h) (u : FirstsOk h.node.length h.upF h.up.length) (d : FirstsOk h.node.length h.dnF h.dn.length) (ok : HalfOk h.node.length h.upF h.up) (okd : HalfOk h.node.length h.dnF h.dn) (hn : h.node.length ≤ 65536) (htot : h.up.length + h.dn.length ≤ 1048576) (wr : WRep base h.node.length (webD h) bo vs w) (hrn : r < h.node.length) : Calls Tryz.prog 30 #[webVal bo h.node.length, hierVal A h, .int .i64 (r : Nat)] w (HoldsPost h r w) := by
  have WOK := Lib.hid (web_ok ok okd)
  have WLEN := Lib.hid (web_len u d htot)
  have SEE := Lib.hid see
  have UOK := Lib.hid u
  have DOK := Lib.hid d
  have OKU := Lib.hid ok
  have OKD := Lib.hid okd
  have WR := Lib.hid wr
  have HY0 := Lib.hid ((Cells.new w 87 [.slice (some ⟨bo, 0, none⟩) h.node.length h.node.length]).alloc (.cells (hierCells A h).toArray 25))
  have HX0 := Lib.hid (cells_at (w := w.alloc (.cells #[.slice (some ⟨bo, 0, none⟩) h.node.length h.node.length] 87)) (b := w.heap.size + 1) (by simp) 25 (hierCells A h))
  have HB0 := Lib.hid (((Below.refl w.heap.size w).alloc (Nat.le_refl _) (.cells #[.slice (some ⟨bo, 0, none⟩) h.node.length h.node.length] 87)).alloc (by simp) (.cells (hierCells A h).toArray 25))
  clear see u d ok okd wr
  unfold hierVal webVal
  go_enter Tryz.func30, Tryz.ntmps30
  apply wp_seq_k
  intro K0 hK
  have HK0 := Lib.hid hK
  clear hK
  go_wp2_with fail
  obtain ⟨wz, hwz⟩ : ∃ wz, (w.alloc (.cells #[.slice (some ⟨bo, 0, none⟩) h.node.length h.node.length] 87)).alloc (.cells (hierCells A h).toArray 25) = wz := ⟨_, rfl⟩
  have hx := HX0.out
  have hy := HY0.out
  have hb := HB0.out
  rw [hwz] at hx hy hb
  try rw [show (w.alloc (.cells #[.slice (some ⟨bo, 0, none⟩) h.node.length h.node.length] 87)).alloc (.cells #[.slice A.a0 h.node.length A.c0, .slice A.a1 h.upF.length A.c1, .slice A.a2 h.up.length A.c2, .slice A.a3 h.dnF.length A.c3, .slice A.a4 h.dn.length A.c4] 25) = wz from hwz]
  have HX := Lib.hid hx
  have HY := Lib.hid hy
  have HB := Lib.hid hb
  clear hx hy hb hwz HX0 HY0 HB0
  refine HK0.out _ _ ?_
  clear HK0
  apply wp_seq_k
  intro KK hK
  have HKK := Lib.hid hK
  clear hK
  have hflD := DOK.out.len
  obtain ⟨loD, hloD⟩ : ∃ lo, h.dnF[r]? = some lo := ⟨_, List.getElem?_eq_getElem (by omega)⟩
  obtain ⟨hiD, hhiD⟩ : ∃ hi, h.dnF[r + 1]? = some hi := ⟨_, List.getElem?_eq_getElem (by omega)⟩
  have gloD : h.dnF.getD r 0 = loD := by rw [List.getD_eq_getElem?_getD, hloD]; rfl
  have ghiD : h.dnF.getD (r + 1) 0 = hiD := by rw [List.getD_eq_getElem?_getD, hhiD]; rfl
  have hlhD : loD ≤ hiD := by rw [← gloD, ← ghiD]; exact DOK.out.mono r hrn
  have hhlD : hiD ≤ h.dn.length := by rw [← ghiD]; exact DOK.out.le (r + 1) (by omega)
  have hsegD : seg h.dnF h.dn r = (h.dn.take hiD).drop loD := by unfold seg; rw [gloD, ghiD]
  have suD := SEE.out.below HB.out
  have hhcD : hiD ≤ A.c4 := Nat.le_trans hhlD suD.dn.hcap
  have hh32D : hiD < 4294967296 := suD.bd hiD (List.mem_of_getElem? hhiD)
  obtain ⟨b1D, o1D, ea1D, lb1D, cc1D⟩ := see_one (f := fun (n : Nat) => Value.int .u32 n) suD.dnF (by omega)
  have clD := cc1D r loD hloD
  have chD := cc1D (r + 1) hiD hhiD
  obtain ⟨k0, k1, k2, k3, k4⟩ := hier_five HX.out
  rw [ea1D] at k3
  have hilD : r < h.dnF.length := by omega
  have hil1D : r + 1 < h.dnF.length := by omega
  have hslD := run_sub (P := Tryz.prog) 23 63 4 Tryz.underlying23 Tryz.sizeLink A.a4 h.dn.length A.c4 loD hiD .u32 .u32 hlhD hhcD
  have hLlenD : ((h.dn.take hiD).drop loD).length = hiD - loD := by simp; omega
  have hSUBD : ∀ X, Below w.heap.size w X → See X (slBase A.a4 loD A.c4 4) (A.c4 - loD) linkCells 4 ((h.dn.take hiD).drop loD) := fun X hX => (SEE.out.below hX).dn.sub loD hiD hhlD
  have hupD : ∀ y ∈ (h.dn.take hiD).drop loD, r < y.to ∧ y.to < h.node.length ∧ y.wt ≤ 140737488355328 := fun y hy => OKD.out.up r hrn y (by rw [hsegD]; exact hy)
  have LLD := Lib.hid hLlenD
  have HSUBD := Lib.hid hSUBD
  have HUPD := Lib.hid hupD
  have HSEGD := Lib.hid hsegD
  clear hflD hloD hhiD gloD ghiD hsegD suD cc1D ea1D hLlenD hSUBD hupD
  obtain ⟨LD, hLD⟩ : ∃ L, (h.dn.take hiD).drop loD = L := ⟨_, rfl⟩
  rw [hLD] at LLD HSUBD HUPD HSEGD
  clear hLD
  go_wp2_with fail
  go_quiet (fail)
  go_wp2_with fail
  have HB1 := Lib.hid (below_drewN HB.out nq)
  have HX1 := Lib.hid (HX.out.drewN nq)
  have HY1 := Lib.hid (HY.out.drewN nq)
  clear HB HX HY clD chD k0 k1 k2 k3 k4 hslD
  go_loopg [28] (hiD - loD) (fun g vj wr => ∃ j : Nat, vj = .int .i64 j ∧ j ≤ hiD - loD ∧ g = hiD - loD - j ∧ (∀ a ∈ LD.take j, ∀ b ∈ seg h.upF h.up r, okPair h r a b) ∧ Cells wr (w.heap.size + 1) 25 (hierCells A h) ∧ Cells wr w.heap.size 87 [.slice (some ⟨bo, 0, none⟩) h.node.length h.node.length] ∧ Below w.heap.size w wr)
  case atStart => exact ⟨0, rfl, Nat.zero_le _, rfl, by simp, HX1.out, HY1.out, HB1.out⟩
  case round =>
    obtain ⟨j, rfl, hj, hgj, hall, hx, hy, hb⟩ := hrel
    obtain ⟨wo, rfl⟩ : ∃ wo : World, wo = wr := ⟨_, rfl⟩
    have HGJ := Lib.hid hgj
    have HALL := Lib.hid hall
    have HX := Lib.hid hx
    have HY := Lib.hid hy
    have HB := Lib.hid hb
    clear hgj hall hx hy hb HX1 HY1 HB1
    by_cases hjl : j < hiD - loD
    · obtain ⟨a, ha⟩ : ∃ a, LD[j]? = some a := ⟨_, List.getElem?_eq_getElem (by rw [LLD.out]; exact hjl)⟩
      obtain ⟨ha1, ha2, ha3⟩ := HUPD.out a (List.mem_of_getElem? ha)
      obtain ⟨b2, o2, ea2, cc2⟩ := (HSUBD.out wo HB.out).cell j a ha
      have e0 := cc2 0 _ rfl
      have e1 := cc2 1 _ rfl
      have e2 := cc2 2 _ rfl
      have e3 := cc2 3 _ rfl
      rw [Nat.add_zero] at e0
      have EA := Lib.hid ea2
      have HAJ := Lib.hid ha
      have htk : LD.take (j + 1) = LD.take j ++ [a] := by rw [List.take_add_one, ha]; rfl
      have HTK := Lib.hid htk
      clear cc2 ea2 ha htk
      obtain ⟨wq, hwq⟩ : ∃ wq, wo.alloc (.cells (linkCells a).toArray 63) = wq := ⟨_, rfl⟩
      have hla := Cells.new wo 63 (linkCells a)
      have ho := (Below.refl wo.heap.size wo).alloc (Nat.le_refl _) (.cells (linkCells a).toArray 63)
      rw [hwq] at hla ho
      have hx2 := HX.out.below ho HX.out.lt
      have hy2 := HY.out.below ho HY.out.lt
      have hb2 := HB.out.trans (ho.mono HB.out.size)
      have HLA := Lib.hid hla
      have HWQ := Lib.hid hwq
      clear HX HY HB ho
      have HX := Lib.hid hx2
      have HY := Lib.hid hy2
      have HB := Lib.hid hb2
      clear hla hwq hx2 hy2 hb2
      rw [EA.out]
      go_upto_region 4 with fail
      try rw [show wo.alloc (.cells #[.int .u32 a.to, .int .u64 a.wt, .int .u32 a.left, .int .u32 a.right] 63) = wq from HWQ.out]
      clear e0 e1 e2 e3
      have hflU := UOK.out.len
      obtain ⟨loU, hloU⟩ : ∃ lo, h.upF[r]? = some lo := ⟨_, List.getElem?_eq_getElem (by omega)⟩
      obtain ⟨hiU, hhiU⟩ : ∃ hi, h.upF[r + 1]? = some hi := ⟨_, List.getElem?_eq_getElem (by omega)⟩
      have gloU : h.upF.getD r 0 = loU := by rw [List.getD_eq_getElem?_getD, hloU]; rfl
      have ghiU : h.upF.getD (r + 1) 0 = hiU := by rw [List.getD_eq_getElem?_getD, hhiU]; rfl
      have hlhU : loU ≤ hiU := by rw [← gloU, ← ghiU]; exact UOK.out.mono r hrn
      have hhlU : hiU ≤ h.up.length := by rw [← ghiU]; exact UOK.out.le (r + 1) (by omega)
      have hsegU : seg h.upF h.up r = (h.up.take hiU).drop loU := by unfold seg; rw [gloU, ghiU]
      have suU := SEE.out.below HB.out
      have hhcU : hiU ≤ A.c2 := Nat.le_trans hhlU suU.up.hcap
      have hh32U : hiU < 4294967296 := suU.bu hiU (List.mem_of_getElem? hhiU)
      obtain ⟨b1U, o1U, ea1U, lb1U, cc1U⟩ := see_one (f := fun (n : Nat) => Value.int .u32 n) suU.upF (by omega)
      have clU := cc1U r loU hloU
      have chU := cc1U (r + 1) hiU hhiU
      obtain ⟨k0, k1, k2, k3, k4⟩ := hier_five HX.out
      rw [ea1U] at k1
      have hilU : r < h.upF.length := by omega
      have hil1U : r + 1 < h.upF.length := by omega
      have hslU := run_sub (P := Tryz.prog) 23 63 4 Tryz.underlying23 Tryz.sizeLink A.a2 h.up.length A.c2 loU hiU .u32 .u32 hlhU hhcU
      have hLlenU : ((h.up.take hiU).drop loU).length = hiU - loU := by simp; omega
      have hSUBU : ∀ X, Below w.heap.size w X → See X (slBase A.a2 loU A.c2 4) (A.c2 - loU) linkCells 4 ((h.up.take hiU).drop loU) := fun X hX => (SEE.out.below hX).up.sub loU hiU hhlU
      have hupU : ∀ y ∈ (h.up.take hiU).drop loU, r < y.to ∧ y.to < h.node.length ∧ y.wt ≤ 140737488355328 := fun y hy => OKU.out.up r hrn y (by rw [hsegU]; exact hy)
      have LLU := Lib.hid hLlenU
      have HSUBU := Lib.hid hSUBU
      have HUPU := Lib.hid hupU
      have HSEGU := Lib.hid hsegU
      clear hflU hloU hhiU gloU ghiU hsegU suU cc1U ea1U hLlenU hSUBU hupU
      obtain ⟨LU, hLU⟩ : ∃ L, (h.up.take hiU).drop loU = L := ⟨_, rfl⟩
      rw [hLU] at LLU HSUBU HUPU HSEGU
      clear hLU
      go_quiet (fail)
      have HLA2 := Lib.hid (HLA.out.drewN nq)
      have HX2 := Lib.hid (HX.out.drewN nq)
      have HY2 := Lib.hid (HY.out.drewN nq)
      have HB2 := Lib.hid (below_drewN HB.out nq)
      obtain ⟨wy, hwy⟩ : ∃ wy, wq.drewN nq = wy := ⟨_, rfl⟩
      rw [hwy] at HLA2 HX2 HY2 HB2 ⊢
      clear HLA HX HY HB hwy clU chU k0 k1 k2 k3 k4 hslU HWQ
      by_cases hemp : hiU - loU = 0
      · have d1 : (((hiU - loU : Nat) : Int) == 0) = true := by simp [hemp]
        have hnil : LU = [] := List.eq_nil_of_length_eq_zero (by rw [LLU.out]; exact hemp)
        have HNIL := Lib.hid hnil
        clear hnil hemp
        go_wp2
        go_returns
        exact ⟨true, rfl, ⟨fun _ a _ b hb => by rw [HSEGU.out, HNIL.out] at hb; simp at hb, fun _ => rfl⟩, HB2.out⟩
      · have d1 : (((hiU - loU : Nat) : Int) == 0) = false := by simp; omega
        have y0 : wy.cell? ⟨w.heap.size, 0, none⟩ = some (.slice (some ⟨bo, 0, none⟩) h.node.length h.node.length) := HY2.out.cell rfl
        have v0 : wy.cell? ⟨wo.heap.size, 0, none⟩ = some (.int .u32 (a.to : Nat)) := HLA2.out.cell rfl
        have cv : IntKind.i64.wrap (a.to : Int) = (a.to : Int) := IntWalk.i64_in _ (by omega)
        clear hemp
        go_wp2_with fail
        refine (from_any (r := (r : Nat)) (WR.out.below HB2.out) WOK.out WLEN.out hn ha2).mono ?_
        rintro e w5 ⟨bd, D, rfl, hcd, hS, -, hlo5, hb5⟩
        have HS := Lib.hid hS
        have HD3 := Lib.hid hcd
        have HA3 := Lib.hid (HLA2.out.below hb5 HLA2.out.lt)
        have HX3 := Lib.hid (HX2.out.below hb5 HX2.out.lt)
        have HY3 := Lib.hid (HY2.out.below hb5 HY2.out.lt)
        have HB3 := Lib.hid (HB2.out.trans (hb5.mono HB2.out.size))
        clear hcd hS hb5 HLA2 HX2 HY2 HB2 y0 v0 hlo5
        go_wp2_with fail
        go_loopg [57] (hiU - loU) (fun g vi wr => ∃ i : Nat, vi = .int .i64 i ∧ i ≤ hiU - loU ∧ g = hiU - loU - i ∧ (∀ b ∈ LU.take i, okPair h r a b) ∧ Cells wr bd 35 (distCells h.node.length D) ∧ Cells wr wo.heap.size 63 (linkCells a) ∧ Cells wr (w.heap.size + 1) 25 (hierCells A h) ∧ Cells wr w.heap.size 87 [.slice (some ⟨bo, 0, none⟩) h.node.length h.node.length] ∧ Below w.heap.size w wr)
        case atStart => exact ⟨0, rfl, Nat.zero_le _, rfl, by simp, HD3.out, HA3.out, HX3.out, HY3.out, HB3.out⟩
        case round =>
          obtain ⟨i, rfl, hi, hgi, halli, hd4, ha4, hx4, hy4, hb4⟩ := hrel
          obtain ⟨wp, rfl⟩ : ∃ wp : World, wp = wr := ⟨_, rfl⟩
          have HGI := Lib.hid hgi
          have HALLI := Lib.hid halli
          have HD := Lib.hid hd4
          have HLA := Lib.hid ha4
          have HX := Lib.hid hx4
          have HY := Lib.hid hy4
          have HB := Lib.hid hb4
          clear hgi halli hd4 ha4 hx4 hy4 hb4 HD3 HA3 HX3 HY3 HB3
          by_cases hil2 : i < hiU - loU
          · obtain ⟨b, hb⟩ : ∃ b, LU[i]? = some b := ⟨_, List.getElem?_eq_getElem (by rw [LLU.out]; exact hil2)⟩
            have hbm := List.mem_of_getElem? hb
            obtain ⟨hb1', hb2', hb3'⟩ := HUPU.out b hbm
            obtain ⟨b3, o3, ea3, cc3⟩ := (HSUBU.out wp HB.out).cell i b hb
            have e0 := cc3 0 _ rfl
            have e1 := cc3 1 _ rfl
            have e2 := cc3 2 _ rfl
            have e3 := cc3 3 _ rfl
            rw [Nat.add_zero] at e0
            have EB := Lib.hid ea3
            have HBM := Lib.hid hbm
            have htk : LU.take (i + 1) = LU.take i ++ [b] := by rw [List.take_add_one, hb]; rfl
            have HTKU := Lib.hid htk
            clear cc3 ea3 hb hbm htk
            obtain ⟨wq, hwq⟩ : ∃ wq, wp.alloc (.cells (linkCells b).toArray 63) = wq := ⟨_, rfl⟩
            have hlb := Cells.new wp 63 (linkCells b)
            have ho := (Below.refl wp.heap.size wp).alloc (Nat.le_refl _) (.cells (linkCells b).toArray 63)
            rw [hwq] at hlb ho
            have hd5 := HD.out.below ho HD.out.lt
            have ha5 := HLA.out.below ho HLA.out.lt
            have hx5 := HX.out.below ho HX.out.lt
            have hy5 := HY.out.below ho HY.out.lt
            have hb5 := HB.out.trans (ho.mono HB.out.size)
            have v0 : wq.cell? ⟨wp.heap.size, 0, none⟩ = some (.int .u32 (b.to : Nat)) := hlb.cell rfl
            have v1 : wq.cell? ⟨wp.heap.size, 1, none⟩ = some (.int .u64 (b.wt : Nat)) := hlb.cell rfl
            have u0 : wq.cell? ⟨wo.heap.size, 0, none⟩ = some (.int .u32 (a.to : Nat)) := ha5.cell rfl
            have u1 : wq.cell? ⟨wo.heap.size, 1, none⟩ = some (.int .u64 (a.wt : Nat)) := ha5.cell rfl
            have y1 : wq.cell? ⟨bd, b.to, none⟩ = some (.int .u64 (farOf (D b.to))) := hd5.cell (distCells_get hb2')
            have usum : IntKind.u64.wrap ((a.wt : Int) + (b.wt : Int)) = (a.wt : Int) + (b.wt : Int) := IntWalk.u64_in _ (by omega)
            have HWQ := Lib.hid hwq
            have HD5 := Lib.hid hd5
            have HA5 := Lib.hid ha5
            have HX5 := Lib.hid hx5
            have HY5 := Lib.hid hy5
            have HB5 := Lib.hid hb5
            clear hwq hlb ho hd5 ha5 hx5 hy5 hb5 HD HLA HX HY HB
            rw [EB.out]
            go_upto_region 11 with fail
            try rw [show wp.alloc (.cells #[.int .u32 b.to, .int .u64 b.wt, .int .u32 b.left, .int .u32 b.right] 63) = wq from HWQ.out]
            clear e0 e1 e2 e3
            have fin : ∀ nq, okPair h r a b → (∀ c ∈ LU.take (i + 1), okPair h r a c) ∧ Cells (wq.drewN nq) bd 35 (distCells h.node.length D) ∧ Cells (wq.drewN nq) wo.heap.size 63 (linkCells a) ∧ Cells (wq.drewN nq) (w.heap.size + 1) 25 (hierCells A h) ∧ Cells (wq.drewN nq) w.heap.size 87 [.slice (some ⟨bo, 0, none⟩) h.node.length h.node.length] ∧ Below w.heap.size w (wq.drewN nq) := fun nq hok =>
              ⟨fun c hc => by
                rw [HTKU.out, List.mem_append, List.mem_singleton] at hc
                rcases hc with hc | rfl
                · exact HALLI.out c hc
                · exact hok, HD5.out.drewN nq, HA5.out.drewN nq, HX5.out.drewN nq, HY5.out.drewN nq, below_drewN HB5.out nq⟩
            have FIN := Lib.hid fin
            clear fin
            by_cases heq : a.to = b.to
            · have t1 : ((a.to : Int) != (b.to : Int)) = false := by simp; omega
              have hok := Lib.hid (show okPair h r a b from fun hne => absurd heq hne)
              clear heq
              go_quiet (fail)
              go_wp2_with fail
              rw [← EB.out]
              go_roundg (hiU - loU - (i + 1))
              case measure => rw [HGI.out]; omega
              case rel => exact ⟨i + 1, by go_num, by omega, rfl, FIN.out _ hok.out⟩
            · have t1 : ((a.to : Int) != (b.to : Int)) = true := by simp; omega
              by_cases hlt : (a.wt : Int) + (b.wt : Int) < farOf (D b.to)
              · have t2 : decide ((a.wt : Int) + (b.wt : Int) < farOf (D b.to)) = true := by simpa using hlt
                have hno := Lib.hid (show ¬ HoldsD h r from fun hh => by
                  obtain ⟨dd, hw, hle⟩ := hh a (by rw [HSEGD.out]; exact List.mem_of_getElem? HAJ.out) b (by rw [HSEGU.out]; exact HBM.out) heq
                  obtain ⟨d0, h1, h2⟩ := HS.out.least _ _ hw
                  rw [h1] at hlt
                  simp only [farOf] at hlt
                  omega)
                clear hlt heq
                go_quiet (fail)
                go_wp2
                go_returns
                exact ⟨false, rfl, ⟨fun e => (by cases e), fun hh => absurd hh hno.out⟩, below_drewN HB5.out _⟩
              · have t2 : decide ((a.wt : Int) + (b.wt : Int) < farOf (D b.to)) = false := by simpa using hlt
                have hok := Lib.hid (show okPair h r a b from fun _ => by
                  cases hDb : D b.to with
                  | none => rw [hDb] at hlt; simp only [farOf] at hlt; omega
                  | some d0 => rw [hDb] at hlt; simp only [farOf] at hlt; exact ⟨d0, HS.out.walk _ _ hDb, by omega⟩)
                clear hlt heq
                go_quiet (fail)
                go_wp2_with fail
                rw [← EB.out]
                go_roundg (hiU - loU - (i + 1))
                case measure => rw [HGI.out]; omega
                case rel => exact ⟨i + 1, by go_num, by omega, rfl, FIN.out _ hok.out⟩
          · obtain rfl : i = hiU - loU := by omega
            go_wp2_with fail
            rw [← EA.out]
            go_roundg (hiD - loD - (j + 1))
            case measure => rw [HGJ.out]; omega
            case rel =>
              refine ⟨j + 1, by go_num, by omega, rfl, fun c hc b hb => ?_, HX.out, HY.out, HB.out⟩
              rw [HTK.out, List.mem_append, List.mem_singleton] at hc
              rcases hc with hc | rfl
              · exact HALL.out c hc b hb
              · exact HALLI.out b (by rw [List.take_of_length_le (by rw [LLU.out]; exact Nat.le_refl _), ← HSEGU.out]; exact hb)
    · obtain rfl : j = hiD - loD := by omega
      have hfull := HALL.out
      rw [List.take_of_length_le (by rw [LLD.out]; exact Nat.le_refl _), ← HSEGD.out] at hfull
      have HF := Lib.hid hfull
      clear hfull
      go_wp2_with fail
      refine HKK.out _ _ ?_
      conv => arg 2; whnf
      go_wp2
      go_returns
      exact ⟨true, rfl, ⟨fun _ => HF.out, fun _ => rfl⟩, HB.out⟩
noncomputable def scheckBody : Code := Tryz.f10.body.getD .skip
def SCheck (h : HierD) (x : EV) : Prop := (checkErr h ≠ .nil ∧ x = checkErr h) ∨ (checkErr h = .nil ∧ (∀ r, r < h.node.length → HoldsD h r) ∧ x = .nil) ∨
  (checkErr h = .nil ∧ ∃ r, r < h.node.length ∧ ¬ HoldsD h r ∧ (∀ q, q < r → HoldsD h q) ∧ x = .at 3 r 15)
def SCheckNew (h : HierD) (w : World) (e : Ending) (w' : World) : Prop := ∃ v x, e = .returned v ∧ ErrIs w' v x ∧ SCheck h x ∧ Below w.heap.size w w'
theorem weave_lit (A : HA) (h : HierD) (w : World) (see : HSee w A h) (u : FirstsOk h.node.length h.upF h.up.length) (d : FirstsOk h.node.length h.dnF h.dn.length) (ok : HalfOk h.node.length h.upF h.up) (okd : HalfOk h.node.length h.dnF h.dn) (hn : h.node.length ≤ 65536) (htot : h.up.length + h.dn.length ≤ 1048576) : Calls Tryz.prog 29 #[.agg #[.slice A.a0 h.node.length A.c0, .slice A.a1 h.upF.length A.c1, .slice A.a2 h.up.length A.c2, .slice A.a3 h.dnF.length A.c3, .slice A.a4 h.dn.length A.c4]] w (WeaveNew h w) := weave_any A h w see u d ok okd hn htot
set_option linter.unusedSimpArgs false in
set_option maxRecDepth 100000 in
set_option maxHeartbeats 8000000 in
theorem scheck_loop {s0 s2 s3 s5 s6 s7 s8 s9 s10 s11 s12 s13 s14 s15 s16 s17 s18 s19 s20 s21 s22 s23 s24 s25 s26 s27 : Value} {A : HA} {h : HierD} {w wx : World} {b4 bo base : Nat} {vs : Nat → Value} (see : HSee w A h) (hc : checkErr h = .nil) (htot : h.up.length + h.dn.length ≤ 1048576) (hb : Below w.heap.size w wx) (hx : Cells wx w.heap.size 25 (hierCells A h)) (h4 : Cells wx b4 87 [.slice (some ⟨bo, 0, none⟩) h.node.length h.node.length]) (wr : WRep base h.node.length (webD h) bo vs wx) :
    Code.wp Tryz.prog (tailAt 3 scheckBody) (bodyPost Tryz.prog Tryz.f10 (SCheckNew h w)) ⟨#[s0, .pointer (some ⟨w.heap.size, 0, none⟩), s2, s3, .pointer (some ⟨b4, 0, none⟩), s5, s6, s7, s8, s9, s10, s11, s12, s13, s14, s15, s16, s17, s18, s19, s20, s21, s22, s23, s24, s25, s26, s27], []⟩ wx := by
  have hp := checkErr_parts hc
  have hn := hp.1.n
  have u := firsts_nil hp.1.u hp.2.1
  have d := firsts_nil hp.1.d hp.2.2.1
  have ok := half_up hc
  have okd := half_dn hc
  have UOK := Lib.hid u
  have DOK := Lib.hid d
  have OKU := Lib.hid ok
  have OKD := Lib.hid okd
  have SEE := Lib.hid see
  have HC := Lib.hid hc
  clear hp u d ok okd see hc
  have HB0 := Lib.hid hb
  have HX0 := Lib.hid hx
  have H40 := Lib.hid h4
  have WR := Lib.hid wr
  obtain ⟨k0, k1, k2, k3, k4⟩ := hier_five hx
  clear hb hx h4 wr
  conv => arg 2; whnf
  apply wp_seq_k
  intro KK hK
  have HKK := Lib.hid hK
  clear hK
  go_wp2_with fail
  clear k0 k1 k2 k3 k4
  go_loopg [16] h.node.length (fun g vi wr => ∃ r : Nat, vi = .int .i64 r ∧ r ≤ h.node.length ∧ g = h.node.length - r ∧ (∀ q, q < r → HoldsD h q) ∧ Below wx.heap.size wx wr)
  case atStart => exact ⟨0, rfl, Nat.zero_le _, rfl, fun q hq => absurd hq (by omega), Below.refl _ _⟩
  case round =>
    obtain ⟨r, rfl, hrl, hg, hall, hbr⟩ := hrel
    obtain ⟨wo, rfl⟩ : ∃ wo : World, wo = wr := ⟨_, rfl⟩
    have HG := Lib.hid hg
    have HALL := Lib.hid hall
    have HBR := Lib.hid hbr
    have HB := Lib.hid (HB0.out.trans (hbr.mono HB0.out.size))
    have HX := Lib.hid (HX0.out.below hbr HX0.out.lt)
    have H4 := Lib.hid (H40.out.below hbr H40.out.lt)
    have WR2 := Lib.hid (WR.out.below hbr)
    clear hg hall hbr
    by_cases hrn : r < h.node.length
    · obtain ⟨k0, k1, k2, k3, k4⟩ := hier_five HX.out
      have q0 : wo.cell? ⟨b4, 0, none⟩ = some (.slice (some ⟨bo, 0, none⟩) h.node.length h.node.length) := H4.out.cell rfl
      go_wp2_with fail
      refine (holds_any A h r base bo vs _ (SEE.out.below HB.out) UOK.out DOK.out OKU.out OKD.out hn htot WR2.out hrn).mono ?_
      rintro e w1 ⟨b, rfl, hbi, hb1⟩
      have HBI := Lib.hid hbi
      have HB1 := Lib.hid hb1
      clear hbi hb1 k0 k1 k2 k3 k4 q0
      cases b
      · have hno : ¬ HoldsD h r := fun hh => by have := HBI.out.2 hh; cases this
        have HNO := Lib.hid hno
        clear hno
        go_wp2_with fail
        refine (at_any 3 r 15 _).mono ?_
        rintro e w2 ⟨v, rfl, hv, hb2⟩
        have HV := Lib.hid hv
        have HB2 := Lib.hid hb2
        clear hv hb2
        go_wp2
        go_returns
        exact ⟨v, .at 3 r 15, rfl, HV.out, .inr (.inr ⟨HC.out, r, hrn, HNO.out, HALL.out, rfl⟩), (HB.out.trans (HB1.out.mono HB.out.size)).trans (HB2.out.mono (HB.out.trans (HB1.out.mono HB.out.size)).size)⟩
      · have HOK := Lib.hid (HBI.out.1 rfl)
        go_wp2_with fail
        go_roundg (h.node.length - (r + 1))
        case measure => rw [HG.out]; omega
        case rel =>
          refine ⟨r + 1, by go_num, by omega, rfl, fun q hq => ?_, HBR.out.trans (HB1.out.mono HBR.out.size)⟩
          rcases Nat.lt_or_ge q r with c | c
          · exact HALL.out q c
          · obtain rfl : q = r := by omega
            exact HOK.out
    · obtain rfl : r = h.node.length := by omega
      go_wp2_with fail
      refine HKK.out _ _ ?_
      conv => arg 2; whnf
      go_wp2
      go_returns
      exact ⟨_, .nil, rfl, rfl, .inr (.inl ⟨HC.out, HALL.out, rfl⟩), HB.out⟩
set_option linter.unusedSimpArgs false in
set_option maxRecDepth 100000 in
set_option maxHeartbeats 8000000 in
theorem scheck_weave {s0 s2 s3 s4 s5 s6 s7 s8 s9 s10 s11 s12 s13 s14 s15 s16 s17 s18 s19 s20 s21 s22 s23 s24 s25 s26 s27 : Value} {A : HA} {h : HierD} {w wx : World} (see : HSee w A h) (hc : checkErr h = .nil) (htot : h.up.length + h.dn.length ≤ 1048576) (hb : Below w.heap.size w wx) (hx : Cells wx w.heap.size 25 (hierCells A h)) :
    Code.wp Tryz.prog (tailAt 2 scheckBody) (bodyPost Tryz.prog Tryz.f10 (SCheckNew h w)) ⟨#[s0, .pointer (some ⟨w.heap.size, 0, none⟩), s2, s3, s4, s5, s6, s7, s8, s9, s10, s11, s12, s13, s14, s15, s16, s17, s18, s19, s20, s21, s22, s23, s24, s25, s26, s27], []⟩ wx := by
  have hp := checkErr_parts hc
  have hn := hp.1.n
  have u := firsts_nil hp.1.u hp.2.1
  have d := firsts_nil hp.1.d hp.2.2.1
  have ok := half_up hc
  have okd := half_dn hc
  have UOK := Lib.hid u
  have DOK := Lib.hid d
  have OKU := Lib.hid ok
  have OKD := Lib.hid okd
  have SEE := Lib.hid see
  have HC := Lib.hid hc
  clear hp u d ok okd see hc
  have HB := Lib.hid hb
  have HX := Lib.hid hx
  obtain ⟨k0, k1, k2, k3, k4⟩ := hier_five hx
  clear hb hx
  conv => arg 2; whnf
  apply wp_seq_k
  intro KK hK
  have HKK := Lib.hid hK
  clear hK
  go_wp2_with fail
  refine (weave_lit A h _ (SEE.out.below HB.out) UOK.out DOK.out OKU.out OKD.out hn htot).mono ?_
  rintro e w1 ⟨bo, base, vs, rfl, hw, -, -, hb1⟩
  have ho := (Below.refl w1.heap.size w1).alloc (Nat.le_refl _) (.cells #[.slice (some ⟨bo, 0, none⟩) h.node.length h.node.length] 87)
  have HB1 := Lib.hid ((HB.out.trans (hb1.mono HB.out.size)).alloc (HB.out.trans (hb1.mono HB.out.size)).size (.cells #[.slice (some ⟨bo, 0, none⟩) h.node.length h.node.length] 87))
  have HX1 := Lib.hid ((HX.out.below hb1 HX.out.lt).alloc (.cells #[.slice (some ⟨bo, 0, none⟩) h.node.length h.node.length] 87))
  have HW1 := Lib.hid (hw.below ho)
  have H41 := Lib.hid (Cells.new w1 87 [.slice (some ⟨bo, 0, none⟩) h.node.length h.node.length])
  clear hb1 hw ho HB HX k0 k1 k2 k3 k4
  unfold webVal
  go_wp2_with fail
  refine HKK.out _ _ ?_
  change Code.wp _ (tailAt 3 scheckBody) _ _ _
  exact scheck_loop SEE.out HC.out htot HB1.out HX1.out H41.out HW1.out
set_option linter.unusedSimpArgs false in
set_option maxRecDepth 100000 in
set_option maxHeartbeats 8000000 in
theorem scheck_any (A : HA) (h : HierD) (w : World) (see : HSee w A h) : Calls Tryz.prog 10 #[hierVal A h] w (SCheckNew h w) := by
  have SEE := Lib.hid see
  have HX0 := Lib.hid (Cells.new w 25 (hierCells A h))
  have HB0 := Lib.hid ((Below.refl w.heap.size w).alloc (Nat.le_refl _) (.cells (hierCells A h).toArray 25))
  obtain ⟨k0, k1, k2, k3, k4⟩ := hier_five HX0.out
  clear see
  unfold hierVal
  go_enter Tryz.func10, Tryz.ntmps10
  apply wp_seq_k
  intro K0 hK
  have HK0 := Lib.hid hK
  clear hK
  go_wp2_with fail
  refine HK0.out _ _ ?_
  clear HK0
  apply wp_seq_k
  intro KK hK
  have HKK := Lib.hid hK
  clear hK
  go_wp2_with fail
  refine (hcheck_any A h _ (SEE.out.below HB0.out)).mono ?_
  rintro e w1 ⟨v, rfl, hv, hb⟩
  have HV := Lib.hid hv
  have HX := Lib.hid (HX0.out.below hb HX0.out.lt)
  have HB := Lib.hid (HB0.out.trans (hb.mono HB0.out.size))
  clear hv hb HX0 HB0 k0 k1 k2 k3 k4
  by_cases hc : checkErr h = .nil
  · obtain rfl := HV.out.nilv hc
    have hp := checkErr_parts hc
    have HT := Lib.hid (hp.1.total SEE.out (firsts_nil hp.1.u hp.2.1) (firsts_nil hp.1.d hp.2.2.1))
    have HC := Lib.hid hc
    clear hc hp
    go_wp2_with fail
    refine HKK.out _ _ ?_
    change Code.wp _ (tailAt 2 scheckBody) _ _ _
    exact scheck_weave SEE.out HC.out HT.out HB.out HX.out
  · obtain ⟨t1, v1, rfl⟩ := HV.out.iface hc
    have HC := Lib.hid hc
    clear hc
    go_wp2
    go_returns
    exact ⟨_, _, rfl, HV.out, .inl ⟨HC.out, rfl⟩, HB.out⟩
inductive SAbove (h : HierD) (r s t : Int) : Int → EV → Prop
  | form (e : checkErr h ≠ .nil) : SAbove h r s t 0 (checkErr h)
  | arg (e : checkErr h = .nil) (a : r < -1 ∨ (h.node.length : Int) ≤ r) : SAbove h r s t 0 (.code 1)
  | node (e : checkErr h = .nil) (a : ¬ (r < -1 ∨ (h.node.length : Int) ≤ r)) (b : (s ≤ r ∨ (h.node.length : Int) ≤ s) ∨ t ≤ r ∨ (h.node.length : Int) ≤ t) : SAbove h r s t 0 (.code 7)
  | walk (D : Nat → Option Int) (d : Int) (e : checkErr h = .nil) (a : ¬ (r < -1 ∨ (h.node.length : Int) ≤ r)) (b : ¬ ((s ≤ r ∨ (h.node.length : Int) ≤ s) ∨ t ≤ r ∨ (h.node.length : Int) ≤ t)) (i : IsS (webD h) r s.toNat D) (f : D t.toNat = some d) : SAbove h r s t d .nil
  | none (D : Nat → Option Int) (e : checkErr h = .nil) (a : ¬ (r < -1 ∨ (h.node.length : Int) ≤ r)) (b : ¬ ((s ≤ r ∨ (h.node.length : Int) ≤ s) ∨ t ≤ r ∨ (h.node.length : Int) ≤ t)) (i : IsS (webD h) r s.toNat D) (f : D t.toNat = none) : SAbove h r s t 0 (.code 16)
theorem IsS.big {W : Nat → List (Nat × Nat)} {r : Int} {u : Nat} {D : Nat → Option Int} (h : IsS W r u D) {v : Nat} {d : Int} (hd : D v = some d) : 0 ≤ d := (h.walk v d hd).nonneg
end Go.Proofs.YtblkkjfpggcgfaaGreatDoor
