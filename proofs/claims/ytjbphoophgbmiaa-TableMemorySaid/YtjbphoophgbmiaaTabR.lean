/- table.row. -/
import Derived.Test.YtjbphoophgbmiaaTabK
import Derived.Test.YtjbphoophgbmiaaMatG
import Derived.Test.YtjbphoophgbmiaaRefI
import Derived.StillTailTactics
import Derived.Lib.MinMax
namespace Go.Proofs.Ytjbphoophgbmiaa
open Go.ChangeShapes Go.WideShapes Go.ChangeAt Go.RowKit Go.Joins Go.Deep

noncomputable def rowBody : Code := Try.f35.body.getD .skip
def RowNew (h : HierD) (s k : Nat) (E : Nat → Nat → Option Int) (w : World) (e : Ending) (w' : World) : Prop :=
  ∃ (b : Nat) (D : Nat → Option Int), e = .returned (.tuple #[.slice (some ⟨b, 0, none⟩) k k, .nilIface]) ∧ IsD h.node.length h.upF h.up s D ∧ Cells w' b 33 (rowCells k (fun c => cellTo D E h.node.length c)) ∧ w.heap.size ≤ b ∧ Below w.heap.size w w'
theorem cup_lit (A : HA) (h : HierD) (s : Nat) (w : World) (see : HSee w A h) (hc : checkErr h = .nil) (hs : s < h.node.length) :
    Calls Try.prog 51 #[.agg #[.slice A.a0 h.node.length A.c0, .slice A.a1 h.upF.length A.c1, .slice A.a2 h.up.length A.c2, .slice A.a3 h.dnF.length A.c3, .slice A.a4 h.dn.length A.c4], .int .i64 s] w (ClimbPost h.node.length h.upF h.up s w) := cup_any A h s w see hc hs
theorem ownBlock_len (ao : Option Addr) (n m cap : Nat) : (Value.slice ao n cap).ownBlock = (Value.slice ao m cap).ownBlock := by cases ao <;> rfl
/-- No distance of the columns is too great for a sum. -/
def ColOk (n k : Nat) (E : Nat → Nat → Option Int) : Prop := ∀ c r d, c < k → r < n → E c r = some d → 0 ≤ d ∧ d ≤ 9223231299366420480
theorem IsD.small {n : Nat} {first : List Nat} {links : List LinkD} {s : Nat} {D : Nat → Option Int} (ok : HalfOk n first links) (hn : n ≤ 65536) (i : IsD n first links s D) {r : Nat} {d : Int} (hr : r < n) (hd : D r = some d) : 0 ≤ d ∧ d ≤ 9223231299366420480 := by
  obtain ⟨h1, h2⟩ := i.bnd ok r d hd
  exact ⟨h1, by omega⟩
set_option linter.unusedSimpArgs false in
set_option maxRecDepth 100000 in
set_option maxHeartbeats 8000000 in
/-- **table.row.** -/
theorem row_any (A : HA) (h : HierD) (s k bm base : Nat) (E : Nat → Nat → Option Int) (g : Nat → Option Value) (w : World) (see : HSee w A h) (hc : checkErr h = .nil) (hs : s < h.node.length) (hk : k ≤ 1048576) (hm : BRep base h.node.length [] (colTo E k) bm g w) (hE : ColOk h.node.length k E) :
    Calls Try.prog 35 #[hierVal A h, .int .i64 (s : Nat), .int .i64 (k : Nat), .map (some bm)] w (RowNew h s k E w) := by
  have hn := (checkErr_parts hc).1.n
  have UOK := Lib.hid (half_up hc)
  have SEE := Lib.hid see
  have HC := Lib.hid hc
  have HM := Lib.hid hm
  have HE := Lib.hid hE
  have HX0 := Lib.hid (Cells.new w 25 (hierCells A h))
  have HB0 := Lib.hid ((Below.refl w.heap.size w).alloc (Nat.le_refl _) (.cells (hierCells A h).toArray 25))
  obtain ⟨k0, k1, k2, k3, k4⟩ := hier_five HX0.out
  have hmk := run_make_n (P := Try.prog) 48 33 (.int .u64 0) 1 8 Try.underlying48 Try.infoU64 .i64 .i64 k (by omega) (by omega)
  rw [rowCells_made] at hmk
  clear see hc hm hE
  unfold hierVal
  go_enter Try.func35, Try.ntmps35
  go_wp2_with fail
  refine (cup_lit A h s _ (SEE.out.below HB0.out) HC.out hs).mono ?_
  rintro e w2 ⟨ao, cap, L, D, rfl, hown, hnew, hd, hml, hb2⟩
  have HD := Lib.hid hd
  have hLn : L.length ≤ h.node.length := by
    have := congrArg List.length hml
    rw [List.length_map] at this
    rw [this]
    exact seenOf_len _ _
  have HLM := Lib.hid (show SeenAt h.node.length D (L.map fun x => (x.rank, x.dist)) 0 0 from by rw [hml]; exact SeenAt.start _ _)
  have HB2 := Lib.hid (HB0.out.trans (hb2.mono HB0.out.size))
  have HOWN := Lib.hid hown
  clear hd hml hb2 hown hnew k0 k1 k2 k3 k4 HX0 HB0
  go_upto_region 5 with fail
  have hz := Cells.new w2 33 (rowCells k fun _ => 0)
  have ho := (Below.refl w2.heap.size w2).alloc (Nat.le_refl _) (.cells (rowCells k fun _ => 0).toArray 33)
  obtain ⟨w3, hw3⟩ : ∃ w3, w2.alloc (.cells (rowCells k fun _ => 0).toArray 33) = w3 := ⟨_, rfl⟩
  rw [hw3] at hz ho ⊢
  have HB3 := Lib.hid (HB2.out.trans (ho.mono HB2.out.size))
  have HOWN3 := Lib.hid (own_kept (bs := []) HOWN.out (Only.of_below ho) (fun _ _ => by simp))
  have HZ3 := Lib.hid hz
  have HLW := Lib.hid (fun q (hq : (Value.slice ao L.length cap).ownBlock = some q) => ownRow_lt HOWN.out hq)
  have HSZ := Lib.hid HB2.out.size
  clear hz ho hw3 hmk HB2 HOWN
  obtain ⟨bd, hbd⟩ : ∃ bd, w2.heap.size = bd := ⟨_, rfl⟩
  rw [hbd] at HZ3 HLW HSZ ⊢
  have HBD := Lib.hid hbd
  clear hbd
  go_wp2_with fail
  go_loopg [31] k (fun gg vi wr => ∃ j : Nat, vi = .int .i64 (j : Int) ∧ j ≤ k ∧ gg = k - j ∧ Cells wr bd 33 (rowCells k fun c => if c < j then 18446744073709551615 else 0) ∧ wr.ownsRow 0 106 3 (.slice ao L.length cap) L.length (L.flatMap seenCells) ∧ Below w.heap.size w wr)
  case atStart => exact ⟨0, rfl, Nat.zero_le _, rfl, by rw [rowCells_congr (g := fun _ => 0) (fun x _ => by simp)]; exact HZ3.out, HOWN3.out, HB3.out⟩
  case round =>
    obtain ⟨j, rfl, hj, hgj, hz, ho, hb⟩ := hrel
    obtain ⟨wo, rfl⟩ : ∃ wo : World, wo = wr := ⟨_, rfl⟩
    have HGJ := Lib.hid hgj
    have HZ := Lib.hid hz
    have HO := Lib.hid ho
    have HB := Lib.hid hb
    clear hgj hz ho hb HZ3 HOWN3 HB3
    by_cases hjk : j < k
    · have y0 : wo.cell? ⟨bd, j, none⟩ = some (.int .u64 (if j < j then 18446744073709551615 else 0)) := HZ.out.cell (rowCells_get hjk)
      have g1 := HZ.out.frozen j
      have lz := HZ.out.lt
      have hst := HZ.out.set j (.int .u64 18446744073709551615)
      rw [rowCells_set, rowCells_congr (g := fun c => if c < j + 1 then 18446744073709551615 else 0) (fun x _ => by
        by_cases e1 : x = j
        · rw [if_pos e1, if_pos (by omega)]
        · rw [if_neg e1]
          by_cases e2 : x < j
          · rw [if_pos e2, if_pos (by omega)]
          · rw [if_neg e2, if_neg (by omega)])] at hst
      have HST := Lib.hid hst
      clear hst
      go_wp2_with fail
      go_roundg (k - (j + 1))
      case measure => rw [HGJ.out]; omega
      case rel =>
        refine ⟨j + 1, by go_num, by omega, rfl, HST.out, own_kept (bs := [bd]) HO.out ((Only.refl _ _).setCell (p := ⟨bd, j, none⟩) (.inl (by simp)) _) (fun q hq => ?_), HB.out.setCell (p := ⟨bd, j, none⟩) HSZ.out _⟩
        have := HLW.out q hq
        simp only [List.mem_singleton]
        omega
    · obtain rfl : j = k := by omega
      have HZ4 := Lib.hid (show Cells wo bd 33 (rowCells j (fun c => cellTo D E 0 c)) from by rw [rowCells_congr (g := fun c => if c < j then 18446744073709551615 else 0) (fun x hx => by rw [if_pos hx]; rfl)]; exact HZ.out)
      clear HZ
      go_wp2_with fail
      go_loopg [40] L.length (fun gg vi wr => ∃ (i m : Nat), vi = .int .i64 (i : Int) ∧ i ≤ L.length ∧ gg = L.length - i ∧ SeenAt h.node.length D (L.map fun x => (x.rank, x.dist)) i m ∧ Cells wr bd 33 (rowCells j fun c => cellTo D E m c) ∧ wr.ownsRow 0 106 3 (.slice ao L.length cap) L.length (L.flatMap seenCells) ∧ Below w.heap.size w wr)
      case atStart => exact ⟨0, 0, rfl, Nat.zero_le _, rfl, HLM.out, HZ4.out, HO.out, HB.out⟩
      case round =>
        obtain ⟨i, m, rfl, hi, hgi, hsa, hz, ho, hb⟩ := hrel
        obtain ⟨wp, rfl⟩ : ∃ wp : World, wp = wr := ⟨_, rfl⟩
        have HGI := Lib.hid hgi
        have HSA := Lib.hid hsa
        have HZ := Lib.hid hz
        have HO1 := Lib.hid ho
        have HB1 := Lib.hid hb
        clear hgi hsa hz ho hb HLM HZ4 HO HB
        by_cases hil : i < L.length
        · obtain ⟨y, hy⟩ : ∃ y, L[i]? = some y := ⟨_, List.getElem?_eq_getElem hil⟩
          obtain ⟨b2, o2, ea2, cc2⟩ := (See.of_own seenCells_len HO1.out (by omega)).1.cell i y hy
          have e0 := cc2 0 _ rfl
          have e1 := cc2 1 _ rfl
          have e2 := cc2 2 _ rfl
          rw [Nat.add_zero] at e0
          have hcons := HSA.out.cons (show (L.map fun x => (x.rank, x.dist))[i]? = some (y.rank, y.dist) by rw [List.getElem?_map, hy]; rfl)
          obtain ⟨hrn, hDr, hrest, hput⟩ := row_step (k := j) (E := E) hcons
          obtain ⟨hy0, hy1⟩ := HD.out.small UOK.out hn hrn hDr
          have HPUT := Lib.hid hput
          have HREST := Lib.hid (show SeenAt h.node.length D (L.map fun x => (x.rank, x.dist)) (i + 1) (y.rank + 1) from ⟨by omega, hrest⟩)
          have EA := Lib.hid ea2
          obtain ⟨wq, hwq⟩ : ∃ wq, wp.alloc (.cells (seenCells y).toArray 106) = wq := ⟨_, rfl⟩
          have hbx := Cells.new wp 106 (seenCells y)
          have hoo := (Below.refl wp.heap.size wp).alloc (Nat.le_refl _) (.cells (seenCells y).toArray 106)
          rw [hwq] at hbx hoo
          have hZ2 := HZ.out.below hoo HZ.out.lt
          have hO2 := own_kept (bs := []) HO1.out (Only.of_below hoo) (fun _ _ => by simp)
          have hB2 := HB1.out.trans (hoo.mono HB1.out.size)
          have hM2 := HM.out.below hB2
          have hlz := HZ.out.lt
          have v0 : wq.cell? ⟨wp.heap.size, 0, none⟩ = some (.int .i64 (y.rank : Nat)) := hbx.cell rfl
          have v1 : wq.cell? ⟨wp.heap.size, 1, none⟩ = some (.int .u64 y.dist) := hbx.cell rfl
          have hlk := hM2.m.look Try.underlying77 Try.underlying3 (Try.zeroEnts _) (r := y.rank) (by omega)
          have hL := hM2.own y.rank hrn
          obtain ⟨ao5, cap5, hvs⟩ := own_form' hL
          have hql : ∀ n2 q, (Value.slice ao5 n2 cap5).ownBlock = some q → q < w.heap.size := fun n2 q hq => ownRow_lt (HM.out.own y.rank hrn) (by rw [hvs, ownBlock_len ao5 _ n2]; exact hq)
          rw [hvs] at hL hlk
          have hlen := colTo_len E j y.rank
          have HWQ := Lib.hid hwq
          have HZ2 := Lib.hid hZ2
          have HO2 := Lib.hid hO2
          have HB2 := Lib.hid hB2
          have HL2 := Lib.hid hL
          have HBX := Lib.hid hbx
          have HMEM := Lib.hid (fun x (hx : x ∈ colTo E j y.rank) => (colTo_mem.1 hx))
          have HNE := Lib.hid (show wp.heap.size ≠ bd by omega)
          clear cc2 ea2 hy hcons hDr hrest hput hwq hbx hoo hZ2 hO2 hB2 hM2 hL hvs HZ HO1 HB1
          obtain ⟨T, hT⟩ : ∃ T, colTo E j y.rank = T := ⟨_, rfl⟩
          rw [hT] at HPUT HL2 HMEM hlen hlk
          clear hT
          obtain ⟨tn, htn⟩ : ∃ tn, T.length = tn := ⟨_, rfl⟩
          rw [htn] at HL2 hlen hlk
          have HQL := Lib.hid (fun q (hq : (Value.slice ao5 tn cap5).ownBlock = some q) => hql tn q hq)
          clear hql
          have HTN := Lib.hid htn
          clear htn
          rw [EA.out]
          go_upto_region 13 with fail
          rw [show wp.alloc (.cells #[.int .i64 y.rank, .int .u64 y.dist, .bool y.st] 106) = wq from HWQ.out]
          clear e0 e1 e2
          go_wp2_with fail
          clear hlk v0
          rw [← EA.out]
          go_loopg [49] tn (fun gg vi wr => ∃ (t : Nat), vi = .int .i64 (t : Int) ∧ t ≤ tn ∧ gg = tn - t ∧ Cells wr bd 33 (rowCells j ((T.take t).foldl (setMin y.dist) (cellTo D E m))) ∧ wr.ownsRow 0 106 3 (.slice ao L.length cap) L.length (L.flatMap seenCells) ∧ Cells wr wp.heap.size 106 (seenCells y) ∧ wr.ownsRow 0 111 2 (.slice ao5 tn cap5) tn (T.flatMap entCells) ∧ Below w.heap.size w wr)
          case atStart => exact ⟨0, rfl, Nat.zero_le _, rfl, HZ2.out, HO2.out, HBX.out, HL2.out, HB2.out⟩
          case round =>
            obtain ⟨t, rfl, ht, hgt, hz, ho, hx, hl, hb⟩ := hrel
            obtain ⟨wu, rfl⟩ : ∃ wu : World, wu = wr := ⟨_, rfl⟩
            have HGT := Lib.hid hgt
            have HZ := Lib.hid hz
            have HO := Lib.hid ho
            have HX := Lib.hid hx
            have HL := Lib.hid hl
            have HB := Lib.hid hb
            clear hgt hz ho hx hl hb HZ2 HO2 HBX HB2
            by_cases htt : t < tn
            · obtain ⟨z, hz⟩ : ∃ z, T[t]? = some z := ⟨_, List.getElem?_eq_getElem (by rw [HTN.out]; exact htt)⟩
              obtain ⟨hz1, hz2⟩ := HMEM.out z (List.mem_of_getElem? hz)
              obtain ⟨hz3, hz4⟩ := HE.out z.1 y.rank z.2 hz1 hrn hz2
              have hof := See.of_own entCells_len HL.out (by omega)
              obtain ⟨b3, o3, ea3, cc3⟩ := hof.1.cell t z hz
              have e0 := cc3 0 _ rfl
              have e1 := cc3 1 _ rfl
              rw [Nat.add_zero] at e0
              have EB := Lib.hid ea3
              have htk : T.take (t + 1) = T.take t ++ [z] := by rw [List.take_add_one, hz]; rfl
              obtain ⟨F, hF⟩ : ∃ F, (T.take t).foldl (setMin y.dist) (cellTo D E m) = F := ⟨_, rfl⟩
              have HNX := Lib.hid (show (T.take (t + 1)).foldl (setMin y.dist) (cellTo D E m) = setMin y.dist F z from by rw [htk, List.foldl_append, hF]; rfl)
              rw [hF] at HZ
              obtain ⟨wv, hwv⟩ : ∃ wv, wu.alloc (.cells (entCells z).toArray 111) = wv := ⟨_, rfl⟩
              have hbe := Cells.new wu 111 (entCells z)
              have hoo := (Below.refl wu.heap.size wu).alloc (Nat.le_refl _) (.cells (entCells z).toArray 111)
              rw [hwv] at hbe hoo
              have hZ2 := HZ.out.below hoo HZ.out.lt
              have HO3 := Lib.hid (own_kept (bs := []) HO.out (Only.of_below hoo) (fun _ _ => by simp))
              have HL3 := Lib.hid (own_kept (bs := []) HL.out (Only.of_below hoo) (fun _ _ => by simp))
              have hX3 := HX.out.below hoo HX.out.lt
              have HB3 := Lib.hid (HB.out.trans (hoo.mono HB.out.size))
              have v1 : wv.cell? ⟨wp.heap.size, 1, none⟩ = some (.int .u64 y.dist) := hX3.cell rfl
              have u0 : wv.cell? ⟨wu.heap.size, 0, none⟩ = some (.int .i64 (z.1 : Nat)) := hbe.cell rfl
              have u1 : wv.cell? ⟨wu.heap.size, 1, none⟩ = some (.int .u64 z.2) := hbe.cell rfl
              have d0 : wv.cell? ⟨bd, z.1, none⟩ = some (.int .u64 (F z.1)) := hZ2.cell (rowCells_get hz1)
              have g1 := hZ2.frozen z.1
              have lz := hZ2.lt
              have usum : IntKind.u64.wrap (y.dist + z.2) = y.dist + z.2 := IntWalk.u64_in _ (by omega)
              have hst := hZ2.set z.1 (.int .u64 (min (F z.1) (y.dist + z.2)))
              rw [rowCells_set] at hst
              have HST := Lib.hid (show Cells (wv.setCell ⟨bd, z.1, none⟩ (.int .u64 (min (F z.1) (y.dist + z.2)))) bd 33 (rowCells j (setMin y.dist F z)) from by
                rw [rowCells_congr (g := fun x => if x = z.1 then min (F z.1) (y.dist + z.2) else F x) (fun x _ => by
                  unfold setMin
                  by_cases e : x = z.1
                  · rw [if_pos e, if_pos e, e]
                  · rw [if_neg e, if_neg e])]
                exact hst)
              have HX3 := Lib.hid hX3
              have HWV := Lib.hid hwv
              have hlw := hz1
              clear cc3 ea3 hz hof htk hF hwv hbe hoo hZ2 hX3 hst HZ HO HX HL HB
              rw [EB.out]
              go_upto_region 16 with fail
              rw [show wu.alloc (.cells #[.int .i64 z.1, .int .u64 z.2] 111) = wv from HWV.out]
              clear e0 e1
              go_still_tail 15, (by kernel_rfl)
              change wpList _ _ _ _ _ wv.drew
              go_wp2_with fail
              rw [← EB.out]
              go_roundg (tn - (t + 1))
              case measure => rw [HGT.out]; omega
              case rel =>
                have ho1 : Only [bd] wv (wv.setCell ⟨bd, z.1, none⟩ (.int .u64 (min (F z.1) (y.dist + z.2)))).drew := ((Only.refl _ _).setCell (p := ⟨bd, z.1, none⟩) (.inl (by simp)) _).drew
                refine ⟨t + 1, by go_num, by omega, rfl, by rw [HNX.out]; exact HST.out.drew, own_kept HO3.out ho1 (fun q hq => ?_), HX3.out.kept ho1 (by simpa using HNE.out), own_kept HL3.out ho1 (fun q hq => ?_), (HB3.out.setCell (p := ⟨bd, z.1, none⟩) HSZ.out _).drew⟩
                · have := HLW.out q hq
                  simp only [List.mem_singleton]
                  omega
                · have h1 := HQL.out q hq
                  have h2 := HSZ.out
                  simp only [List.mem_singleton]
                  omega
            · obtain rfl : t = tn := by omega
              have HZN := Lib.hid (show Cells wu bd 33 (rowCells j fun c => cellTo D E (y.rank + 1) c) from by
                have := HZ.out
                rw [List.take_of_length_le (by rw [HTN.out]; exact Nat.le_refl _)] at this
                rw [rowCells_congr (g := fun c => T.foldl (setMin y.dist) (cellTo D E m) c) (fun c hc => (HPUT.out c hc).symm)]
                exact this)
              go_wp2_with fail
              go_roundg (L.length - (i + 1))
              case measure => rw [HGI.out]; omega
              case rel => exact ⟨i + 1, y.rank + 1, by go_num, by omega, rfl, HREST.out, HZN.out, HO.out, HB.out⟩
        · obtain rfl : i = L.length := by omega
          have hend := HSA.out.done (by simp)
          have HZN := Lib.hid (show Cells wp bd 33 (rowCells j fun c => cellTo D E h.node.length c) from by
            rw [rowCells_congr (g := fun c => cellTo D E m c) (fun c _ => (row_end HSA.out.1 hend c).symm)]
            exact HZ.out)
          clear hend
          go_wp2
          go_returns
          exact ⟨bd, D, rfl, HD.out, HZN.out, HSZ.out, HB1.out⟩
end Go.Proofs.Ytjbphoophgbmiaa
