/- search.Matrix: all distances of a right graph's arrays. -/
import Derived.Test.YtblkkjfpggcgfaaGreatDoorSMatP
namespace Go.Proofs.YtblkkjfpggcgfaaGreatDoor
open Go.ChangeShapes Go.WideShapes Go.ChangeAt Go.RowKit Go.Joins Go.Deep

theorem Tryz.infoRowM : (Tryz.prog.info? 46).map (fun i => (i.zero, i.size, i.bytes)) = some (some (.slice none 0 0), 1, 24) := by kernel_rfl
theorem made_oneM (z : Value) (hz : z.cells = #[z]) (n : Nat) : madeCells z.cells (n * 1) = ((List.range n).map fun _ => z).toArray := by
  have e := madeCells_eq [z] n (by simp)
  have h : ((List.replicate n ()).flatMap fun _ => [z]) = (List.range n).map fun _ => z := by
    apply List.ext_getElem?
    intro j
    have hg := flat_get (f := fun (_ : Unit) => [z]) (sz := 1) (fun _ => rfl) (List.replicate n ()) j 0 (by omega)
    rw [Nat.mul_one, Nat.add_zero] at hg
    rw [hg]
    rcases Nat.lt_or_ge j n with h1 | h1
    · simp [h1]
    · rw [List.getElem?_eq_none (l := List.replicate n ()) (by simpa using h1), List.getElem?_eq_none (l := (List.range n).map _) (by simpa using h1)]; rfl
  rw [h] at e
  rw [hz]
  exact e
theorem rowF_made (n : Nat) (D : Nat → Option Int) : madeCells (Value.int .u64 0).cells (n * 1) = (rowF n D 0).toArray := by
  rw [rowF_zero]
  rw [made_oneM _ rfl n, List.map_const', List.length_range]
def AllNew (n : Nat) (D : Nat → Option Int) (w : World) (e : Ending) (w' : World) : Prop := ∃ b, e = .returned (.slice (some ⟨b, 0, none⟩) n n) ∧ Cells w' b 35 (rowF n D n) ∧ w.heap.size ≤ b ∧ Below w.heap.size w w'
set_option linter.unusedSimpArgs false in
set_option maxRecDepth 100000 in
set_option maxHeartbeats 8000000 in
theorem all_any (B : Nat) (C : CA) (n N : Nat) (Z : SB) (iv : Value) (hs : HS) (ds : List (Option Int)) (H : List Nat) (S : List Bool) (D : Nat → Option Int) (w : World) (hn : n ≤ 65536) (hr : StRep w B C n N Z iv hs ds H S) (hD : ∀ x, ds.getD x none = D x) :
    Calls Tryz.prog 27 #[.pointer (some ⟨Z.sb, 0, none⟩)] w (AllNew n D w) := by
  have hmk := run_make_n (P := Tryz.prog) 46 35 (.int .u64 0) 1 8 Tryz.underlying46 Tryz.infoU64 .i64 .i64 n (by omega) (by omega)
  rw [rowF_made n D] at hmk
  have HSN := Lib.hid (fun W => snodes_any C n N W hn)
  unfold csrVal at HSN
  have z0 : w.cell? ⟨Z.sb, 0, none⟩ = some (.slice C.fa (n + 1) C.fc) := hr.st.cell rfl
  have z1 : w.cell? ⟨Z.sb, 1, none⟩ = some (.slice C.ta N C.tc) := hr.st.cell rfl
  have z2 : w.cell? ⟨Z.sb, 2, none⟩ = some (.slice C.wa N C.wc) := hr.st.cell rfl
  have lz := hr.st.lt
  have hld := hr.ld
  have HR := Lib.hid hr
  have HD := Lib.hid hD
  clear hr hD
  go_enter Tryz.func27, Tryz.ntmps27
  go_wp2_with fail
  refine (HSN.out _).mono ?_
  rintro e w1 ⟨rfl, hb1⟩
  have HB1 := Lib.hid hb1
  have HR1 := Lib.hid (HR.out.below hb1)
  clear z0 z1 z2 hb1 HR lz
  go_upto_region 2 with fail
  obtain ⟨b, hb⟩ : ∃ b, w1.heap.size = b := ⟨_, rfl⟩
  have hc := Cells.new w1 35 (rowF n D 0)
  have hr2 := HR1.out.below ((Below.refl w1.heap.size w1).alloc (Nat.le_refl _) (.cells (rowF n D 0).toArray 35))
  have hbw := HB1.out.size
  have hb2 := HB1.out.alloc hbw (.cells (rowF n D 0).toArray 35)
  obtain ⟨wz, hwz⟩ : ∃ wz, w1.alloc (.cells (rowF n D 0).toArray 35) = wz := ⟨_, rfl⟩
  rw [hwz] at hc hr2 hb2 ⊢
  rw [hb] at hc hbw ⊢
  have hold : ∀ k ∈ [Z.sb, Z.tb, Z.cb, Z.ob, Z.eb], k < b := fun k hk => by rw [← hb]; exact HR1.out.lts k hk
  have HC := Lib.hid hc
  have HR2 := Lib.hid (And.intro hr2.st hr2.sp)
  have HB2 := Lib.hid hb2
  have ns : Z.sb < b := hold _ (by simp)
  have nt : Z.tb < b := hold _ (by simp)
  have nc : Z.cb < b := hold _ (by simp)
  clear hwz hb hc hr2 hb2 HR1 HB1 hold
  go_wp2_with fail
  go_loopg [15] n (fun g vi wr => ∃ k : Nat, vi = .int .i64 k ∧ k ≤ n ∧ g = n - k ∧ Cells wr b 35 (rowF n D k) ∧ (Cells wr Z.sb 127 (stCells C n N Z) ∧ SRep wr Z.tb Z.cb ds) ∧ Below w.heap.size w wr)
  case atStart => exact ⟨0, rfl, Nat.zero_le _, rfl, HC.out, HR2.out, HB2.out⟩
  case round =>
    obtain ⟨k, rfl, hk, hg, hc, hr, hbl⟩ := hrel
    have HC3 := Lib.hid hc
    have HR3 := Lib.hid hr
    have HB3 := Lib.hid hbl
    have HG := Lib.hid hg
    clear hc hr hbl hg
    by_cases hkn : k < n
    · have z4 : wr.cell? ⟨Z.sb, 4, none⟩ = some (.pointer (some ⟨Z.tb, 0, none⟩)) := HR3.out.1.cell rfl
      have ld : k < ds.length := by rw [hld]; exact hkn
      have hdk : ds[k]? = some (D k) := by
        have := HD.out k
        rw [List.getD_eq_getElem?_getD, List.getElem?_eq_getElem ld, Option.getD_some] at this
        rw [List.getElem?_eq_getElem ld, this]
      go_wp2_with fail
      refine (stampGet_any k (D k) _ HR3.out.2 hdk).mono ?_
      rintro e w3 ⟨rfl, hb3⟩
      have hc4 := HC3.out.below hb3 HC3.out.lt
      have o4 : w3.cell? ⟨b, k, none⟩ = some (.int .u64 0) := by
        have := hc4.cell (rowF_get (D := D) (k := k) hkn)
        rw [if_neg (Nat.lt_irrefl k)] at this
        exact this
      have f4 := hc4.frozen k
      have l4 := hc4.lt
      have HC4 := Lib.hid hc4
      have HR4 := Lib.hid (And.intro (HR3.out.1.below hb3 HR3.out.1.lt) (HR3.out.2.below hb3))
      have HB4 := Lib.hid (HB3.out.trans (hb3.mono HB3.out.size))
      have fin : Cells (w3.setCell ⟨b, k, none⟩ (.int .u64 (farOf (D k)))) b 35 (rowF n D (k + 1)) ∧ (Cells (w3.setCell ⟨b, k, none⟩ (.int .u64 (farOf (D k)))) Z.sb 127 (stCells C n N Z) ∧ SRep (w3.setCell ⟨b, k, none⟩ (.int .u64 (farOf (D k)))) Z.tb Z.cb ds) ∧ Below w.heap.size w (w3.setCell ⟨b, k, none⟩ (.int .u64 (farOf (D k)))) := by
        have hO : Only [b] w3 (w3.setCell ⟨b, k, none⟩ (.int .u64 (farOf (D k)))) := (Only.refl _ w3).setCell (p := ⟨b, k, none⟩) (by simp) _
        refine ⟨?_, ?_, ?_⟩
        · rw [← rowF_set hkn]; exact HC4.out.set k _
        · exact ⟨HR4.out.1.kept hO (by simp; omega), HR4.out.2.kept hO (by simp; omega) (by simp; omega)⟩
        · exact HB4.out.trans (hO.below (B := w.heap.size) HB4.out.size (fun q hq => by simp at hq; omega))
      have FIN := Lib.hid fin
      clear z4 ld hdk hb3 hc4 fin HC3 HR3 HB3 HC4 HR4 HB4
      cases hdv : D k with
      | none =>
        rw [hdv] at FIN
        simp only [getVal]
        go_wp2_with fail
        go_roundg (n - (k + 1))
        case measure => rw [HG.out]; omega
        case rel => exact ⟨k + 1, by go_num, by omega, rfl, FIN.out⟩
      | some d =>
        rw [hdv] at FIN
        simp only [getVal]
        go_wp2_with fail
        go_roundg (n - (k + 1))
        case measure => rw [HG.out]; omega
        case rel => exact ⟨k + 1, by go_num, by omega, rfl, FIN.out⟩
    · obtain rfl : k = n := by omega
      go_wp2
      go_returns
      exact ⟨b, rfl, HC3.out, hbw, HB3.out⟩
end Go.Proofs.YtblkkjfpggcgfaaGreatDoor
