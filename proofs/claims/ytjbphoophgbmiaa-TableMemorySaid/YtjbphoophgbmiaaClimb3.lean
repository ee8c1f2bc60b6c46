/- The contracts of climb's stalled and climb. -/
import Derived.Test.YtjbphoophgbmiaaClimb1
namespace Go.Proofs.Ytjbphoophgbmiaa
open Go.ChangeShapes Go.WideShapes Go.ChangeAt Go.RowKit Go.Joins Go.Deep

def SomeBool (w : World) (e : Ending) (w' : World) : Prop := ∃ b : Bool, e = .returned (.bool b) ∧ Below w.heap.size w w'

set_option maxRecDepth 100000 in
theorem stalled_any (v : SideD) (A : SA) (sb cb r : Nat) (d : Int) (ds : List (Option Int)) (w : World) (see : SSee w A v) (ok : SideOk v) (hr : r < v.n) (hds : SRep w sb cb ds) (hdl : ds.length = v.n) :
    Calls Try.prog 73 #[.agg #[.int .i64 v.n, .slice A.a1 v.first.length A.c1, .slice A.a2 v.links.length A.c2, .slice A.a3 v.bfirst.length A.c3, .slice A.a4 v.back.length A.c4], .pointer (some ⟨sb, 0, none⟩), .int .i64 r, .int .u64 d] w (SomeBool w) := by
  have hn := ok.n
  have hfl := ok.bwd.len
  obtain ⟨lo, hlo⟩ : ∃ lo, v.bfirst[r]? = some lo := ⟨_, List.getElem?_eq_getElem (by omega)⟩
  obtain ⟨hi, hhi⟩ : ∃ hi, v.bfirst[r + 1]? = some hi := ⟨_, List.getElem?_eq_getElem (by omega)⟩
  have hlh : lo ≤ hi := by
    have := ok.bwd.mono r hr
    rw [getD_some hlo, getD_some hhi] at this
    exact this
  have hhl : hi ≤ v.back.length := by
    have := ok.bwd.last (r + 1) (by omega)
    rw [getD_some hhi] at this
    exact this
  have hseg : seg v.bfirst v.back r = (v.back.take hi).drop lo := by unfold seg; rw [getD_some hlo, getD_some hhi]
  have hhc : hi ≤ A.c4 := Nat.le_trans hhl see.back.hcap
  have hhi32 : hi < 4294967296 := see.b3 hi (List.mem_of_getElem? hhi)
  obtain ⟨b1, o1, ea1, cc1⟩ := see.bfirst.cell r lo hlo
  obtain ⟨b1', o1', ea1', cc2⟩ := see.bfirst.cell (r + 1) hi hhi
  rw [ea1] at ea1'
  simp only [Option.some.injEq, Addr.mk.injEq, and_true] at ea1'
  obtain ⟨rfl, rfl⟩ := ea1'
  have cl := cc1 0 _ rfl
  have ch := cc2 0 _ rfl
  rw [Nat.mul_one, Nat.add_zero] at cl ch
  have lb1 := block_lt cl
  have hil : r < v.bfirst.length := by omega
  have hil1 : r + 1 < v.bfirst.length := by omega
  have hsl := run_sub (P := Try.prog) 23 60 4 Try.underlying23 Try.sizeLink A.a4 v.back.length A.c4 lo hi .u32 .u32 hlh hhc
  have hLlen : ((v.back.take hi).drop lo).length = hi - lo := by simp; omega
  have hlinks : ∀ l ∈ (v.back.take hi).drop lo, l.to < v.n := fun l hl => (ok.bwd.up r hr l (by rw [hseg]; exact hl)).2.1
  have hSUB : ∀ W, Below w.heap.size w W → See W (slBase A.a4 lo A.c4 4) (A.c4 - lo) linkCells 4 ((v.back.take hi).drop lo) := fun W hW => (see.back.below hW).sub lo hi hhl
  have LL := Lib.hid hLlen
  have HLK := Lib.hid hlinks
  have HSUB := Lib.hid hSUB
  have HDS := Lib.hid hds
  have HDL := Lib.hid hdl
  rw [ea1]
  clear see ok hfl hlo hhi hseg cc1 cc2 hLlen hlinks hSUB hds hdl hhl ea1
  generalize (v.back.take hi).drop lo = L at *
  go_enter Try.func73, Try.ntmps73
  go_wp2_with fail
  go_quiet (fail)
  go_wp2_with fail
  go_loopg [28] (hi - lo) (fun g vj wr => ∃ j : Nat, vj = .int .i64 j ∧ j ≤ hi - lo ∧ g = hi - lo - j ∧ Below w.heap.size w wr)
  case atStart => exact ⟨0, rfl, Nat.zero_le _, rfl, below_drewN ((Below.refl _ _).alloc (Nat.le_refl _) _) _⟩
  case round =>
    obtain ⟨j, rfl, hj, hgj, hbl⟩ := hrel
    have HBL := Lib.hid hbl
    have HGJ := Lib.hid hgj
    clear hbl hgj
    by_cases hjl : j < hi - lo
    · obtain ⟨l, hl⟩ : ∃ l, L[j]? = some l := ⟨_, List.getElem?_eq_getElem (by rw [LL.out]; exact hjl)⟩
      have hlt := HLK.out l (List.mem_of_getElem? hl)
      obtain ⟨b2, o2, ea2, cc2⟩ := (HSUB.out wr HBL.out).cell j l hl
      have e0 := cc2 0 _ rfl
      have e1 := cc2 1 _ rfl
      have e2 := cc2 2 _ rfl
      have e3 := cc2 3 _ rfl
      rw [Nat.add_zero] at e0
      have lb2 := block_lt e0
      have hto : ds[l.to]? = some (ds.getD l.to none) := by
        have : l.to < ds.length := by rw [HDL.out]; exact hlt
        simp [List.getD_eq_getElem?_getD, List.getElem?_eq_getElem this]
      have EA := Lib.hid ea2
      have HB0 := HBL.out.size
      clear hl cc2 ea2
      rw [EA.out]
      generalize hxd : ds.getD l.to none = x at *
      have HTO := Lib.hid hto
      clear hto hxd
      cases x with
      | none =>
        go_wp2_with fail
        refine (stampGet_any l.to none _ ((HDS.out.below HBL.out).alloc _) HTO.out).mono ?_
        rintro e6 w6 ⟨rfl, hb6⟩
        simp only [getVal]
        have hB6 : Below w.heap.size w w6 := HBL.out.trans (((Below.refl wr.heap.size wr).alloc (Nat.le_refl _) _).trans (hb6.mono (by simp)) |>.mono HB0)
        have HB6 := Lib.hid hB6
        clear hb6 hB6
        go_wp2_with fail
        rw [← EA.out]
        go_roundg (hi - lo - (j + 1))
        case measure => rw [HGJ.out]; omega
        case rel => exact ⟨j + 1, by go_num, by omega, rfl, HB6.out⟩
      | some e =>
        go_wp2_with fail
        refine (stampGet_any l.to (some e) _ ((HDS.out.below HBL.out).alloc _) HTO.out).mono ?_
        rintro e6 w6 ⟨rfl, hb6⟩
        simp only [getVal]
        have hB6 : Below w.heap.size w w6 := HBL.out.trans (((Below.refl wr.heap.size wr).alloc (Nat.le_refl _) _).trans (hb6.mono (by simp)) |>.mono HB0)
        have q1 : w6.cell? ⟨wr.heap.size, 1, none⟩ = some (.int .u64 l.wt) := ((Cells.new wr 60 (linkCells l)).below hb6 (by simp)).cell rfl
        have HB6 := Lib.hid hB6
        clear hb6 hB6
        by_cases hc : IntKind.u64.wrap (e + l.wt) < d
        · have hc2 : decide (IntKind.u64.wrap (e + l.wt) < d) = true := by simpa using hc
          go_wp2
          go_returns
          exact ⟨true, rfl, HB6.out⟩
        · have hc2 : decide (IntKind.u64.wrap (e + l.wt) < d) = false := by simpa using hc
          go_wp2_with fail
          rw [← EA.out]
          go_roundg (hi - lo - (j + 1))
          case measure => rw [HGJ.out]; omega
          case rel => exact ⟨j + 1, by go_num, by omega, rfl, HB6.out⟩
    · obtain rfl : j = hi - lo := by omega
      go_wp2
      go_returns
      exact ⟨false, rfl, HBL.out⟩
end Go.Proofs.Ytjbphoophgbmiaa

/- The contract of climb's climb. -/
namespace Go.Proofs.Ytjbphoophgbmiaa
open Go.ChangeShapes Go.WideShapes Go.ChangeAt Go.RowKit Go.Joins Go.Deep

/-- An error's number, as an error. -/
def errV (n : Int) : Value := .iface 74 (.int .i64 n)

structure SeenD where
  rank : Nat
  dist : Int
  st : Bool
def seenCells (x : SeenD) : List Value := [.int .i64 x.rank, .int .u64 x.dist, .bool x.st]
theorem seenCells_len (x : SeenD) : (seenCells x).length = 3 := rfl
theorem Try.infoSeen : (Try.prog.info? 106).map (fun i => (i.zero, i.size, i.bytes)) = some (some (.agg #[.int .i64 0, .int .u64 0, .bool false]), 3, 24) := by kernel_rfl

/-- What a search upwards has seen: the ranks that D gives a distance, rising, and what that is. -/
def seenOf (n : Nat) (D : Nat → Option Int) : List (Nat × Int) := (List.range n).filterMap fun r => (D r).map fun d => (r, d)
def ClimbPost (n : Nat) (first : List Nat) (links : List LinkD) (s : Nat) (w : World) (e : Ending) (w' : World) : Prop :=
  ∃ (ao : Option Addr) (cap : Nat) (L : List SeenD) (D : Nat → Option Int), e = .returned (.tuple #[.slice ao L.length cap, .nilIface]) ∧ w'.ownsRow 0 106 3 (.slice ao L.length cap) L.length (L.flatMap seenCells) ∧ (∀ k, (Value.slice ao L.length cap).ownBlock = some k → w.heap.size ≤ k) ∧
    IsD n first links s D ∧ L.map (fun x => (x.rank, x.dist)) = seenOf n D ∧ Below w.heap.size w w'

theorem seenOf_allTo (ds : List (Option Int)) (k : Nat) : seenOf k (fun r => ds.getD r none) = (allTo ds k).map fun r => (r, (ds.getD r none).getD 0) := by
  unfold seenOf allTo
  induction k with
  | zero => rfl
  | succ k ih =>
    rw [List.range_succ, List.filterMap_append, List.filter_append, List.map_append, ih]
    congr 1
    cases h : ds.getD k none with
    | none =>
      rw [List.filter_cons_of_neg (p := fun i => (ds.getD i none).isSome) (by simp only [h]; simp)]
      simp only [List.filterMap_cons, List.filterMap_nil, h, Option.map_none, List.filter_nil, List.map_nil]
    | some d =>
      rw [List.filter_cons_of_pos (p := fun i => (ds.getD i none).isSome) (by simp only [h]; simp)]
      simp only [List.filterMap_cons, List.filterMap_nil, h, Option.map_some, List.filter_nil, List.map_cons, List.map_nil, Option.getD_some]

theorem mem_allTo {ds : List (Option Int)} {k r : Nat} (h : r ∈ allTo ds k) : r < k ∧ ∃ d, ds.getD r none = some d := by
  simp only [allTo, List.mem_filter, List.mem_range] at h
  exact ⟨h.1, Option.isSome_iff_exists.1 h.2⟩

set_option maxRecDepth 100000 in
theorem climb_out (v : SideD) (A : SA) (s : Int) (w : World) (hs : s < 0 ∨ (v.n : Int) ≤ s) :
    Calls Try.prog 61 #[.agg #[.int .i64 v.n, .slice A.a1 v.first.length A.c1, .slice A.a2 v.links.length A.c2, .slice A.a3 v.bfirst.length A.c3, .slice A.a4 v.back.length A.c4], .int .i64 s] w fun e w' => e = .returned (.tuple #[.slice none 0 0, errV 7]) ∧ Below w.heap.size w w' := by
  by_cases h0 : s < 0
  · have hd : decide (s < 0) = true := by simpa using h0
    go_enter Try.func61, Try.ntmps61
    go_wp2
    go_returns
    exact ⟨rfl, by go_grown⟩
  · have hd : decide (s < 0) = false := by simpa using h0
    have h1 : (v.n : Int) ≤ s := by omega
    go_enter Try.func61, Try.ntmps61
    go_wp2
    go_returns
    exact ⟨rfl, by go_grown⟩

set_option maxRecDepth 100000 in
set_option maxHeartbeats 1000000 in
theorem climb_any (v : SideD) (A : SA) (s : Nat) (w : World) (see : SSee w A v) (ok : SideOk v) (hs : s < v.n) :
    Calls Try.prog 61 #[.agg #[.int .i64 v.n, .slice A.a1 v.first.length A.c1, .slice A.a2 v.links.length A.c2, .slice A.a3 v.bfirst.length A.c3, .slice A.a4 v.back.length A.c4], .int .i64 s] w (ClimbPost v.n v.first v.links s w) := by
  have hn := ok.n
  have hd : decide (v.n ≤ s) = false := by simp; omega
  have SEE := Lib.hid see
  have OK := Lib.hid ok
  clear see ok
  go_enter Try.func61, Try.ntmps61
  go_wp2_with fail
  refine (search_any v s A _ (SEE.out.below ((Below.refl _ _).alloc (Nat.le_refl _) _)) OK.out hs).mono ?_
  rintro e w1 ⟨sb, cb, ds, rfl, hS1, hdl, hD, hb1, hsb, hcb⟩
  have bx1 := (Cells.new w 126 (sideCells A v)).below hb1 (by simp)
  have S1 := Lib.hid hS1
  have DL := Lib.hid hdl
  have HD := Lib.hid hD
  have B1 := Lib.hid hb1
  have X1 := Lib.hid bx1
  clear hS1 hdl hD hb1 bx1
  go_wp2_with fail
  refine (stampAll_any _ S1.out).mono ?_
  rintro e w2 ⟨⟨ao, cap, rfl, hown2, hnew2⟩, hb2⟩
  rw [DL.out] at hown2 hnew2
  have hsee2 := See.of_own (f := fun (n : Nat) => [Value.int .i64 (n : Int)]) (l := allTo ds v.n) (fun _ => rfl) (by
    have e : intCells (allTo ds v.n) = (allTo ds v.n).flatMap fun (n : Nat) => [Value.int .i64 (n : Int)] := by
      simp only [intCells]
      induction allTo ds v.n with
      | nil => rfl
      | cons a l ih => simp [ih]
    rw [e] at hown2
    exact hown2) (by decide)
  rw [DL.out]
  have hml : (allTo ds v.n).length ≤ v.n := allTo_le ds v.n
  have hb02 : Below w.heap.size w w2 := (((Below.refl w.heap.size w).alloc (Nat.le_refl _) _).trans (B1.out.mono (by simp))).trans (hb2.mono (by have := B1.out.size; simp at this; omega))
  have X2 := Lib.hid (X1.out.below hb2 X1.out.lt)
  have S2 := Lib.hid (S1.out.below hb2)
  have SEE2 := Lib.hid hsee2.1
  have BB2 := Lib.hid hb02
  clear hown2 hnew2 hsee2 hb2 hb02
  go_wp2_with fail
  go_loopg [8, 34] (allTo ds v.n).length (fun g vl vi wr => ∃ (k : Nat) (ao2 : Option Addr) (cap2 : Nat) (L : List SeenD), vi = .int .i64 k ∧ k ≤ (allTo ds v.n).length ∧ g = (allTo ds v.n).length - k ∧ vl = .slice ao2 L.length cap2 ∧ L.length = k ∧
    wr.ownsRow 0 106 3 (.slice ao2 L.length cap2) L.length (L.flatMap seenCells) ∧ (∀ b, (Value.slice ao2 L.length cap2).ownBlock = some b → w2.heap.size ≤ b) ∧ Below w2.heap.size w2 wr ∧
    L.map (fun x => (x.rank, x.dist)) = ((allTo ds v.n).take k).map fun r => (r, (ds.getD r none).getD 0))
  case atStart => exact ⟨0, none, 0, [], rfl, Nat.zero_le _, rfl, rfl, rfl, World.ownsRow_nil _ _ _ _, by simp [Value.ownBlock], Below.refl _ _, rfl⟩
  case round =>
    obtain ⟨k, ao2, cap2, L, rfl, hk, hg, rfl, hLk, hown, hnew, hbl, hmap⟩ := hrel
    have HGK := Lib.hid hg
    have HLK := Lib.hid hLk
    have HOWN := Lib.hid hown
    have HNEW := Lib.hid hnew
    have HBL := Lib.hid hbl
    have HMAP := Lib.hid hmap
    have hz2 := hbl.size
    clear hg hLk hown hnew hbl hmap
    by_cases hlt : k < (allTo ds v.n).length
    · obtain ⟨r, hr⟩ : ∃ r, (allTo ds v.n)[k]? = some r := ⟨_, List.getElem?_eq_getElem hlt⟩
      obtain ⟨hrn, d, hd⟩ := mem_allTo (List.mem_of_getElem? hr)
      have hdr : ds[r]? = some (some d) := by
        have : r < ds.length := by rw [DL.out]; exact hrn
        rw [List.getD_eq_getElem?_getD, List.getElem?_eq_getElem this] at hd
        rw [List.getElem?_eq_getElem this]
        simpa using hd
      obtain ⟨b2, o2, ea2, cc2⟩ := (SEE2.out.below HBL.out).cell k r hr
      have cr := cc2 0 _ rfl
      rw [Nat.mul_one, Nat.add_zero] at cr
      have EA := Lib.hid ea2
      have HR := Lib.hid hr
      have HD0 := Lib.hid hd
      have HDR := Lib.hid hdr
      clear hr hd hdr cc2 ea2
      rw [EA.out]
      go_wp2_with fail
      refine (stampGet_any r (some d) _ (S2.out.below HBL.out) HDR.out).mono ?_
      rintro e3 w3 ⟨rfl, hb3⟩
      simp only [getVal]
      have bx3 := (X2.out.below HBL.out X2.out.lt).below hb3 (by have := X2.out.lt; omega)
      have c0 : w3.cell? ⟨w.heap.size, 0, none⟩ = some (.int .i64 v.n) := bx3.cell rfl
      have c1 : w3.cell? ⟨w.heap.size, 1, none⟩ = some (.slice A.a1 v.first.length A.c1) := bx3.cell rfl
      have c2 : w3.cell? ⟨w.heap.size, 2, none⟩ = some (.slice A.a2 v.links.length A.c2) := bx3.cell rfl
      have c3 : w3.cell? ⟨w.heap.size, 3, none⟩ = some (.slice A.a3 v.bfirst.length A.c3) := bx3.cell rfl
      have c4 : w3.cell? ⟨w.heap.size, 4, none⟩ = some (.slice A.a4 v.back.length A.c4) := bx3.cell rfl
      have hb23 : Below w2.heap.size w2 w3 := HBL.out.trans (hb3.mono hz2)
      have hsz3 := bx3.lt
      have B23 := Lib.hid hb23
      have O3 := Lib.hid (own_kept (bs := []) HOWN.out (Only.of_below hb3) (fun _ _ => by simp))
      clear hb3 bx3 hb23
      go_wp2_with fail
      refine (stalled_any v A sb cb r d ds _ (SEE.out.below (bt BB2.out B23.out)) OK.out hrn (S2.out.below B23.out) DL.out).mono ?_
      rintro e4 w4 ⟨b, rfl, hb4⟩
      have hb24 : Below w2.heap.size w2 w4 := B23.out.trans (hb4.mono B23.out.size)
      have B24 := Lib.hid hb24
      have hz4 := hb24.size
      have O4 := Lib.hid (own_kept (bs := []) O3.out (Only.of_below hb4) (fun _ _ => by simp))
      have hL65 : L.length ≤ 65536 := by rw [HLK.out]; omega
      clear hb4 hb24
      go_wp2_with (at_builtin; refine wpList_app _ rfl _ _ 102 rfl 106 (.agg #[.int .i64 0, .int .u64 0, .bool false]) 3 24 Try.underlying102 Try.infoSeen rfl (by decide) (.slice ao2 L.length cap2) L.length (L.flatMap seenCells) rfl ?own ⟨w4.heap.size, 0, none⟩ 1 1 (seenCells ⟨r, d, b⟩) rfl rfl ?c1 ?c2 ?c3 ?c4 ?_)
      case own => exact O4.out.alloc _
      case c1 => exact cells_new w4 _ _
      case c2 => intro u hu; simp [seenCells] at hu; rcases hu with rfl | rfl | rfl <;> rfl
      case c3 => unfold maxLen; omega
      case c4 => omega
      intro ao5 cap5 w5 hown5 ho5 hk5
      have hnew5 : ∀ x, (Value.slice ao5 (L.length + 1) cap5).ownBlock = some x → w2.heap.size ≤ x := by
        intro x hx
        rcases hk5 x hx with h1 | h1
        · exact HNEW.out x h1
        · omega
      have hbl5 : Below w2.heap.size w2 w5 := (B24.out.alloc hz4 _).trans (ho5.below (by simp; omega) (fun x hx => HNEW.out x (by simpa using hx)))
      have hf5 : L.flatMap seenCells ++ seenCells (⟨r, d, b⟩ : SeenD) = (L ++ [(⟨r, d, b⟩ : SeenD)]).flatMap seenCells := by rw [List.flatMap_append]; simp
      rw [hf5] at hown5
      have O5 := Lib.hid hown5
      have N5 := Lib.hid hnew5
      have B5 := Lib.hid hbl5
      clear hown5 ho5 hk5 hnew5 hbl5 hf5
      go_wp2_with fail
      rw [← EA.out]
      go_roundg ((allTo ds v.n).length - (k + 1))
      case measure => rw [HGK.out]; omega
      case rel =>
        have hlen : (L ++ [(⟨r, d, b⟩ : SeenD)]).length = L.length + 1 := by simp
        refine ⟨k + 1, ao5, cap5, L ++ [(⟨r, d, b⟩ : SeenD)], by go_num, by omega, rfl, by rw [hlen], by rw [hlen, HLK.out], by rw [hlen]; exact O5.out, by rw [hlen]; exact N5.out, B5.out, ?_⟩
        rw [List.map_append, HMAP.out, List.take_add_one, HR.out]
        simp only [Option.toList_some, List.map_append, List.map_cons, List.map_nil]
        rw [HD0.out]
        rfl
    · obtain rfl : k = (allTo ds v.n).length := by omega
      go_wp2
      go_returns
      refine ⟨ao2, cap2, L, fun r => ds.getD r none, rfl, HOWN.out, ?_, HD.out, ?_, BB2.out.trans (HBL.out.mono BB2.out.size)⟩
      · intro x hx
        have := HNEW.out x hx
        have := BB2.out.size
        omega
      · rw [HMAP.out, List.take_length, seenOf_allTo]
end Go.Proofs.Ytjbphoophgbmiaa
