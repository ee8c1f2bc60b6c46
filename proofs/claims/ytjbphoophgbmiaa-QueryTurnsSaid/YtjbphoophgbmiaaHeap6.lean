/- Contracts of package heap: Push, Remove, Pop. -/
import Derived.Test.YtjbphoophgbmiaaHeap5
namespace Go.Proofs.Ytjbphoophgbmiaa
open Go.ChangeShapes Go.WideShapes Go.ChangeAt Go.RowKit Go.Joins Go.Deep

theorem HNext.of_below {w w' : World} {hb ab : Nat} {iv : Value} {s : HS} (h : HRep w hb iv ab s) (o : Below w.heap.size w w') : HNext w w' hb ab iv s :=
  ⟨iv, h.below o, Only.of_below o, fun _ h => .inl h⟩

def pushP (s : HS) (id : Nat) (k : Int) : HS :=
  match keyOf s id with
  | some o => if o ≤ k then s else setP s id k
  | none => setP s id k

set_option maxRecDepth 100000 in
theorem push_any {hb ab : Nat} {iv : Value} {s : HS} (id : Nat) (k : Int) (w : World) (h : HRep w hb iv ab s) (g : Good s) (hid : id < s.2.length) :
    Calls Try.prog 77 #[.pointer (some ⟨hb, 0, none⟩), .int .u32 id, .int .u64 k] w fun e w' => e = .returned .nilIface ∧ HNext w w' hb ab iv (pushP s id k) := by
  have H := Lib.hid h
  have HG := Lib.hid g
  cases hk : keyOf s id with
  | none =>
    have e1 : pushP s id k = setP s id k := by simp [pushP, hk]
    rw [e1]
    have HK := Lib.hid hk
    clear h g hk e1
    go_enter Try.func77, Try.ntmps77
    go_wp2_with fail
    refine (key_any id _ H.out HG.out hid).mono ?_
    rw [HK.out]
    rintro e w1 ⟨rfl, hb1⟩
    simp only [keyVal]
    have HB := Lib.hid hb1
    clear hb1
    go_wp2_with fail
    refine (set_any id k _ (H.out.below HB.out) HG.out hid).mono ?_
    rintro e w2 ⟨rfl, iv', hr, ho, hs⟩
    go_wp2
    go_returns
    exact ⟨rfl, iv', hr, (Only.of_below HB.out).trans ho (fun _ h => .inl h), fun x hx => (hs x hx).imp (fun h => h) (fun h => Nat.le_trans HB.out.size h)⟩
  | some o =>
    have HK := Lib.hid hk
    by_cases hle : o ≤ k
    · have e1 : pushP s id k = s := by simp [pushP, hk, hle]
      rw [e1]
      clear h g hk e1
      go_enter Try.func77, Try.ntmps77
      go_wp2_with fail
      refine (key_any id _ H.out HG.out hid).mono ?_
      rw [HK.out]
      rintro e w1 ⟨rfl, hb1⟩
      simp only [keyVal]
      have HB := Lib.hid hb1
      clear hb1
      go_wp2
      go_returns
      exact ⟨rfl, HNext.of_below H.out HB.out⟩
    · have e1 : pushP s id k = setP s id k := by simp [pushP, hk, hle]
      rw [e1]
      clear h g hk e1
      go_enter Try.func77, Try.ntmps77
      go_wp2_with fail
      refine (key_any id _ H.out HG.out hid).mono ?_
      rw [HK.out]
      rintro e w1 ⟨rfl, hb1⟩
      simp only [keyVal]
      have HB := Lib.hid hb1
      clear hb1
      go_wp2_with fail
      refine (set_any id k _ (H.out.below HB.out) HG.out hid).mono ?_
      rintro e w2 ⟨rfl, iv', hr, ho, hs⟩
      go_wp2
      go_returns
      exact ⟨rfl, iv', hr, (Only.of_below HB.out).trans ho (fun _ h => .inl h), fun x hx => (hs x hx).imp (fun h => h) (fun h => Nat.le_trans HB.out.size h)⟩

/-- The items but the last, and a place struck. -/
theorem HRep.less {w : World} {hb ab ib cap id m : Nat} {s : HS} (h : HRep w hb (.slice (some ⟨ib, 0, none⟩) (m + 1) cap) ab s) (hm : s.1.length = m + 1) :
    HRep ((w.setCell ⟨hb, 0, none⟩ (.slice (some ⟨ib, 0, none⟩) m cap)).setCell ⟨ab, id, none⟩ (.int .i64 0)) hb (.slice (some ⟨ib, 0, none⟩) m cap) ab (lessP s id) := by
  have hl : (s.1.take (s.1.length - 1)).length = m := by simp; omega
  have hl2 : (lessP s id).1.length = m := hl
  have hl3 : (lessP s id).2.length = s.2.length := by simp [lessP]
  refine ⟨?_, ?_, ?_, ?_, by rw [hl3]; exact h.n, by rw [hl2]; have := h.m; omega, h.ne, h.ne1, h.ne2⟩
  · rw [hl3]
    exact (h.hd.set 0 _).other h.ne _
  · rw [hl2]
    have e : (lessP s id).1.flatMap itemCells = (s.1.flatMap itemCells).take (m * 2) := by
      have := flat_take itemCells_len s.1 m
      rw [← this]
      simp only [lessP, hm, Nat.add_sub_cancel]
    rw [e]
    have o := h.its
    rw [hm] at o
    exact Go.ownsRow_setCell_other (Go.ownsRow_setCell_other (own_take o (by omega)) (fun e => h.ne1 e) _) (fun e => h.ne2 e) _
  · have := (h.pl.other (a := ⟨hb, 0, none⟩) h.ne.symm (.slice (some ⟨ib, 0, none⟩) m cap)).set id (.int .i64 0)
    simpa [lessP, List.map_set] using this
  · intro x hx
    rw [hl3]
    exact h.ids x (List.mem_of_mem_take hx)

set_option maxRecDepth 100000 in
set_option maxHeartbeats 1000000 in
theorem remove_any {hb ab : Nat} {iv : Value} {s : HS} (id i : Nat) (w : World) (h : HRep w hb iv ab s) (g : Good s) (hpl : s.2[id]? = some (i + 1)) :
    Calls Try.prog 84 #[.pointer (some ⟨hb, 0, none⟩), .int .u32 id] w fun e w' => e = .returned (.bool true) ∧ HNext w w' hb ab iv (removeP s id) := by
  obtain ⟨y, hy, hyd⟩ := g.wf.b id i hpl
  have hid := (List.getElem?_eq_some_iff.1 hpl).1
  have hil := (List.getElem?_eq_some_iff.1 hy).1
  have hkey : keyOf s id = some y.1 := by rw [← hyd]; exact keyOf_at g.wf hy
  obtain ⟨m, hm⟩ : ∃ m, s.1.length = m + 1 := ⟨s.1.length - 1, by omega⟩
  obtain ⟨x, hx⟩ : ∃ x, s.1[m]? = some x := ⟨_, List.getElem?_eq_getElem (by omega)⟩
  have hxid : x.2 < s.2.length := h.ids x (List.mem_of_getElem? hx)
  obtain ⟨ib, cap, hiv, g0, g1, -, -, ne0, ne1, l1⟩ := h.item hx
  rw [hm] at hiv
  subst hiv
  have h0 : w.cell? ⟨hb, 0, none⟩ = some (.slice (some ⟨ib, 0, none⟩) (m + 1) cap) := h.hd.cell rfl
  have h1 : w.cell? ⟨hb, 1, none⟩ = some (.slice (some ⟨ab, 0, none⟩) s.2.length s.2.length) := h.hd.cell rfl
  have f0 := h.hd.frozen 0
  have l0 := h.hd.lt
  have la := h.pl.lt
  obtain ⟨hp, fp⟩ := h.place hid
  rw [getD_some hpl] at hp
  have hp' : w.cell? ⟨ab, id, none⟩ = some (.int .i64 ((i : Int) + 1)) := hp
  have hm65 : m + 1 ≤ 65536 := by have := h.m; omega
  have hn := h.n
  have nha := h.ne
  have nah : ab ≠ hb := fun e => nha e.symm
  have hcap : m + 1 ≤ cap := by
    rcases h.its.2 with ⟨e, -⟩ | ⟨g', cap', cur, e, -, -, hc, -⟩
    · cases e
    · simp only [Value.slice.injEq, Option.some.injEq, Addr.mk.injEq, and_true] at e
      obtain ⟨-, -, rfl⟩ := e
      omega
  obtain ⟨-, -, -, -, -, hrest⟩ := removeP_spec g id i hpl
  have HREST := Lib.hid hrest
  have HK := Lib.hid hkey
  have HM := Lib.hid hm
  have HX := Lib.hid hx
  have HG := Lib.hid g
  have H := Lib.hid h
  have HPL := Lib.hid hpl
  have hle : m ≤ cap := by omega
  clear hp hrest hkey hx g h hpl hy hyd
  by_cases him : i < m
  · obtain ⟨x', hx', -, j, hj1, hj2⟩ := HREST.out (by rw [HM.out]; exact him)
    have hxx : x' = x := by
      rw [HM.out, Nat.add_sub_cancel, HX.out] at hx'
      simpa using hx'.symm
    subst hxx
    have e1 : removeP s id = downP (upP (putP (lessP s id) i x') i x') j x' := by
      simp only [removeP, getD_some HPL.out, Nat.add_sub_cancel, HM.out, if_pos him, settleP, itemAt_eq HX.out, hj1, itemAt_eq hj2]
    have RE := Lib.hid e1
    have J1 := Lib.hid hj1
    have J2 := Lib.hid hj2
    clear hx' hj1 hj2 e1 hm
    go_enter Try.func84, Try.ntmps84
    go_wp2_with fail
    refine (key_any id _ H.out HG.out hid).mono ?_
    rw [HK.out]
    rintro e w1 ⟨rfl, hb1⟩
    simp only [keyVal]
    have c0 := ck hb1 h0
    have c1 := ck hb1 h1
    have c2 := ck hb1 hp'
    have c3 := ck hb1 g0
    have c4 := ck hb1 g1
    have HR1 := Lib.hid (H.out.below hb1)
    have HB1 := Lib.hid hb1
    have q0 := HR1.out.hd.frozen 0
    have q1 := HR1.out.pl.frozen id
    have q2 := HR1.out.hd.lt
    have q3 := HR1.out.pl.lt
    have q4 : ib < w1.heap.size := HR1.out.lt ib (by simp [hfoot, Value.ownBlock])
    clear hb1
    go_wp2_with fail
    go_region
    go_wp2_with fail
    have hll : (lessP s id).1.length = m := by simp [lessP, HM.out]
    have hll2 : (lessP s id).2.length = s.2.length := by simp [lessP]
    have nbx : w1.heap.size ∉ hfoot hb (.slice (some ⟨ib, 0, none⟩) m cap) ab := by
      intro hmem
      have := HR1.out.lt w1.heap.size hmem
      omega
    refine (put_any i x' _ (((HR1.out.less (id := id) HM.out).alloc _).drew) (by rw [hll]; exact him) (by rw [hll2]; exact hxid)).mono ?_
    rintro e w3 ⟨rfl, hr3, ho3⟩
    have bx3 : Cells w3 w1.heap.size 177 (itemCells x') := by
      refine Cells.kept ?_ ho3 nbx
      have hs : ((w1.setCell ⟨hb, 0, none⟩ (.slice (some ⟨ib, 0, none⟩) m cap)).setCell ⟨ab, id, none⟩ (.int .i64 0)).heap.size = w1.heap.size := by simp
      have := Cells.new ((w1.setCell ⟨hb, 0, none⟩ (.slice (some ⟨ib, 0, none⟩) m cap)).setCell ⟨ab, id, none⟩ (.int .i64 0)) 177 (itemCells x')
      rw [hs] at this
      exact this.drew
    have HR3 := Lib.hid hr3
    have HO3 := Lib.hid ho3
    have BX3 := Lib.hid bx3
    have LL := Lib.hid hll
    have LL2 := Lib.hid hll2
    have NBX := Lib.hid nbx
    clear hr3 ho3 bx3 hll hll2 nbx
    go_wp2_with fail
    refine (up_any i x' _ HR3.out (by rw [put1, if_pos rfl, LL.out, if_pos him])).mono ?_
    rintro e w4 ⟨rfl, hr4, ho4⟩
    have UL := Lib.hid (show (upP (putP (lessP s id) i x') i x').2.length = s.2.length by rw [upP_length2 _ _ _ _ rfl, putP_length2, LL2.out])
    have hh4 : w4.cell? ⟨hb, 1, none⟩ = some (.slice (some ⟨ab, 0, none⟩) s.2.length s.2.length) := by
      have := hr4.hd.cell (i := 1) rfl
      rw [UL.out] at this
      exact this
    have hp4 : w4.cell? ⟨ab, x'.2, none⟩ = some (.int .i64 ((j : Int) + 1)) := by
      have := (hr4.place (id := x'.2) (by rw [UL.out]; exact hxid)).1
      rw [J1.out] at this
      exact this
    have hbx4 : w4.cell? ⟨w1.heap.size, 1, none⟩ = some (.int .u32 x'.2) := (BX3.out.kept ho4 NBX.out).cell rfl
    have HR4 := Lib.hid hr4
    have HO4 := Lib.hid ho4
    have hj65 : j < 65536 := by
      have h1 := (List.getElem?_eq_some_iff.1 J2.out).1
      have h2 := hr4.m
      omega
    clear hr4 ho4
    go_wp2_with fail
    go_still_tail 10, (by kernel_rfl)
    go_wp2_with fail
    refine (down_any j x' _ (HR4.out.drew) J2.out).mono ?_
    rintro e w5 ⟨rfl, hr5, ho5⟩
    go_wp2
    go_returns
    have sub : ∀ k ∈ hfoot hb (.slice (some ⟨ib, 0, none⟩) m cap) ab, k ∈ hfoot hb (.slice (some ⟨ib, 0, none⟩) (m + 1) cap) ab ∨ w.heap.size ≤ k := fun _ h => .inl h
    have o1 : Only (hfoot hb (.slice (some ⟨ib, 0, none⟩) (m + 1) cap) ab) w w3 := by
      refine Only.trans (Only.drew (Only.alloc (Only.setCell (Only.setCell (Only.of_below HB1.out) (.inl ?_) _) (.inl ?_) _) _)) HO3.out sub <;> simp [hfoot]
    exact ⟨rfl, _, by rw [RE.out]; exact hr5, ((o1.trans HO4.out sub).drew).trans ho5 sub, sub⟩
  · have e1 : removeP s id = lessP s id := by
      simp only [removeP, getD_some HPL.out, Nat.add_sub_cancel, HM.out, if_neg him]
    have RE := Lib.hid e1
    have hge : m ≤ i := by omega
    have hge2 : i ≤ m := by omega
    clear e1 hm
    go_enter Try.func84, Try.ntmps84
    go_wp2_with fail
    refine (key_any id _ H.out HG.out hid).mono ?_
    rw [HK.out]
    rintro e w1 ⟨rfl, hb1⟩
    simp only [keyVal]
    have c0 := ck hb1 h0
    have c1 := ck hb1 h1
    have c2 := ck hb1 hp'
    have c3 := ck hb1 g0
    have c4 := ck hb1 g1
    have HR1 := Lib.hid (H.out.below hb1)
    have HB1 := Lib.hid hb1
    have q0 := HR1.out.hd.frozen 0
    have q1 := HR1.out.pl.frozen id
    have q2 := HR1.out.hd.lt
    have q3 := HR1.out.pl.lt
    have q4 : ib < w1.heap.size := HR1.out.lt ib (by simp [hfoot, Value.ownBlock])
    clear hb1
    go_wp2_with fail
    go_region
    go_wp2
    go_returns
    refine ⟨rfl, .slice (some ⟨ib, 0, none⟩) m cap, ?_, ?_, fun _ h => .inl h⟩
    · rw [RE.out]
      exact ((HR1.out.less (id := id) HM.out).alloc _).drew
    · refine Only.drew (Only.alloc (Only.setCell (Only.setCell (Only.of_below HB1.out) (.inl ?_) _) (.inl ?_) _) _) <;> simp [hfoot]

theorem topOf {s : HS} {x : Item} (g : Good s) (hx : s.1[0]? = some x) : s.2[x.2]? = some (0 + 1) := g.wf.a 0 x hx
def popP (s : HS) : HS := match s.1[0]? with | some x => removeP s x.2 | none => s
/-- What Top and Pop answer. -/
def topVal : Option Item → Value
  | some x => .tuple #[.int .u32 x.2, .int .u64 x.1, .bool true]
  | none => .tuple #[.int .u32 0, .int .u64 0, .bool false]

set_option maxRecDepth 100000 in
theorem pop_any {hb ab : Nat} {iv : Value} {s : HS} (w : World) (h : HRep w hb iv ab s) (g : Good s) :
    Calls Try.prog 78 #[.pointer (some ⟨hb, 0, none⟩)] w fun e w' => e = .returned (topVal s.1[0]?) ∧ HNext w w' hb ab iv (popP s) := by
  have H := Lib.hid h
  have HG := Lib.hid g
  cases hx : s.1[0]? with
  | none =>
    have e1 : popP s = s := by simp [popP, hx]
    rw [e1]
    have HX := Lib.hid hx
    clear h g hx e1
    go_enter Try.func78, Try.ntmps78
    go_wp2_with fail
    refine (top_any _ H.out).mono ?_
    rw [HX.out]
    rintro e w1 ⟨rfl, hb1⟩
    have HB := Lib.hid hb1
    clear hb1
    go_wp2
    go_ret3
    exact ⟨rfl, HNext.of_below H.out HB.out⟩
  | some x =>
    have e1 : popP s = removeP s x.2 := by simp [popP, hx]
    rw [e1]
    have HX := Lib.hid hx
    clear h g hx e1
    go_enter Try.func78, Try.ntmps78
    go_wp2_with fail
    refine (top_any _ H.out).mono ?_
    rw [HX.out]
    rintro e w1 ⟨rfl, hb1⟩
    have HB := Lib.hid hb1
    clear hb1
    go_wp2_with fail
    refine (remove_any x.2 0 _ (H.out.below HB.out) HG.out (topOf HG.out HX.out)).mono ?_
    rintro e w2 ⟨rfl, iv', hr, ho, hs⟩
    go_wp2
    go_ret3
    exact ⟨rfl, iv', hr, (Only.of_below HB.out).trans ho (fun _ h => .inl h), fun x hx => (hs x hx).imp (fun h => h) (fun h => Nat.le_trans HB.out.size h)⟩
end Go.Proofs.Ytjbphoophgbmiaa
