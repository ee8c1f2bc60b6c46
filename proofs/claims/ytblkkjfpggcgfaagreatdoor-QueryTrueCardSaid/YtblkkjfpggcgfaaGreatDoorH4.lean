/- Contracts of package heap: check, Key, Top, New. -/
import Derived.Test.YtblkkjfpggcgfaaGreatDoorH3
import Derived.Test.YtblkkjfpggcgfaaGreatDoorH2
namespace Go.Proofs.YtblkkjfpggcgfaaGreatDoor
open Go.ChangeShapes Go.WideShapes Go.ChangeAt Go.RowKit Go.Joins Go.Deep
theorem check_any {hb ab : Nat} {iv : Value} {s : HS} (id : Nat) (w : World) (h : HRep w hb iv ab s) (hid : id < s.2.length) :
    Calls Tryz.prog 96 #[.pointer (some ⟨hb, 0, none⟩), .int .u32 id] w fun e w' => e = .returned .nilIface ∧ w = w' := by
  have h1 : w.cell? ⟨hb, 1, none⟩ = some (.slice (some ⟨ab, 0, none⟩) s.2.length s.2.length) := h.hd.cell rfl
  have hn := h.n
  have hd : decide (s.2.length ≤ id) = false := by simp; omega
  clear h
  go_enter Tryz.func96, Tryz.ntmps96
  go_wp2
  go_returns
  exact ⟨rfl, rfl⟩
def keyVal : Option Int → Value
  | some k => .tuple #[.int .u64 k, .bool true]
  | none => .tuple #[.int .u64 0, .bool false]
set_option maxRecDepth 100000 in
theorem key_any {hb ab : Nat} {iv : Value} {s : HS} (id : Nat) (w : World) (h : HRep w hb iv ab s) (g : Good s) (hid : id < s.2.length) :
    Calls Tryz.prog 100 #[.pointer (some ⟨hb, 0, none⟩), .int .u32 id] w fun e w' => e = .returned (keyVal (keyOf s id)) ∧ Below w.heap.size w w' := by
  obtain ⟨pl, hpl⟩ : ∃ pl, s.2[id]? = some pl := ⟨_, List.getElem?_eq_getElem hid⟩
  have h1 : w.cell? ⟨hb, 1, none⟩ = some (.slice (some ⟨ab, 0, none⟩) s.2.length s.2.length) := h.hd.cell rfl
  have hn := h.n
  have hp := (h.place hid).1
  rw [getD_some hpl] at hp
  cases pl with
  | zero =>
    have e1 : keyOf s id = none := by simp [keyOf, hpl]
    rw [e1]
    clear hpl e1
    go_enter Tryz.func100, Tryz.ntmps100
    go_wp2_with fail
    refine (check_any id _ h hid).mono ?_
    rintro e w1 ⟨rfl, rfl⟩
    clear h
    go_wp2
    go_returns
    exact ⟨rfl, Below.refl _ _⟩
  | succ p =>
    obtain ⟨x, hx, hxd⟩ := g.wf.b id p hpl
    have hpl' := (List.getElem?_eq_some_iff.1 hx).1
    have e1 : keyOf s id = some x.1 := by rw [← hxd]; exact keyOf_at g.wf hx
    rw [e1]
    obtain ⟨ib, cap, rfl, g0, g1, -, -, -, -, -⟩ := h.item hx
    have h0 : w.cell? ⟨hb, 0, none⟩ = some (.slice (some ⟨ib, 0, none⟩) s.1.length cap) := h.hd.cell rfl
    have hm := h.m
    have eq1 : ((p : Int) + 1 == 0) = false := by rw [beq_eq_false_iff_ne]; omega
    have hp' : w.cell? ⟨ab, id, none⟩ = some (.int .i64 ((p : Int) + 1)) := hp
    clear hp
    clear hpl hx hxd e1
    go_enter Tryz.func100, Tryz.ntmps100
    go_wp2_with fail
    refine (check_any id _ h hid).mono ?_
    rintro e w1 ⟨rfl, rfl⟩
    clear h
    go_wp2
    go_quiet (fail)
    go_wp2
    go_returns
    exact ⟨rfl, below_draws _ _ _⟩
theorem top_any {hb ab : Nat} {iv : Value} {s : HS} (w : World) (h : HRep w hb iv ab s) :
    Calls Tryz.prog 54 #[.pointer (some ⟨hb, 0, none⟩)] w fun e w' => e = .returned (match s.1[0]? with | some x => .tuple #[.int .u32 x.2, .int .u64 x.1, .bool true] | none => .tuple #[.int .u32 0, .int .u64 0, .bool false]) ∧ Below w.heap.size w w' := by
  cases hx : s.1[0]? with
  | none =>
    have hl : s.1.length = 0 := by simpa using hx
    obtain ⟨ao, cap, rfl⟩ := own_form' h.its
    have h0 : w.cell? ⟨hb, 0, none⟩ = some (.slice ao s.1.length cap) := h.hd.cell rfl
    rw [hl] at h0
    clear h hx hl
    go_enter Tryz.func54, Tryz.ntmps54
    go_wp2
    go_returns
    exact ⟨rfl, Below.refl _ _⟩
  | some x =>
    have hl := (List.getElem?_eq_some_iff.1 hx).1
    obtain ⟨ib, cap, rfl, g0, g1, -, -, -, -, -⟩ := h.item hx
    have h0 : w.cell? ⟨hb, 0, none⟩ = some (.slice (some ⟨ib, 0, none⟩) s.1.length cap) := h.hd.cell rfl
    have hm := h.m
    have eq1 : ((s.1.length : Int) == 0) = false := by simp; intro e; simp [e] at hl
    rw [Nat.zero_mul] at g0 g1
    rw [Nat.zero_add] at g1
    clear h hx
    go_enter Tryz.func54, Tryz.ntmps54
    go_wp2
    go_quiet (fail)
    go_wp2
    go_returns
    exact ⟨rfl, below_draws _ _ _⟩
theorem Tryz.infoInt : (Tryz.prog.info? 3).map (fun i => (i.zero, i.size, i.bytes)) = some (some (.int .i64 0), 1, 8) := by kernel_rfl
theorem new_any (n : Nat) (hn : n ≤ 65536) (w : World) :
    Calls Tryz.prog 51 #[.int .i64 n] w fun e w' => e = .returned (.tuple #[.pointer (some ⟨w.heap.size + 1, 0, none⟩), .nilIface]) ∧ HRep w' (w.heap.size + 1) (.slice none 0 0) w.heap.size ([], List.replicate n 0) ∧ Below w.heap.size w w' := by
  have hmk := run_make_row' (P := Tryz.prog) 38 3 (.int .i64 0) 8 Tryz.underlying38 Tryz.infoInt rfl .i64 .i64 n (by omega) (by omega)
  go_enter Tryz.func51, Tryz.ntmps51
  go_wp2
  go_returns
  have em : madeCells #[Value.int .i64 0] n = (List.replicate n (Value.int .i64 0)).toArray := by
    rw [← toList_madeCells_one]
  refine ⟨rfl, ⟨?_, World.ownsRow_nil _ _ _ _, ?_, by simp, by simpa using hn, by simp, by simp, by simp [Value.ownBlock], by simp [Value.ownBlock]⟩, by go_grown⟩
  · have := Cells.new (w.alloc (.cells (madeCells #[Value.int .i64 0] n) 3)) 174 [.slice none 0 0, .slice (some ⟨w.heap.size, 0, none⟩) n n]
    simpa using this
  · have := (Cells.new w 3 (List.replicate n (Value.int .i64 0))).alloc (.cells #[.slice none 0 0, .slice (some ⟨w.heap.size, 0, none⟩) n n] 174)
    rw [em]
    simpa using this
end Go.Proofs.YtblkkjfpggcgfaaGreatDoor
/- Contracts of package heap: Set, Push. -/
namespace Go.Proofs.YtblkkjfpggcgfaaGreatDoor
open Go.ChangeShapes Go.WideShapes Go.ChangeAt Go.RowKit Go.Joins Go.Deep
theorem Tryz.infoItem : (Tryz.prog.info? 181).map (fun i => (i.zero, i.size, i.bytes)) = some (some (.agg #[.int .u64 0, .int .u32 0]), 2, 16) := by kernel_rfl
theorem cells_new (w : World) (t : TypeId) (l : List Value) : ∀ j u, l[j]? = some u → (w.alloc (.cells l.toArray t)).cell? ((⟨w.heap.size, 0, none⟩ : Addr).add j) = some u := by
  intro j u hu
  have e : (⟨w.heap.size, 0, none⟩ : Addr).add j = ⟨w.heap.size, j, none⟩ := by unfold Addr.add; split <;> simp_all
  rw [e]
  exact (Cells.new w t l).cell hu
theorem HRep.room {w w1 : World} {hb ab : Nat} {iv : Value} {s : HS} (h : HRep w hb iv ab s) {ao : Option Addr} {cap : Nat} (h0 : 0 < s.2.length) (hlen : s.1.length + 1 ≤ 65536)
    (ho : w1.ownsRow 0 181 2 (.slice ao (s.1.length + 1) cap) (s.1.length + 1) (s.1.flatMap itemCells ++ itemCells (0, 0))) (hw : Only iv.ownBlock.toList w w1)
    (hk : ∀ k, (Value.slice ao (s.1.length + 1) cap).ownBlock = some k → iv.ownBlock = some k ∨ w.heap.size ≤ k) :
    HRep (w1.setCell ⟨hb, 0, none⟩ (.slice ao (s.1.length + 1) cap)) hb (.slice ao (s.1.length + 1) cap) ab (s.1 ++ [(0, 0)], s.2) ∧ (∀ k ∈ hfoot hb (.slice ao (s.1.length + 1) cap) ab, k ∈ hfoot hb iv ab ∨ w.heap.size ≤ k) := by
  have n1 : ∀ k, (Value.slice ao (s.1.length + 1) cap).ownBlock = some k → k ≠ hb ∧ k ≠ ab := by
    intro k hk'
    rcases hk k hk' with h1 | h1
    · exact ⟨fun e => h.ne1 (by rw [h1, e]), fun e => h.ne2 (by rw [h1, e])⟩
    · have := h.hd.lt
      have := h.pl.lt
      exact ⟨by omega, by omega⟩
  have i1 : hb ∉ iv.ownBlock.toList := by simpa using h.ne1
  have i2 : ab ∉ iv.ownBlock.toList := by simpa using h.ne2
  refine ⟨⟨?_, ?_, ?_, ?_, h.n, by simpa using hlen, h.ne, fun e => (n1 _ e).1 rfl, fun e => (n1 _ e).2 rfl⟩, ?_⟩
  · exact (h.hd.kept hw i1).set 0 _
  · have : (s.1 ++ [(0, 0)]).flatMap itemCells = s.1.flatMap itemCells ++ itemCells (0, 0) := by simp
    simp only [List.length_append, List.length_cons, List.length_nil, Nat.zero_add]
    rw [this]
    exact Go.ownsRow_setCell_other ho (fun e => (n1 _ e).1 rfl) _
  · exact (h.pl.kept hw i2).other h.ne.symm _
  · intro x hx
    rcases List.mem_append.1 hx with hx | hx
    · exact h.ids x hx
    · simp only [List.mem_singleton] at hx
      subst hx
      exact h0
  · intro k hk'
    simp only [hfoot, List.mem_cons, Option.mem_toList] at hk' ⊢
    rcases hk' with rfl | rfl | hk'
    · exact .inl (.inl rfl)
    · exact .inl (.inr (.inl rfl))
    · rcases hk k hk' with h1 | h1
      · exact .inl (.inr (.inr h1))
      · exact .inr h1
def HNext (w w' : World) (hb ab : Nat) (iv : Value) (s' : HS) : Prop :=
  ∃ iv', HRep w' hb iv' ab s' ∧ Only (hfoot hb iv ab) w w' ∧ (∀ k ∈ hfoot hb iv' ab, k ∈ hfoot hb iv ab ∨ w.heap.size ≤ k)
theorem setP_mid {s : HS} (g : Good s) (id : Nat) (k : Int) (hid : id < s.2.length) : (upP (putP (roomP s id) (slotP s id) (k, id)) (slotP s id) (k, id)).2.length = s.2.length ∧
    ∀ j, (upP (putP (roomP s id) (slotP s id) (k, id)) (slotP s id) (k, id)).2.getD id 0 = j + 1 → (upP (putP (roomP s id) (slotP s id) (k, id)) (slotP s id) (k, id)).1[j]? = some (k, id) → setP s id k = downP (upP (putP (roomP s id) (slotP s id) (k, id)) (slotP s id) (k, id)) j (k, id) := by
  obtain ⟨-, -, hl2, -, -, -, -⟩ := setP_spec g id k hid
  refine ⟨?_, fun j h1 h2 => ?_⟩
  · rw [← hl2]
    simp only [setP, settleP, downP_length2 _ _ _ _ rfl]
  · simp only [setP, settleP, h1, Nat.add_sub_cancel, itemAt_eq h2]
set_option maxRecDepth 100000 in
set_option maxHeartbeats 1000000 in
theorem set_any {hb ab : Nat} {iv : Value} {s : HS} (id : Nat) (k : Int) (w : World) (h : HRep w hb iv ab s) (g : Good s) (hid : id < s.2.length) :
    Calls Tryz.prog 81 #[.pointer (some ⟨hb, 0, none⟩), .int .u32 id, .int .u64 k] w fun e w' => e = .returned .nilIface ∧ HNext w w' hb ab iv (setP s id k) := by
  obtain ⟨pl, hpl⟩ : ∃ pl, s.2[id]? = some pl := ⟨_, List.getElem?_eq_getElem hid⟩
  have h1 : w.cell? ⟨hb, 1, none⟩ = some (.slice (some ⟨ab, 0, none⟩) s.2.length s.2.length) := h.hd.cell rfl
  have hn := h.n
  have hp := (h.place hid).1
  rw [getD_some hpl] at hp
  obtain ⟨hg2, -, hl2, hsl, -, hl1, j, hj1, hj2⟩ := setP_spec g id k hid
  have hbd := hg2.wf.bound
  rw [hl1, hl2] at hbd
  cases pl with
  | zero =>
    have e1 : roomP s id = (s.1 ++ [((0 : Int), 0)], s.2) := by simp [roomP, hpl]
    have e2 : slotP s id = s.1.length := by simp [slotP, hpl]
    have hmid := setP_mid g id k hid
    rw [e1, e2] at hsl hj1 hj2 hmid
    have J1 := Lib.hid hj1
    have J2 := Lib.hid hj2
    have SL := Lib.hid hsl
    have UL := Lib.hid hmid.1
    have SE := Lib.hid (hmid.2 j hj1 hj2)
    have H := Lib.hid h
    have hm := h.m
    have hb2 : s.1.length + 1 ≤ 65536 := by rw [e1] at hbd; simp at hbd; omega
    obtain ⟨ao, cap, rfl⟩ := own_form' h.its
    have h0 : w.cell? ⟨hb, 0, none⟩ = some (.slice ao s.1.length cap) := h.hd.cell rfl
    have f0 := h.hd.frozen 0
    have l0 := h.hd.lt
    have its := Lib.hid h.its
    clear h hpl hsl e1 e2 hj1 hj2 hl1 hl2 hbd hg2 hmid
    go_enter Tryz.func81, Tryz.ntmps81
    go_wp2_with fail
    refine (check_any id _ H.out hid).mono ?_
    rintro e w1 ⟨rfl, rfl⟩
    go_wp2_with (at_builtin; refine wpList_app _ rfl _ _ 172 rfl 181 (.agg #[.int .u64 0, .int .u32 0]) 2 16 Tryz.underlying172 Tryz.infoItem rfl (by decide) (.slice ao s.1.length cap) s.1.length (s.1.flatMap itemCells) rfl (its.out.alloc _) ⟨w.heap.size, 0, none⟩ 1 1 (itemCells (0, 0)) rfl rfl ?c1 ?c2 ?c3 ?c4 ?_)
    case c1 => exact cells_new w _ _
    case c2 => intro u hu; simp [itemCells] at hu; rcases hu with rfl | rfl <;> rfl
    case c3 => unfold maxLen; omega
    case c4 => omega
    intro ao2 cap2 w2 hown2 ho2 hk2
    have hi1 : hb ∉ (Value.slice ao s.1.length cap).ownBlock.toList := by simpa using H.out.ne1
    have c20 : w2.cell? ⟨hb, 0, none⟩ = some (.slice ao s.1.length cap) := ho2.cell (((H.out.hd).alloc _).cell rfl) hi1
    have f20 : w2.frozen? ⟨hb, 0, none⟩ = false := (((H.out.hd).alloc _).kept ho2 hi1).frozen 0
    have hroom := (H.out.alloc _).room (by omega) hb2 hown2 ho2 (by simpa using hk2)
    have HRM := Lib.hid hroom
    have HO2 := Lib.hid ho2
    clear hown2 ho2 hk2 hi1 hroom
    go_wp2_with fail
    refine (put_any s.1.length (k, id) _ HRM.out.1 SL.out hid).mono ?_
    rintro e w3 ⟨rfl, hr3, ho3⟩
    have HR3 := Lib.hid hr3
    have HO3 := Lib.hid ho3
    clear hr3 ho3
    go_wp2_with fail
    refine (up_any s.1.length (k, id) _ HR3.out (by rw [put1, if_pos rfl, if_pos SL.out])).mono ?_
    rintro e w4 ⟨rfl, hr4, ho4⟩
    have hh4 : w4.cell? ⟨hb, 1, none⟩ = some (.slice (some ⟨ab, 0, none⟩) s.2.length s.2.length) := by
      have := hr4.hd.cell (i := 1) rfl
      rw [UL.out] at this
      exact this
    have hp4 : w4.cell? ⟨ab, id, none⟩ = some (.int .i64 ((j : Int) + 1)) := by
      have := (hr4.place (id := id) (by rw [UL.out]; exact hid)).1
      rw [J1.out] at this
      exact this
    have HR4 := Lib.hid hr4
    have HO4 := Lib.hid ho4
    have hj65 : j < 65536 := by
      have h1 := (List.getElem?_eq_some_iff.1 J2.out).1
      have h2 := hr4.m
      omega
    clear hr4 ho4
    go_wp2_with fail
    refine (down_any j (k, id) _ HR4.out J2.out).mono ?_
    rintro e w5 ⟨rfl, hr5, ho5⟩
    go_wp2
    go_returns
    have o1 : Only (hfoot hb (.slice ao s.1.length cap) ab) w (w2.setCell ⟨hb, 0, none⟩ (.slice ao2 (s.1.length + 1) cap2)) :=
      Only.setCell (Only.trans (Only.alloc (Only.refl _ _) _) HO2.out (fun x hx => .inl (by simp only [hfoot, List.mem_cons]; exact .inr (.inr hx)))) (.inl (by simp [hfoot])) _
    have sub : ∀ x ∈ hfoot hb (.slice ao2 (s.1.length + 1) cap2) ab, x ∈ hfoot hb (.slice ao s.1.length cap) ab ∨ w.heap.size ≤ x := fun x hx => (HRM.out.2 x hx).imp (fun h => h) (fun h => by simp at h; omega)
    exact ⟨rfl, _, by rw [SE.out]; exact hr5, ((o1.trans HO3.out sub).trans HO4.out sub).trans ho5 sub, sub⟩
  | succ p =>
    have e1 : roomP s id = s := by simp [roomP, hpl]
    have e2 : slotP s id = p := by simp [slotP, hpl]
    have hmid := setP_mid g id k hid
    rw [e1, e2] at hsl hj1 hj2 hmid
    have J1 := Lib.hid hj1
    have J2 := Lib.hid hj2
    have SL := Lib.hid hsl
    have UL := Lib.hid hmid.1
    have SE := Lib.hid (hmid.2 j hj1 hj2)
    have H := Lib.hid h
    have hp' : w.cell? ⟨ab, id, none⟩ = some (.int .i64 ((p : Int) + 1)) := hp
    have hp65 : p < 65536 := by have := h.m; omega
    clear h hpl hsl e1 e2 hj1 hj2 hl1 hl2 hbd hg2 hp hmid
    go_enter Tryz.func81, Tryz.ntmps81
    go_wp2_with fail
    refine (check_any id _ H.out hid).mono ?_
    rintro e w1 ⟨rfl, rfl⟩
    go_wp2_with fail
    refine (put_any p (k, id) _ H.out SL.out hid).mono ?_
    rintro e w3 ⟨rfl, hr3, ho3⟩
    have HR3 := Lib.hid hr3
    have HO3 := Lib.hid ho3
    clear hr3 ho3
    go_wp2_with fail
    refine (up_any p (k, id) _ HR3.out (by rw [put1, if_pos rfl, if_pos SL.out])).mono ?_
    rintro e w4 ⟨rfl, hr4, ho4⟩
    have hh4 : w4.cell? ⟨hb, 1, none⟩ = some (.slice (some ⟨ab, 0, none⟩) s.2.length s.2.length) := by
      have := hr4.hd.cell (i := 1) rfl
      rw [UL.out] at this
      exact this
    have hp4 : w4.cell? ⟨ab, id, none⟩ = some (.int .i64 ((j : Int) + 1)) := by
      have := (hr4.place (id := id) (by rw [UL.out]; exact hid)).1
      rw [J1.out] at this
      exact this
    have HR4 := Lib.hid hr4
    have HO4 := Lib.hid ho4
    have hj65 : j < 65536 := by
      have h1 := (List.getElem?_eq_some_iff.1 J2.out).1
      have h2 := hr4.m
      omega
    clear hr4 ho4
    go_wp2_with fail
    refine (down_any j (k, id) _ HR4.out J2.out).mono ?_
    rintro e w5 ⟨rfl, hr5, ho5⟩
    go_wp2
    go_returns
    exact ⟨rfl, iv, by rw [SE.out]; exact hr5, (HO3.out.trans HO4.out (fun _ h => .inl h)).trans ho5 (fun _ h => .inl h), fun _ h => .inl h⟩
end Go.Proofs.YtblkkjfpggcgfaaGreatDoor
/- Contracts of package heap: Push, Remove, Pop. -/
namespace Go.Proofs.YtblkkjfpggcgfaaGreatDoor
open Go.ChangeShapes Go.WideShapes Go.ChangeAt Go.RowKit Go.Joins Go.Deep
theorem HNext.of_below {w w' : World} {hb ab : Nat} {iv : Value} {s : HS} (h : HRep w hb iv ab s) (o : Below w.heap.size w w') : HNext w w' hb ab iv s :=
  ⟨iv, h.below o, Only.of_below o, fun _ h => .inl h⟩
def pushP (s : HS) (id : Nat) (k : Int) : HS :=
  match keyOf s id with
  | some o => if o ≤ k then s else setP s id k
  | none => setP s id k
set_option maxRecDepth 100000 in
theorem push_any {hb ab : Nat} {iv : Value} {s : HS} (id : Nat) (k : Int) (w : World) (h : HRep w hb iv ab s) (g : Good s) (hid : id < s.2.length) :
    Calls Tryz.prog 83 #[.pointer (some ⟨hb, 0, none⟩), .int .u32 id, .int .u64 k] w fun e w' => e = .returned .nilIface ∧ HNext w w' hb ab iv (pushP s id k) := by
  have H := Lib.hid h
  have HG := Lib.hid g
  cases hk : keyOf s id with
  | none =>
    have e1 : pushP s id k = setP s id k := by simp [pushP, hk]
    rw [e1]
    have HK := Lib.hid hk
    clear h g hk e1
    go_enter Tryz.func83, Tryz.ntmps83
    go_wp2_with fail
    refine (key_any id _ H.out HG.out hid).mono ?_
    rw [HK.out]
    rintro e w1 ⟨rfl, hb1⟩
    simp only [keyVal]
    have HB := Lib.hid hb1
    clear hb1
    go_wp2_with fail
    refine (set_any id k _ (H.out.below HB.out) HG.out hid).mono ?_
    rintro e w2 ⟨rfl, iv', hr, ho, hs⟩
    go_wp2
    go_returns
    exact ⟨rfl, iv', hr, (Only.of_below HB.out).trans ho (fun _ h => .inl h), fun x hx => (hs x hx).imp (fun h => h) (fun h => Nat.le_trans HB.out.size h)⟩
  | some o =>
    have HK := Lib.hid hk
    by_cases hle : o ≤ k
    · have e1 : pushP s id k = s := by simp [pushP, hk, hle]
      rw [e1]
      clear h g hk e1
      go_enter Tryz.func83, Tryz.ntmps83
      go_wp2_with fail
      refine (key_any id _ H.out HG.out hid).mono ?_
      rw [HK.out]
      rintro e w1 ⟨rfl, hb1⟩
      simp only [keyVal]
      have HB := Lib.hid hb1
      clear hb1
      go_wp2
      go_returns
      exact ⟨rfl, HNext.of_below H.out HB.out⟩
    · have e1 : pushP s id k = setP s id k := by simp [pushP, hk, hle]
      rw [e1]
      clear h g hk e1
      go_enter Tryz.func83, Tryz.ntmps83
      go_wp2_with fail
      refine (key_any id _ H.out HG.out hid).mono ?_
      rw [HK.out]
      rintro e w1 ⟨rfl, hb1⟩
      simp only [keyVal]
      have HB := Lib.hid hb1
      clear hb1
      go_wp2_with fail
      refine (set_any id k _ (H.out.below HB.out) HG.out hid).mono ?_
      rintro e w2 ⟨rfl, iv', hr, ho, hs⟩
      go_wp2
      go_returns
      exact ⟨rfl, iv', hr, (Only.of_below HB.out).trans ho (fun _ h => .inl h), fun x hx => (hs x hx).imp (fun h => h) (fun h => Nat.le_trans HB.out.size h)⟩
theorem HRep.less {w : World} {hb ab ib cap id m : Nat} {s : HS} (h : HRep w hb (.slice (some ⟨ib, 0, none⟩) (m + 1) cap) ab s) (hm : s.1.length = m + 1) :
    HRep ((w.setCell ⟨hb, 0, none⟩ (.slice (some ⟨ib, 0, none⟩) m cap)).setCell ⟨ab, id, none⟩ (.int .i64 0)) hb (.slice (some ⟨ib, 0, none⟩) m cap) ab (lessP s id) := by
  have hl : (s.1.take (s.1.length - 1)).length = m := by simp; omega
  have hl2 : (lessP s id).1.length = m := hl
  have hl3 : (lessP s id).2.length = s.2.length := by simp [lessP]
  refine ⟨?_, ?_, ?_, ?_, by rw [hl3]; exact h.n, by rw [hl2]; have := h.m; omega, h.ne, h.ne1, h.ne2⟩
  · rw [hl3]
    exact (h.hd.set 0 _).other h.ne _
  · rw [hl2]
    have e : (lessP s id).1.flatMap itemCells = (s.1.flatMap itemCells).take (m * 2) := by
      have := flat_take itemCells_len s.1 m
      rw [← this]
      simp only [lessP, hm, Nat.add_sub_cancel]
    rw [e]
    have o := h.its
    rw [hm] at o
    exact Go.ownsRow_setCell_other (Go.ownsRow_setCell_other (own_take o (by omega)) (fun e => h.ne1 e) _) (fun e => h.ne2 e) _
  · have := (h.pl.other (a := ⟨hb, 0, none⟩) h.ne.symm (.slice (some ⟨ib, 0, none⟩) m cap)).set id (.int .i64 0)
    simpa [lessP, List.map_set] using this
  · intro x hx
    rw [hl3]
    exact h.ids x (List.mem_of_mem_take hx)
set_option maxRecDepth 100000 in
set_option maxHeartbeats 1000000 in
theorem remove_any {hb ab : Nat} {iv : Value} {s : HS} (id i : Nat) (w : World) (h : HRep w hb iv ab s) (g : Good s) (hpl : s.2[id]? = some (i + 1)) :
    Calls Tryz.prog 82 #[.pointer (some ⟨hb, 0, none⟩), .int .u32 id] w fun e w' => e = .returned (.bool true) ∧ HNext w w' hb ab iv (removeP s id) := by
  obtain ⟨y, hy, hyd⟩ := g.wf.b id i hpl
  have hid := (List.getElem?_eq_some_iff.1 hpl).1
  have hil := (List.getElem?_eq_some_iff.1 hy).1
  have hkey : keyOf s id = some y.1 := by rw [← hyd]; exact keyOf_at g.wf hy
  obtain ⟨m, hm⟩ : ∃ m, s.1.length = m + 1 := ⟨s.1.length - 1, by omega⟩
  obtain ⟨x, hx⟩ : ∃ x, s.1[m]? = some x := ⟨_, List.getElem?_eq_getElem (by omega)⟩
  have hxid : x.2 < s.2.length := h.ids x (List.mem_of_getElem? hx)
  obtain ⟨ib, cap, hiv, g0, g1, -, -, ne0, ne1, l1⟩ := h.item hx
  rw [hm] at hiv
  subst hiv
  have h0 : w.cell? ⟨hb, 0, none⟩ = some (.slice (some ⟨ib, 0, none⟩) (m + 1) cap) := h.hd.cell rfl
  have h1 : w.cell? ⟨hb, 1, none⟩ = some (.slice (some ⟨ab, 0, none⟩) s.2.length s.2.length) := h.hd.cell rfl
  have f0 := h.hd.frozen 0
  have l0 := h.hd.lt
  have la := h.pl.lt
  obtain ⟨hp, fp⟩ := h.place hid
  rw [getD_some hpl] at hp
  have hp' : w.cell? ⟨ab, id, none⟩ = some (.int .i64 ((i : Int) + 1)) := hp
  have hm65 : m + 1 ≤ 65536 := by have := h.m; omega
  have hn := h.n
  have nha := h.ne
  have nah : ab ≠ hb := fun e => nha e.symm
  have hcap : m + 1 ≤ cap := by
    rcases h.its.2 with ⟨e, -⟩ | ⟨g', cap', cur, e, -, -, hc, -⟩
    · cases e
    · simp only [Value.slice.injEq, Option.some.injEq, Addr.mk.injEq, and_true] at e
      obtain ⟨-, -, rfl⟩ := e
      omega
  obtain ⟨-, -, -, -, -, hrest⟩ := removeP_spec g id i hpl
  have HREST := Lib.hid hrest
  have HK := Lib.hid hkey
  have HM := Lib.hid hm
  have HX := Lib.hid hx
  have HG := Lib.hid g
  have H := Lib.hid h
  have HPL := Lib.hid hpl
  have hle : m ≤ cap := by omega
  clear hp hrest hkey hx g h hpl hy hyd
  by_cases him : i < m
  · obtain ⟨x', hx', -, j, hj1, hj2⟩ := HREST.out (by rw [HM.out]; exact him)
    have hxx : x' = x := by
      rw [HM.out, Nat.add_sub_cancel, HX.out] at hx'
      simpa using hx'.symm
    subst hxx
    have e1 : removeP s id = downP (upP (putP (lessP s id) i x') i x') j x' := by
      simp only [removeP, getD_some HPL.out, Nat.add_sub_cancel, HM.out, if_pos him, settleP, itemAt_eq HX.out, hj1, itemAt_eq hj2]
    have RE := Lib.hid e1
    have J1 := Lib.hid hj1
    have J2 := Lib.hid hj2
    clear hx' hj1 hj2 e1 hm
    go_enter Tryz.func82, Tryz.ntmps82
    go_wp2_with fail
    refine (key_any id _ H.out HG.out hid).mono ?_
    rw [HK.out]
    rintro e w1 ⟨rfl, hb1⟩
    simp only [keyVal]
    have c0 := ck hb1 h0
    have c1 := ck hb1 h1
    have c2 := ck hb1 hp'
    have c3 := ck hb1 g0
    have c4 := ck hb1 g1
    have HR1 := Lib.hid (H.out.below hb1)
    have HB1 := Lib.hid hb1
    have q0 := HR1.out.hd.frozen 0
    have q1 := HR1.out.pl.frozen id
    have q2 := HR1.out.hd.lt
    have q3 := HR1.out.pl.lt
    have q4 : ib < w1.heap.size := HR1.out.lt ib (by simp [hfoot, Value.ownBlock])
    clear hb1
    go_wp2_with fail
    go_region
    go_wp2_with fail
    have hll : (lessP s id).1.length = m := by simp [lessP, HM.out]
    have hll2 : (lessP s id).2.length = s.2.length := by simp [lessP]
    have nbx : w1.heap.size ∉ hfoot hb (.slice (some ⟨ib, 0, none⟩) m cap) ab := by
      intro hmem
      have := HR1.out.lt w1.heap.size hmem
      omega
    refine (put_any i x' _ (((HR1.out.less (id := id) HM.out).alloc _).drew) (by rw [hll]; exact him) (by rw [hll2]; exact hxid)).mono ?_
    rintro e w3 ⟨rfl, hr3, ho3⟩
    have bx3 : Cells w3 w1.heap.size 181 (itemCells x') := by
      refine Cells.kept ?_ ho3 nbx
      have hs : ((w1.setCell ⟨hb, 0, none⟩ (.slice (some ⟨ib, 0, none⟩) m cap)).setCell ⟨ab, id, none⟩ (.int .i64 0)).heap.size = w1.heap.size := by simp
      have := Cells.new ((w1.setCell ⟨hb, 0, none⟩ (.slice (some ⟨ib, 0, none⟩) m cap)).setCell ⟨ab, id, none⟩ (.int .i64 0)) 181 (itemCells x')
      rw [hs] at this
      exact this.drew
    have HR3 := Lib.hid hr3
    have HO3 := Lib.hid ho3
    have BX3 := Lib.hid bx3
    have LL := Lib.hid hll
    have LL2 := Lib.hid hll2
    have NBX := Lib.hid nbx
    clear hr3 ho3 bx3 hll hll2 nbx
    go_wp2_with fail
    refine (up_any i x' _ HR3.out (by rw [put1, if_pos rfl, LL.out, if_pos him])).mono ?_
    rintro e w4 ⟨rfl, hr4, ho4⟩
    have UL := Lib.hid (show (upP (putP (lessP s id) i x') i x').2.length = s.2.length by rw [upP_length2 _ _ _ _ rfl, putP_length2, LL2.out])
    have hh4 : w4.cell? ⟨hb, 1, none⟩ = some (.slice (some ⟨ab, 0, none⟩) s.2.length s.2.length) := by
      have := hr4.hd.cell (i := 1) rfl
      rw [UL.out] at this
      exact this
    have hp4 : w4.cell? ⟨ab, x'.2, none⟩ = some (.int .i64 ((j : Int) + 1)) := by
      have := (hr4.place (id := x'.2) (by rw [UL.out]; exact hxid)).1
      rw [J1.out] at this
      exact this
    have hbx4 : w4.cell? ⟨w1.heap.size, 1, none⟩ = some (.int .u32 x'.2) := (BX3.out.kept ho4 NBX.out).cell rfl
    have HR4 := Lib.hid hr4
    have HO4 := Lib.hid ho4
    have hj65 : j < 65536 := by
      have h1 := (List.getElem?_eq_some_iff.1 J2.out).1
      have h2 := hr4.m
      omega
    clear hr4 ho4
    go_wp2_with fail
    go_still_tail 10, (by kernel_rfl)
    go_wp2_with fail
    refine (down_any j x' _ (HR4.out.drew) J2.out).mono ?_
    rintro e w5 ⟨rfl, hr5, ho5⟩
    go_wp2
    go_returns
    have sub : ∀ k ∈ hfoot hb (.slice (some ⟨ib, 0, none⟩) m cap) ab, k ∈ hfoot hb (.slice (some ⟨ib, 0, none⟩) (m + 1) cap) ab ∨ w.heap.size ≤ k := fun _ h => .inl h
    have o1 : Only (hfoot hb (.slice (some ⟨ib, 0, none⟩) (m + 1) cap) ab) w w3 := by
      refine Only.trans (Only.drew (Only.alloc (Only.setCell (Only.setCell (Only.of_below HB1.out) (.inl ?_) _) (.inl ?_) _) _)) HO3.out sub <;> simp [hfoot]
    exact ⟨rfl, _, by rw [RE.out]; exact hr5, ((o1.trans HO4.out sub).drew).trans ho5 sub, sub⟩
  · have e1 : removeP s id = lessP s id := by
      simp only [removeP, getD_some HPL.out, Nat.add_sub_cancel, HM.out, if_neg him]
    have RE := Lib.hid e1
    have hge : m ≤ i := by omega
    have hge2 : i ≤ m := by omega
    clear e1 hm
    go_enter Tryz.func82, Tryz.ntmps82
    go_wp2_with fail
    refine (key_any id _ H.out HG.out hid).mono ?_
    rw [HK.out]
    rintro e w1 ⟨rfl, hb1⟩
    simp only [keyVal]
    have c0 := ck hb1 h0
    have c1 := ck hb1 h1
    have c2 := ck hb1 hp'
    have c3 := ck hb1 g0
    have c4 := ck hb1 g1
    have HR1 := Lib.hid (H.out.below hb1)
    have HB1 := Lib.hid hb1
    have q0 := HR1.out.hd.frozen 0
    have q1 := HR1.out.pl.frozen id
    have q2 := HR1.out.hd.lt
    have q3 := HR1.out.pl.lt
    have q4 : ib < w1.heap.size := HR1.out.lt ib (by simp [hfoot, Value.ownBlock])
    clear hb1
    go_wp2_with fail
    go_region
    go_wp2
    go_returns
    refine ⟨rfl, .slice (some ⟨ib, 0, none⟩) m cap, ?_, ?_, fun _ h => .inl h⟩
    · rw [RE.out]
      exact ((HR1.out.less (id := id) HM.out).alloc _).drew
    · refine Only.drew (Only.alloc (Only.setCell (Only.setCell (Only.of_below HB1.out) (.inl ?_) _) (.inl ?_) _) _) <;> simp [hfoot]
theorem topOf {s : HS} {x : Item} (g : Good s) (hx : s.1[0]? = some x) : s.2[x.2]? = some (0 + 1) := g.wf.a 0 x hx
def popP (s : HS) : HS := match s.1[0]? with | some x => removeP s x.2 | none => s
def topVal : Option Item → Value
  | some x => .tuple #[.int .u32 x.2, .int .u64 x.1, .bool true]
  | none => .tuple #[.int .u32 0, .int .u64 0, .bool false]
set_option maxRecDepth 100000 in
theorem pop_any {hb ab : Nat} {iv : Value} {s : HS} (w : World) (h : HRep w hb iv ab s) (g : Good s) :
    Calls Tryz.prog 55 #[.pointer (some ⟨hb, 0, none⟩)] w fun e w' => e = .returned (topVal s.1[0]?) ∧ HNext w w' hb ab iv (popP s) := by
  have H := Lib.hid h
  have HG := Lib.hid g
  cases hx : s.1[0]? with
  | none =>
    have e1 : popP s = s := by simp [popP, hx]
    rw [e1]
    have HX := Lib.hid hx
    clear h g hx e1
    go_enter Tryz.func55, Tryz.ntmps55
    go_wp2_with fail
    refine (top_any _ H.out).mono ?_
    rw [HX.out]
    rintro e w1 ⟨rfl, hb1⟩
    have HB := Lib.hid hb1
    clear hb1
    go_wp2
    go_ret3
    exact ⟨rfl, HNext.of_below H.out HB.out⟩
  | some x =>
    have e1 : popP s = removeP s x.2 := by simp [popP, hx]
    rw [e1]
    have HX := Lib.hid hx
    clear h g hx e1
    go_enter Tryz.func55, Tryz.ntmps55
    go_wp2_with fail
    refine (top_any _ H.out).mono ?_
    rw [HX.out]
    rintro e w1 ⟨rfl, hb1⟩
    have HB := Lib.hid hb1
    clear hb1
    go_wp2_with fail
    refine (remove_any x.2 0 _ (H.out.below HB.out) HG.out (topOf HG.out HX.out)).mono ?_
    rintro e w2 ⟨rfl, iv', hr, ho, hs⟩
    go_wp2
    go_ret3
    exact ⟨rfl, iv', hr, (Only.of_below HB.out).trans ho (fun _ h => .inl h), fun x hx => (hs x hx).imp (fun h => h) (fun h => Nat.le_trans HB.out.size h)⟩
end Go.Proofs.YtblkkjfpggcgfaaGreatDoor
