/- Contracts of package heap: Set, Push. -/
import Derived.Test.YtjbphoophgbmiaaHeap4
namespace Go.Proofs.Ytjbphoophgbmiaa
open Go.ChangeShapes Go.WideShapes Go.ChangeAt Go.RowKit Go.Joins Go.Deep

theorem Try.infoItem : (Try.prog.info? 177).map (fun i => (i.zero, i.size, i.bytes)) = some (some (.agg #[.int .u64 0, .int .u32 0]), 2, 16) := by kernel_rfl

/-- The cells of a new block. -/
theorem cells_new (w : World) (t : TypeId) (l : List Value) : ∀ j u, l[j]? = some u → (w.alloc (.cells l.toArray t)).cell? ((⟨w.heap.size, 0, none⟩ : Addr).add j) = some u := by
  intro j u hu
  have e : (⟨w.heap.size, 0, none⟩ : Addr).add j = ⟨w.heap.size, j, none⟩ := by unfold Addr.add; split <;> simp_all
  rw [e]
  exact (Cells.new w t l).cell hu

/-- One item more, at the end. -/
theorem HRep.room {w w1 : World} {hb ab : Nat} {iv : Value} {s : HS} (h : HRep w hb iv ab s) {ao : Option Addr} {cap : Nat} (h0 : 0 < s.2.length) (hlen : s.1.length + 1 ≤ 65536)
    (ho : w1.ownsRow 0 177 2 (.slice ao (s.1.length + 1) cap) (s.1.length + 1) (s.1.flatMap itemCells ++ itemCells (0, 0))) (hw : Only iv.ownBlock.toList w w1)
    (hk : ∀ k, (Value.slice ao (s.1.length + 1) cap).ownBlock = some k → iv.ownBlock = some k ∨ w.heap.size ≤ k) :
    HRep (w1.setCell ⟨hb, 0, none⟩ (.slice ao (s.1.length + 1) cap)) hb (.slice ao (s.1.length + 1) cap) ab (s.1 ++ [(0, 0)], s.2) ∧ (∀ k ∈ hfoot hb (.slice ao (s.1.length + 1) cap) ab, k ∈ hfoot hb iv ab ∨ w.heap.size ≤ k) := by
  have n1 : ∀ k, (Value.slice ao (s.1.length + 1) cap).ownBlock = some k → k ≠ hb ∧ k ≠ ab := by
    intro k hk'
    rcases hk k hk' with h1 | h1
    · exact ⟨fun e => h.ne1 (by rw [h1, e]), fun e => h.ne2 (by rw [h1, e])⟩
    · have := h.hd.lt
      have := h.pl.lt
      exact ⟨by omega, by omega⟩
  have i1 : hb ∉ iv.ownBlock.toList := by simpa using h.ne1
  have i2 : ab ∉ iv.ownBlock.toList := by simpa using h.ne2
  refine ⟨⟨?_, ?_, ?_, ?_, h.n, by simpa using hlen, h.ne, fun e => (n1 _ e).1 rfl, fun e => (n1 _ e).2 rfl⟩, ?_⟩
  · exact (h.hd.kept hw i1).set 0 _
  · have : (s.1 ++ [(0, 0)]).flatMap itemCells = s.1.flatMap itemCells ++ itemCells (0, 0) := by simp
    simp only [List.length_append, List.length_cons, List.length_nil, Nat.zero_add]
    rw [this]
    exact Go.ownsRow_setCell_other ho (fun e => (n1 _ e).1 rfl) _
  · exact (h.pl.kept hw i2).other h.ne.symm _
  · intro x hx
    rcases List.mem_append.1 hx with hx | hx
    · exact h.ids x hx
    · simp only [List.mem_singleton] at hx
      subst hx
      exact h0
  · intro k hk'
    simp only [hfoot, List.mem_cons, Option.mem_toList] at hk' ⊢
    rcases hk' with rfl | rfl | hk'
    · exact .inl (.inl rfl)
    · exact .inl (.inr (.inl rfl))
    · rcases hk k hk' with h1 | h1
      · exact .inl (.inr (.inr h1))
      · exact .inr h1

/-- The same heap, its items laid anew perhaps. -/
def HNext (w w' : World) (hb ab : Nat) (iv : Value) (s' : HS) : Prop :=
  ∃ iv', HRep w' hb iv' ab s' ∧ Only (hfoot hb iv ab) w w' ∧ (∀ k ∈ hfoot hb iv' ab, k ∈ hfoot hb iv ab ∨ w.heap.size ≤ k)

theorem setP_mid {s : HS} (g : Good s) (id : Nat) (k : Int) (hid : id < s.2.length) : (upP (putP (roomP s id) (slotP s id) (k, id)) (slotP s id) (k, id)).2.length = s.2.length ∧
    ∀ j, (upP (putP (roomP s id) (slotP s id) (k, id)) (slotP s id) (k, id)).2.getD id 0 = j + 1 → (upP (putP (roomP s id) (slotP s id) (k, id)) (slotP s id) (k, id)).1[j]? = some (k, id) → setP s id k = downP (upP (putP (roomP s id) (slotP s id) (k, id)) (slotP s id) (k, id)) j (k, id) := by
  obtain ⟨-, -, hl2, -, -, -, -⟩ := setP_spec g id k hid
  refine ⟨?_, fun j h1 h2 => ?_⟩
  · rw [← hl2]
    simp only [setP, settleP, downP_length2 _ _ _ _ rfl]
  · simp only [setP, settleP, h1, Nat.add_sub_cancel, itemAt_eq h2]

set_option maxRecDepth 100000 in
set_option maxHeartbeats 1000000 in
theorem set_any {hb ab : Nat} {iv : Value} {s : HS} (id : Nat) (k : Int) (w : World) (h : HRep w hb iv ab s) (g : Good s) (hid : id < s.2.length) :
    Calls Try.prog 82 #[.pointer (some ⟨hb, 0, none⟩), .int .u32 id, .int .u64 k] w fun e w' => e = .returned .nilIface ∧ HNext w w' hb ab iv (setP s id k) := by
  obtain ⟨pl, hpl⟩ : ∃ pl, s.2[id]? = some pl := ⟨_, List.getElem?_eq_getElem hid⟩
  have h1 : w.cell? ⟨hb, 1, none⟩ = some (.slice (some ⟨ab, 0, none⟩) s.2.length s.2.length) := h.hd.cell rfl
  have hn := h.n
  have hp := (h.place hid).1
  rw [getD_some hpl] at hp
  obtain ⟨hg2, -, hl2, hsl, -, hl1, j, hj1, hj2⟩ := setP_spec g id k hid
  have hbd := hg2.wf.bound
  rw [hl1, hl2] at hbd
  cases pl with
  | zero =>
    have e1 : roomP s id = (s.1 ++ [((0 : Int), 0)], s.2) := by simp [roomP, hpl]
    have e2 : slotP s id = s.1.length := by simp [slotP, hpl]
    have hmid := setP_mid g id k hid
    rw [e1, e2] at hsl hj1 hj2 hmid
    have J1 := Lib.hid hj1
    have J2 := Lib.hid hj2
    have SL := Lib.hid hsl
    have UL := Lib.hid hmid.1
    have SE := Lib.hid (hmid.2 j hj1 hj2)
    have H := Lib.hid h
    have hm := h.m
    have hb2 : s.1.length + 1 ≤ 65536 := by rw [e1] at hbd; simp at hbd; omega
    obtain ⟨ao, cap, rfl⟩ := own_form' h.its
    have h0 : w.cell? ⟨hb, 0, none⟩ = some (.slice ao s.1.length cap) := h.hd.cell rfl
    have f0 := h.hd.frozen 0
    have l0 := h.hd.lt
    have its := Lib.hid h.its
    clear h hpl hsl e1 e2 hj1 hj2 hl1 hl2 hbd hg2 hmid
    go_enter Try.func82, Try.ntmps82
    go_wp2_with fail
    refine (check_any id _ H.out hid).mono ?_
    rintro e w1 ⟨rfl, rfl⟩
    go_wp2_with (at_builtin; refine wpList_app _ rfl _ _ 170 rfl 177 (.agg #[.int .u64 0, .int .u32 0]) 2 16 Try.underlying170 Try.infoItem rfl (by decide) (.slice ao s.1.length cap) s.1.length (s.1.flatMap itemCells) rfl (its.out.alloc _) ⟨w.heap.size, 0, none⟩ 1 1 (itemCells (0, 0)) rfl rfl ?c1 ?c2 ?c3 ?c4 ?_)
    case c1 => exact cells_new w _ _
    case c2 => intro u hu; simp [itemCells] at hu; rcases hu with rfl | rfl <;> rfl
    case c3 => unfold maxLen; omega
    case c4 => omega
    intro ao2 cap2 w2 hown2 ho2 hk2
    have hi1 : hb ∉ (Value.slice ao s.1.length cap).ownBlock.toList := by simpa using H.out.ne1
    have c20 : w2.cell? ⟨hb, 0, none⟩ = some (.slice ao s.1.length cap) := ho2.cell (((H.out.hd).alloc _).cell rfl) hi1
    have f20 : w2.frozen? ⟨hb, 0, none⟩ = false := (((H.out.hd).alloc _).kept ho2 hi1).frozen 0
    have hroom := (H.out.alloc _).room (by omega) hb2 hown2 ho2 (by simpa using hk2)
    have HRM := Lib.hid hroom
    have HO2 := Lib.hid ho2
    clear hown2 ho2 hk2 hi1 hroom
    go_wp2_with fail
    refine (put_any s.1.length (k, id) _ HRM.out.1 SL.out hid).mono ?_
    rintro e w3 ⟨rfl, hr3, ho3⟩
    have HR3 := Lib.hid hr3
    have HO3 := Lib.hid ho3
    clear hr3 ho3
    go_wp2_with fail
    refine (up_any s.1.length (k, id) _ HR3.out (by rw [put1, if_pos rfl, if_pos SL.out])).mono ?_
    rintro e w4 ⟨rfl, hr4, ho4⟩
    have hh4 : w4.cell? ⟨hb, 1, none⟩ = some (.slice (some ⟨ab, 0, none⟩) s.2.length s.2.length) := by
      have := hr4.hd.cell (i := 1) rfl
      rw [UL.out] at this
      exact this
    have hp4 : w4.cell? ⟨ab, id, none⟩ = some (.int .i64 ((j : Int) + 1)) := by
      have := (hr4.place (id := id) (by rw [UL.out]; exact hid)).1
      rw [J1.out] at this
      exact this
    have HR4 := Lib.hid hr4
    have HO4 := Lib.hid ho4
    have hj65 : j < 65536 := by
      have h1 := (List.getElem?_eq_some_iff.1 J2.out).1
      have h2 := hr4.m
      omega
    clear hr4 ho4
    go_wp2_with fail
    refine (down_any j (k, id) _ HR4.out J2.out).mono ?_
    rintro e w5 ⟨rfl, hr5, ho5⟩
    go_wp2
    go_returns
    have o1 : Only (hfoot hb (.slice ao s.1.length cap) ab) w (w2.setCell ⟨hb, 0, none⟩ (.slice ao2 (s.1.length + 1) cap2)) :=
      Only.setCell (Only.trans (Only.alloc (Only.refl _ _) _) HO2.out (fun x hx => .inl (by simp only [hfoot, List.mem_cons]; exact .inr (.inr hx)))) (.inl (by simp [hfoot])) _
    have sub : ∀ x ∈ hfoot hb (.slice ao2 (s.1.length + 1) cap2) ab, x ∈ hfoot hb (.slice ao s.1.length cap) ab ∨ w.heap.size ≤ x := fun x hx => (HRM.out.2 x hx).imp (fun h => h) (fun h => by simp at h; omega)
    exact ⟨rfl, _, by rw [SE.out]; exact hr5, ((o1.trans HO3.out sub).trans HO4.out sub).trans ho5 sub, sub⟩
  | succ p =>
    have e1 : roomP s id = s := by simp [roomP, hpl]
    have e2 : slotP s id = p := by simp [slotP, hpl]
    have hmid := setP_mid g id k hid
    rw [e1, e2] at hsl hj1 hj2 hmid
    have J1 := Lib.hid hj1
    have J2 := Lib.hid hj2
    have SL := Lib.hid hsl
    have UL := Lib.hid hmid.1
    have SE := Lib.hid (hmid.2 j hj1 hj2)
    have H := Lib.hid h
    have hp' : w.cell? ⟨ab, id, none⟩ = some (.int .i64 ((p : Int) + 1)) := hp
    have hp65 : p < 65536 := by have := h.m; omega
    clear h hpl hsl e1 e2 hj1 hj2 hl1 hl2 hbd hg2 hp hmid
    go_enter Try.func82, Try.ntmps82
    go_wp2_with fail
    refine (check_any id _ H.out hid).mono ?_
    rintro e w1 ⟨rfl, rfl⟩
    go_wp2_with fail
    refine (put_any p (k, id) _ H.out SL.out hid).mono ?_
    rintro e w3 ⟨rfl, hr3, ho3⟩
    have HR3 := Lib.hid hr3
    have HO3 := Lib.hid ho3
    clear hr3 ho3
    go_wp2_with fail
    refine (up_any p (k, id) _ HR3.out (by rw [put1, if_pos rfl, if_pos SL.out])).mono ?_
    rintro e w4 ⟨rfl, hr4, ho4⟩
    have hh4 : w4.cell? ⟨hb, 1, none⟩ = some (.slice (some ⟨ab, 0, none⟩) s.2.length s.2.length) := by
      have := hr4.hd.cell (i := 1) rfl
      rw [UL.out] at this
      exact this
    have hp4 : w4.cell? ⟨ab, id, none⟩ = some (.int .i64 ((j : Int) + 1)) := by
      have := (hr4.place (id := id) (by rw [UL.out]; exact hid)).1
      rw [J1.out] at this
      exact this
    have HR4 := Lib.hid hr4
    have HO4 := Lib.hid ho4
    have hj65 : j < 65536 := by
      have h1 := (List.getElem?_eq_some_iff.1 J2.out).1
      have h2 := hr4.m
      omega
    clear hr4 ho4
    go_wp2_with fail
    refine (down_any j (k, id) _ HR4.out J2.out).mono ?_
    rintro e w5 ⟨rfl, hr5, ho5⟩
    go_wp2
    go_returns
    exact ⟨rfl, iv, by rw [SE.out]; exact hr5, (HO3.out.trans HO4.out (fun _ h => .inl h)).trans ho5 (fun _ h => .inl h), fun _ h => .inl h⟩
end Go.Proofs.Ytjbphoophgbmiaa
