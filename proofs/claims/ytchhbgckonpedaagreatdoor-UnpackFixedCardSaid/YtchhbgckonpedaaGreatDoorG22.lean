/- Deleting a key of a map from whole numbers; the contract of walk's Simple. -/
import Derived.Test.YtchhbgckonpedaaGreatDoorG21
import Derived.Test.YtchhbgckonpedaaGreatDoorG20
namespace Go.Proofs.YtchhbgckonpedaaGreatDoor
open Go.ChangeShapes Go.WideShapes Go.ChangeAt Go.RowKit Go.Joins Go.Deep
open Go.ChangeMaps Go.MapKept
theorem MapI.congr {w : World} {b : Nat} {f g : Nat → Option Value} (m : MapI w b f) (h : ∀ q, f q = g q) : MapI w b g := by
  have e : f = g := funext h
  rw [← e]; exact m
theorem MapI.del {w : World} {b : Nat} {f : Nat → Option Value} {P : Program} {t k E ty : TypeId} (m : MapI w b f) (ht : P.underlying t = some (.map k E)) (hk : P.underlying k = some (.int .i64)) {r : Nat} (hr : r ≤ 9223372036854775807) :
    ∃ w', (Builtin.delete_ #[t, k] ty #[.map (some b), .int .i64 (r : Int)]).run P w = .ok (.tuple #[]) w' ∧ MapI w' b (fun q => if q = r then none else f q) ∧ Only [b] w w' := by
  obtain ⟨es, clock, hb, hkeys, huni, hf⟩ := m.ex
  have K := Maps.int_keyed hk
  have hkey := key_nat hk hr
  unfold natKey at hkey
  have hall : ∀ e ∈ es.toList, ∃ l, Go.keyOf P k e.key = some l := fun e he => by
    obtain ⟨q, hq, e1⟩ := hkeys e he
    exact ⟨_, by rw [e1]; exact key_nat hk hq⟩
  rcases K.find w hkey es.toList hall with ⟨h1, h2⟩ | ⟨j, e0, h1, h2, h3⟩
  · refine ⟨setBlock w b (.map es clock), ?_, ⟨es, clock, heap_setBlock_same hb _, hkeys, huni, fun q u => ?_⟩, only_setBlock hb _⟩
    · simp [Builtin.delete_, run_underlying ht, MapKept.run_getObj_map hb, K.check w _ hkey, h1, MapKept.run_setObj_map _ hb, Result.andThen, setBlock]
    · by_cases e : q = r
      · subst e
        rw [if_pos rfl]
        constructor
        · intro h; cases h
        · rintro ⟨e1, he, e2, -⟩
          exact absurd e2 (h2 e1 he)
      · rw [if_neg e]
        exact hf q u
  · have hjl : j < es.toList.length := (List.getElem?_eq_some_iff.1 h2).1
    have hjs : j < es.size := by simpa using hjl
    have hsub : (es.eraseIdxIfInBounds j).toList = es.toList.eraseIdx j := by
      unfold Array.eraseIdxIfInBounds
      rw [dif_pos hjs]
      simp
    refine ⟨setBlock w b (.map (es.eraseIdxIfInBounds j) clock), ?_, ⟨_, _, heap_setBlock_same hb _, ?_, ?_, fun q u => ?_⟩, only_setBlock hb _⟩
    · simp [Builtin.delete_, run_underlying ht, MapKept.run_getObj_map hb, K.check w _ hkey, h1, MapKept.run_setObj_map _ hb, Result.andThen, setBlock]
    · intro e he
      rw [hsub] at he
      exact hkeys e ((List.eraseIdx_sublist _ _).subset he)
    · intro i l a c hi hl hac
      rw [hsub, List.getElem?_eraseIdx] at hi hl
      split at hi <;> split at hl
      · exact huni i l a c hi hl hac
      · have := huni i (l + 1) a c hi hl hac; omega
      · have := huni (i + 1) l a c hi hl hac; omega
      · have := huni (i + 1) (l + 1) a c hi hl hac; omega
    · rw [hsub]
      by_cases e : q = r
      · subst e
        rw [if_pos rfl]
        constructor
        · intro h; cases h
        · rintro ⟨e1, he, e2, -⟩
          obtain ⟨i, hij, hi⟩ := List.mem_eraseIdx_iff_getElem?.1 he
          exact absurd (huni i j e1 e0 hi h2 (e2.trans h3.symm)) hij
      · rw [if_neg e, hf q u]
        constructor
        · rintro ⟨e1, he, e2, e3⟩
          obtain ⟨i, hi⟩ := List.getElem?_of_mem he
          refine ⟨e1, List.mem_eraseIdx_iff_getElem?.2 ⟨i, fun hij => ?_, hi⟩, e2, e3⟩
          subst hij
          rw [h2] at hi
          simp only [Option.some.injEq] at hi
          subst hi
          exact e (natKey_inj (e2.symm.trans h3))
        · rintro ⟨e1, he, e2, e3⟩
          exact ⟨e1, (List.eraseIdx_sublist _ _).subset he, e2, e3⟩
def placeV (S : List Nat) (q : Nat) : Option Value := if q ∈ S then some (.int .i64 ((S.idxOf q + 1 : Nat) : Int)) else none
theorem placeV_push {S : List Nat} {v : Nat} (hv : v ∉ S) (q : Nat) : (if q = v then some (Value.int .i64 ((S.length + 1 : Nat) : Int)) else placeV S q) = placeV (S ++ [v]) q := by
  unfold placeV
  by_cases e : q = v
  · subst e
    rw [if_pos rfl, if_pos (by simp), List.idxOf_append, if_neg hv]
    simp
  · rw [if_neg e]
    by_cases hq : q ∈ S
    · rw [if_pos hq, if_pos (by simp [hq]), List.idxOf_append, if_pos hq]
    · rw [if_neg hq, if_neg (by simp [hq, e])]
theorem placeV_take {S : List Nat} (hS : S.Nodup) (i : Nat) (q : Nat) : (if q ∈ S ∧ q ∉ (S.drop i).take (S.length - i) then some (Value.int .i64 ((S.idxOf q + 1 : Nat) : Int)) else none) = placeV (S.take i) q := by
  unfold placeV
  rw [List.take_of_length_le (by simp)]
  conv at hS => rw [← List.take_append_drop i S, List.nodup_append]
  obtain ⟨-, -, hd⟩ := hS
  by_cases hq : q ∈ S.take i
  · have h1 : q ∈ S := List.mem_of_mem_take hq
    have h2 : q ∉ S.drop i := fun h => hd q hq q h rfl
    rw [if_pos ⟨h1, h2⟩, if_pos hq]
    conv => lhs; rw [← List.take_append_drop i S]
    rw [List.idxOf_append, if_pos hq]
  · rw [if_neg hq, if_neg]
    rintro ⟨h1, h2⟩
    rw [← List.take_append_drop i S, List.mem_append] at h1
    exact h1.elim hq h2
theorem placeV_step {S : List Nat} {i j x : Nat} (hx : (S.drop i)[j]? = some x) (q : Nat) : (if q = x then none else if q ∈ S ∧ q ∉ (S.drop i).take j then some (Value.int .i64 ((S.idxOf q + 1 : Nat) : Int)) else none) = (if q ∈ S ∧ q ∉ (S.drop i).take (j + 1) then some (Value.int .i64 ((S.idxOf q + 1 : Nat) : Int)) else none) := by
  rw [List.take_add_one, hx, Option.toList_some]
  by_cases e : q = x
  · subst e
    rw [if_pos rfl, if_neg (by simp)]
  · rw [if_neg e]
    by_cases h : q ∈ S ∧ q ∉ (S.drop i).take j
    · rw [if_pos h, if_pos ⟨h.1, by simp only [List.mem_append, List.mem_singleton]; exact fun c => c.elim h.2 e⟩]
    · rw [if_neg h, if_neg (fun c => h ⟨c.1, fun c2 => c.2 (by simp [c2])⟩)]
theorem run_from {P : Program} (t e : TypeId) (sz : Nat) (ht : P.underlying t = some (.slice e)) (hs : ∀ w, (sizeOf e).run P w = .ok sz w) (ao : Option Addr) (n cap lo : Nat) (k : IntKind) (h1 : lo ≤ n) (w : World) :
    (Instr.slice t (.slice ao n cap) (some (.int k (lo : Int))) none none).run P w = .ok (.slice (slBase ao lo cap sz) (n - lo) (cap - lo)) w := by
  have he : P.elem t = e := by simp [Program.elem, ht]
  have h := run_slice_l (P := P) (w := w) t ao n cap (by rw [ht, he]) k (lo : Int) (by omega) (by omega)
  rw [h, he, hs]
  simp [Result.andThen, sliced, slBase]
theorem Tryz.sizeIntS (w : World) : (sizeOf 3).run Tryz.prog w = .ok 1 w := by kernel_rfl
theorem Tryz.zeroIntS (w : World) : (zeroValue 3).run Tryz.prog w = .ok (.int .i64 0) w := by kernel_rfl
structure SimI (w0 wr : World) (b : Nat) (S : List Nat) (v : Value) : Prop where
  n : Nats w0.heap.size wr v S
  m : MapI wr b (placeV S)
  ne : ∀ k, v.ownBlock = some k → k ≠ b
  d : S.Nodup
  b : Below b w0 wr
set_option maxRecDepth 100000 in
set_option maxHeartbeats 4000000 in
theorem simple_any (l : List Nat) (la : Option Addr) (lc : Nat) (w : World) (sl : See w la lc i64Cells 1 l) (hl : l.length ≤ 1048576) (hx : ∀ x ∈ l, x < 4294967296) :
    Calls Tryz.prog 48 #[.slice la l.length lc] w (NatsNew (simpleL [] l) w) := by
  have hm0 : MapI (w.alloc (.map #[] 0)) w.heap.size (fun _ => none) := MapI.made w
  have hb0 : Below w.heap.size w (w.alloc (.map #[] 0)) := (Below.refl _ _).alloc (Nat.le_refl _) _
  have hmm := fun t w => run_makeMap (P := Tryz.prog) t w
  obtain ⟨w0, hw0⟩ : ∃ w0 : World, w.alloc (.map #[] 0) = w0 := ⟨_, rfl⟩
  have hs0 : w0.heap.size = w.heap.size + 1 := by rw [← hw0]; simp
  rw [hw0] at hm0 hb0
  have SL := Lib.hid sl
  have HXX := Lib.hid hx
  have I0 : Hid (SimI w0 w0 w.heap.size [] (.slice none 0 0)) := Lib.hid ⟨Nats.nil _ _, hm0.congr (fun q => by simp [placeV]), by simp [Value.ownBlock], by simp, Below.refl _ _⟩
  have HB := Lib.hid hb0
  have HW := Lib.hid hw0
  have HS0 := Lib.hid hs0
  clear sl hx hm0 hb0 hw0 hs0
  go_enter Tryz.func48, Tryz.ntmps48
  go_wp2_with fail
  clear hmm
  rw [show w.alloc (.map #[] 0) = w0 from HW.out]
  go_loopg [4, 13] l.length (fun g vs vi wr => ∃ (k : Nat) (S : List Nat) (ao : Option Addr) (cap : Nat), vi = .int .i64 k ∧ k ≤ l.length ∧ g = l.length - k ∧ S = simpleL [] (l.take k) ∧ vs = .slice ao S.length cap ∧ SimI w0 wr w.heap.size S (.slice ao S.length cap))
  case atStart => exact ⟨0, [], none, 0, rfl, Nat.zero_le _, rfl, rfl, rfl, I0.out⟩
  case round =>
    obtain ⟨k, S, ao, cap, rfl, hk, hg, hS, rfl, hI⟩ := hrel
    obtain ⟨wp, rfl⟩ : ∃ wp : World, wp = wr := ⟨_, rfl⟩
    have HG := Lib.hid hg
    have HSS := Lib.hid hS
    have I := Lib.hid hI
    have hb1 : Below w.heap.size w wp := HB.out.trans hI.b
    have hsz := hI.b.size
    have HBW := Lib.hid hb1
    have hlb := hI.m.lt
    clear hg hS hI
    by_cases hkl : k < l.length
    · obtain ⟨x, hx⟩ : ∃ x, l[k]? = some x := ⟨_, List.getElem?_eq_getElem hkl⟩
      have hx32 := HXX.out x (List.mem_of_getElem? hx)
      obtain ⟨b, o, ea, cc⟩ := SL.out.cell k x hx
      have e0 := ck hb1 (cc 0 _ rfl)
      rw [Nat.mul_one, Nat.add_zero] at e0
      have lb := block_lt e0
      have hnext : simpleL [] (l.take (k + 1)) = simpleStep S x := by
        rw [List.take_add_one, hx, Option.toList_some, HSS.out]
        unfold simpleL
        rw [List.foldl_append]; rfl
      have hSl : S.length ≤ 1048576 := by
        have h1 := pigeon 4294967296 S I.out.d
        have h2 : S.length ≤ (l.take k).length := by
          have : ∀ (m : List Nat) (s : List Nat), (simpleL s m).length ≤ s.length + m.length := by
            intro m
            induction m with
            | nil => intro s; simp [simpleL]
            | cons a m ih =>
              intro s
              have := ih (simpleStep s a)
              have h3 : (simpleStep s a).length ≤ s.length + 1 := by unfold simpleStep; split <;> simp <;> omega
              show (simpleL (simpleStep s a) m).length ≤ _
              simp only [List.length_cons]
              omega
          have := this (l.take k) []
          rw [← HSS.out] at this
          simpa using this
        simp at h2
        omega
      have hlk := I.out.m.look Tryz.underlying149 Tryz.underlying3 (Tryz.zeroIntS _) (r := x) (by omega)
      have EA := Lib.hid ea
      have HN := Lib.hid hnext
      clear hx ea cc hnext hb1
      rw [EA.out]
      by_cases hxS : x ∈ S
      · obtain ⟨i, hi⟩ : ∃ i, S.idxOf x + 1 = i := ⟨_, rfl⟩
        have hil : i ≤ S.length := by have := List.idxOf_lt_length_of_mem hxS; omega
        have hi1 : 0 < i := by omega
        have hpv : (placeV S x).getD (.int .i64 0) = .int .i64 ((i : Nat) : Int) := by unfold placeV; rw [if_pos hxS, hi]; rfl
        rw [hpv] at hlk
        have hst : simpleStep S x = S.take i := by unfold simpleStep; rw [if_pos hxS, hi]
        obtain ⟨gb, cap2, e, hgB, hgs, hcell⟩ := I.out.n.block (by omega)
        simp only [Value.slice.injEq] at e
        obtain ⟨rfl, -, rfl⟩ := e
        have hne := I.out.ne gb rfl
        have hfrom := run_from (P := Tryz.prog) 28 3 1 Tryz.underlying28 Tryz.sizeIntS (some ⟨gb, 0, none⟩) S.length cap i .i64 hil
        have hicap : i ≤ cap := Nat.le_trans hil I.out.n.cap.1
        have hsub := (I.out.n.see.1).sub i S.length (Nat.le_refl _)
        rw [List.take_length] at hsub
        have SUB := Lib.hid hsub
        have d0 : (((i : Nat) : Int) == 0) = false := by simp; omega
        have HST := Lib.hid hst
        have HIL := Lib.hid hil
        have HI1 := Lib.hid hi1
        have HNE := Lib.hid hne
        clear hpv hst hcell hsub hne hil hi hi1
        go_wp2_with fail
        clear hlk e0
        go_loopg [34] (S.length - i) (fun g vi wr => ∃ j : Nat, vi = .int .i64 (j : Int) ∧ j ≤ S.length - i ∧ g = S.length - i - j ∧ MapI wr w.heap.size (fun q => if q ∈ S ∧ q ∉ (S.drop i).take j then some (.int .i64 ((S.idxOf q + 1 : Nat) : Int)) else none) ∧ Only [w.heap.size] wp wr)
        case atStart => exact ⟨0, rfl, Nat.zero_le _, rfl, I.out.m.congr (fun q => by simp [placeV]), Only.refl _ _⟩
        case round =>
          obtain ⟨j, rfl, hj, hgj, hmj, hoj⟩ := hrel
          have HGJ := Lib.hid hgj
          have HMJ := Lib.hid hmj
          have HOJ := Lib.hid hoj
          clear hgj hmj hoj
          by_cases hjl : j < S.length - i
          · obtain ⟨y, hy⟩ : ∃ y, (S.drop i)[j]? = some y := ⟨_, List.getElem?_eq_getElem (by simp; omega)⟩
            obtain ⟨b2, o2, ea2, cc2⟩ := SUB.out.cell j y hy
            have hb2 : b2 = gb := by
              unfold slBase at ea2
              split at ea2
              · simp only [Option.some.injEq, Addr.mk.injEq] at ea2; exact ea2.1.symm
              · simp only [Option.map_some, Option.some.injEq] at ea2
                have : ((⟨gb, 0, none⟩ : Addr).add (i * 1)).block = b2 := by rw [ea2]
                unfold Addr.add at this
                split at this <;> first | exact this.symm | (simp at this; exact this.symm)
            have y0 := HOJ.out.cell (cc2 0 _ rfl) (by simp; rw [hb2]; exact HNE.out)
            rw [Nat.mul_one, Nat.add_zero] at y0
            have ly := block_lt y0
            have hy32 : y ≤ 9223372036854775807 := by
              have h1 : y ∈ S := List.mem_of_mem_drop (List.mem_of_getElem? hy)
              rw [HSS.out] at h1
              rcases simpleL_mem _ _ h1 with h2 | h2
              · simp at h2
              · have := HXX.out y (List.mem_of_mem_take h2); omega
            obtain ⟨w2, hdel, hm2, ho2⟩ := HMJ.out.del (P := Tryz.prog) (ty := 0) Tryz.underlying149 Tryz.underlying3 hy32
            have EA2 := Lib.hid ea2
            have HM2 := Lib.hid (hm2.congr (fun q => placeV_step hy q))
            have HO2 := Lib.hid (HOJ.out.trans ho2 (fun x hx => .inl hx))
            clear hy ea2 cc2 hm2 ho2 hb2 hy32
            rw [EA2.out]
            go_wp2_with fail
            rw [← EA2.out]
            go_roundg (S.length - i - (j + 1))
            case measure => rw [HGJ.out]; omega
            case rel => exact ⟨j + 1, by go_num, by omega, rfl, HM2.out, HO2.out⟩
          · obtain rfl : j = S.length - i := by omega
            have hIe : SimI w0 wr w.heap.size (S.take i) (.slice (some ⟨gb, 0, none⟩) i cap) := by
              have hn2 := I.out.n.kept HOJ.out (fun q hq => by
                simp only [Value.ownBlock, Option.some.injEq] at hq
                subst hq
                simp only [List.mem_singleton]
                exact HNE.out)
              exact ⟨hn2.take HIL.out, HMJ.out.congr (fun q => placeV_take I.out.d i q), fun q hq => by
                simp only [Value.ownBlock, Option.some.injEq] at hq
                subst hq
                exact HNE.out, I.out.d.sublist (List.take_sublist _ _), I.out.b.trans (HOJ.out.below (B := w.heap.size) (by omega) (by simp))⟩
            have HIE := Lib.hid hIe
            have htl : (S.take i).length = i := by have := HIL.out; simp; omega
            have HTL := Lib.hid htl
            clear hIe HMJ HOJ htl
            go_wp2_with fail
            rw [← EA.out]
            go_roundg (l.length - (k + 1))
            case measure => rw [HG.out]; omega
            case rel => exact ⟨k + 1, S.take i, some ⟨gb, 0, none⟩, cap, by go_num, by omega, rfl, by rw [HN.out, HST.out], by rw [HTL.out], by rw [HTL.out]; exact HIE.out⟩
      · have hpv : (placeV S x).getD (.int .i64 0) = .int .i64 0 := by unfold placeV; rw [if_neg hxS]; rfl
        rw [hpv] at hlk
        have hst : simpleStep S x = S ++ [x] := by unfold simpleStep; rw [if_neg hxS]
        have HST := Lib.hid hst
        have HXS := Lib.hid hxS
        clear hpv hst hxS
        go_wp2_with (at_builtin; refine wpList_app _ rfl _ _ 28 rfl 3 (.int .i64 0) 1 8 Tryz.underlying28 Tryz.infoInt rfl (by decide) (.slice ao S.length cap) S.length (S.flatMap i64Cells) rfl ?own ⟨wp.heap.size, 0, none⟩ 1 1 (i64Cells x) rfl rfl ?c1 ?c2 ?c3 ?c4 ?_)
        case own => exact own_kept (bs := []) I.out.n.own ((Only.refl _ wp).alloc _) (fun q _ => by simp)
        case c1 => exact cells_new wp 3 (i64Cells x)
        case c2 => intro u hu; simp [i64Cells] at hu; subst hu; rfl
        case c3 => unfold maxLen; omega
        case c4 => omega
        intro ao5 cap5 w5 hown5 ho5 hk5
        have hba := (Below.refl wp.heap.size wp).alloc (Nat.le_refl _) (.cells #[.int .i64 x] 3)
        have hn5 := (I.out.n.below hba).app [x] (m := 1) rfl (ao := ao5) (cap := cap5) (w5 := w5) hown5 (by simpa using hk5) (by have := HS0.out; have := hba.size; omega)
        have hne5 : ∀ q, (Value.slice ao5 (S.length + 1) cap5).ownBlock = some q → q ≠ w.heap.size := by
          intro q hq e
          rcases hk5 q hq with h1 | h1
          · exact I.out.ne q h1 e
          · have := HS0.out; omega
        have hm5 := (I.out.m.below hba).only ho5 (fun hq => I.out.ne _ (own_mem hq) rfl)
        have hbw : Below w.heap.size w0 w5 := (I.out.b.trans (hba.mono (by omega))).trans (ho5.below (by have := hba.size; omega) (fun q hq => by
          have h1 := I.out.n.new q (own_mem hq)
          have := HS0.out
          omega))
        obtain ⟨w6, hup, hm6, ho6⟩ := hm5.put (P := Tryz.prog) Tryz.underlying149 Tryz.underlying3 (r := x) (by omega) (.int .i64 ((S.length : Int) + 1))
        have hI6 : SimI w0 w6 w.heap.size (S ++ [x]) (.slice ao5 (S ++ [x]).length cap5) := by
          refine ⟨?_, hm6.congr (fun q => by have := placeV_push HXS.out q; rw [Int.natCast_add] at this; exact this), by simpa using hne5, ?_, hbw.trans (ho6.below (by have := hbw.size; have := HS0.out; omega) (by simp))⟩
          · rw [List.length_append]
            exact hn5.kept ho6 (fun q hq => by simp only [List.mem_singleton]; exact hne5 q hq)
          · rw [← HST.out]; exact simpleStep_nodup I.out.d
        have I6 := Lib.hid hI6
        clear hown5 ho5 hk5 hba hn5 hne5 hm5 hbw hm6 ho6 hI6 e0 hlk
        go_wp2_with fail
        rw [← EA.out]
        go_roundg (l.length - (k + 1))
        case measure => rw [HG.out]; omega
        case rel => exact ⟨k + 1, S ++ [x], ao5, cap5, by go_num, by omega, rfl, by rw [HN.out, HST.out], by rw [List.length_append]; rfl, I6.out⟩
    · obtain rfl : k = l.length := by omega
      rw [List.take_length] at HSS
      have hS := HSS.out
      go_wp2
      go_returns
      subst hS
      exact ⟨ao, cap, rfl, I.out.n.mono (by have := HS0.out; omega), HBW.out⟩
theorem Tryz.zeroU64S (w : World) : (zeroValue 45).run Tryz.prog w = .ok (.int .u64 0) w := by kernel_rfl
def distV (L : List SeenD) (q : Nat) : Option Value := (L.find? (fun x => x.rank == q)).map fun x => .int .u64 x.dist
theorem distV_push {L : List SeenD} {x : SeenD} (hx : ∀ y ∈ L, y.rank ≠ x.rank) (q : Nat) : (if q = x.rank then some (Value.int .u64 x.dist) else distV L q) = distV (L ++ [x]) q := by
  unfold distV
  rw [List.find?_append]
  by_cases e : q = x.rank
  · subst e
    rw [if_pos rfl]
    have h1 : L.find? (fun y => y.rank == x.rank) = none := by
      rw [List.find?_eq_none]
      intro y hy
      simpa using hx y hy
    rw [h1]
    simp
  · rw [if_neg e]
    have h2 : [x].find? (fun y => y.rank == q) = none := by
      rw [List.find?_eq_none]
      intro y hy
      simp only [List.mem_singleton] at hy
      subst hy
      simpa using fun c => e c.symm
    rw [h2, Option.or_none]
structure SeenIs (n : Nat) (D : Nat → Option Int) (L : List SeenD) : Prop where
  map : L.map (fun x => (x.rank, x.dist)) = seenOf n D
theorem SeenIs.mem {n : Nat} {D : Nat → Option Int} {L : List SeenD} (h : SeenIs n D L) {x : SeenD} (hx : x ∈ L) : x.rank < n ∧ D x.rank = some x.dist := by
  have : (x.rank, x.dist) ∈ seenOf n D := by rw [← h.map]; exact List.mem_map.2 ⟨x, hx, rfl⟩
  unfold seenOf at this
  rw [List.mem_filterMap] at this
  obtain ⟨r, hr, h1⟩ := this
  rw [Option.map_eq_some_iff] at h1
  obtain ⟨d, hd, h2⟩ := h1
  simp only [Prod.mk.injEq] at h2
  obtain ⟨rfl, rfl⟩ := h2
  exact ⟨List.mem_range.1 hr, hd⟩
theorem SeenIs.has {n : Nat} {D : Nat → Option Int} {L : List SeenD} (h : SeenIs n D L) {r : Nat} {d : Int} (hr : r < n) (hd : D r = some d) : ∃ x ∈ L, x.rank = r ∧ x.dist = d := by
  have : (r, d) ∈ seenOf n D := List.mem_filterMap.2 ⟨r, List.mem_range.2 hr, by rw [hd]; rfl⟩
  rw [← h.map, List.mem_map] at this
  obtain ⟨x, hx, e⟩ := this
  simp only [Prod.mk.injEq] at e
  exact ⟨x, hx, e.1, e.2⟩
theorem SeenIs.nodup {n : Nat} {D : Nat → Option Int} {L : List SeenD} (h : SeenIs n D L) : (L.map (·.rank)).Nodup := by
  have e : L.map (·.rank) = (seenOf n D).map (·.1) := by rw [← h.map, List.map_map]; rfl
  rw [e]
  unfold seenOf
  have key : ∀ l : List Nat, l.Nodup → ((l.filterMap fun r => (D r).map fun d => (r, d)).map (·.1)).Nodup ∧ ∀ x ∈ ((l.filterMap fun r => (D r).map fun d => (r, d)).map (·.1)), x ∈ l := by
    intro l
    induction l with
    | nil => intro _; simp
    | cons a l ih =>
      intro hl
      rw [List.nodup_cons] at hl
      obtain ⟨h1, h2⟩ := ih hl.2
      rw [List.filterMap_cons]
      cases hD : D a with
      | none => simp only [Option.map_none]; exact ⟨h1, fun x hx => List.mem_cons_of_mem _ (h2 x hx)⟩
      | some d =>
        simp only [Option.map_some, List.map_cons, List.nodup_cons]
        exact ⟨⟨fun hx => hl.1 (h2 a hx), h1⟩, fun x hx => by
          rcases List.mem_cons.1 hx with rfl | hx
          · simp
          · exact List.mem_cons_of_mem _ (h2 x hx)⟩
  exact (key _ List.nodup_range).1
theorem SeenIs.fresh {n : Nat} {D : Nat → Option Int} {L : List SeenD} (h : SeenIs n D L) {k : Nat} {x : SeenD} (hx : L[k]? = some x) : ∀ y ∈ L.take k, y.rank ≠ x.rank := by
  intro y hy e
  obtain ⟨j, hj⟩ := List.getElem?_of_mem hy
  rw [List.getElem?_take] at hj
  split at hj
  · rename_i hjk
    have hn := h.nodup
    rw [List.nodup_iff_pairwise_ne, List.pairwise_iff_getElem] at hn
    obtain ⟨h1, h2⟩ := List.getElem?_eq_some_iff.1 hj
    obtain ⟨h3, h4⟩ := List.getElem?_eq_some_iff.1 hx
    have := hn j k (by simpa using h1) (by simpa using h3) hjk
    simp only [List.getElem_map, h2, h4] at this
    exact this e
  · cases hj
theorem SeenIs.dist {n : Nat} {D : Nat → Option Int} {L : List SeenD} (h : SeenIs n D L) {r : Nat} {d : Int} (hr : r < n) (hd : D r = some d) : distV L r = some (.int .u64 d) := by
  unfold distV
  cases hf : L.find? (fun x => x.rank == r) with
  | none =>
    rw [List.find?_eq_none] at hf
    obtain ⟨x, hx, e1, -⟩ := h.has hr hd
    exact absurd (by simpa using e1) (hf x hx)
  | some x =>
    have h1 := List.find?_some hf
    have h2 := List.mem_of_find?_eq_some hf
    simp only [beq_iff_eq] at h1
    have h3 := (h.mem h2).2
    rw [h1, hd] at h3
    simp only [Option.some.injEq] at h3
    rw [Option.map_some, h3]
def BackHit (first : List Nat) (links : List LinkD) (at_ : Nat) (e : Int) (x : SeenD) (i : Nat) : Prop :=
  first.getD x.rank 0 ≤ i ∧ i < first.getD (x.rank + 1) 0 ∧ ∃ l, links[i]? = some l ∧ l.to = at_ ∧ x.dist + l.wt = e
def BackPost (first : List Nat) (links : List LinkD) (D : Nat → Option Int) (at_ : Nat) (e : Int) (w : World) (en : Ending) (w' : World) : Prop :=
  ∃ (x : SeenD) (i : Nat), en = .returned (.tuple #[.int .i64 (x.rank : Nat), .int .i64 (i : Nat)]) ∧ D x.rank = some x.dist ∧ BackHit first links at_ e x i ∧ Below w.heap.size w w'
theorem seg_get {first : List Nat} {links : List LinkD} {r : Nat} {l : LinkD} (h : l ∈ seg first links r) : ∃ i, first.getD r 0 ≤ i ∧ i < first.getD (r + 1) 0 ∧ links[i]? = some l := by
  unfold seg at h
  obtain ⟨j, hj⟩ := List.getElem?_of_mem h
  rw [List.getElem?_drop, List.getElem?_take] at hj
  split at hj
  · exact ⟨_, by omega, by omega, hj⟩
  · cases hj
theorem seg_of {first : List Nat} {links : List LinkD} {r i : Nat} {l : LinkD} (h1 : first.getD r 0 ≤ i) (h2 : i < first.getD (r + 1) 0) (hl : links[i]? = some l) : l ∈ seg first links r := by
  unfold seg
  refine List.mem_of_getElem? (i := i - first.getD r 0) ?_
  rw [List.getElem?_drop, List.getElem?_take, if_pos (by omega), show first.getD r 0 + (i - first.getD r 0) = i by omega]
  exact hl
theorem back_has {n : Nat} {first : List Nat} {links : List LinkD} {s : Nat} {D : Nat → Option Int} {L : List SeenD} (h : IsD n first links s D) (hs : SeenIs n D L) {at_ : Nat} {e : Int} (hne : at_ ≠ s) (he : D at_ = some e) : ∃ (k : Nat) (x : SeenD) (i : Nat), L[k]? = some x ∧ BackHit first links at_ e x i := by
  obtain ⟨r, d, l, hr, hd, hl, hto, rfl⟩ := h.bwd at_ e hne he
  obtain ⟨x, hx, rfl, rfl⟩ := hs.has hr hd
  obtain ⟨k, hk⟩ := List.getElem?_of_mem hx
  obtain ⟨i, h1, h2, h3⟩ := seg_get hl
  exact ⟨k, x, i, hk, h1, h2, l, h3, hto, rfl⟩
set_option maxRecDepth 100000 in
set_option maxHeartbeats 4000000 in
theorem back_any (n : Nat) (first : List Nat) (links : List LinkD) (s : Nat) (D : Nat → Option Int) (L : List SeenD) (at_ : Nat) (e : Int) (af al ax : Option Addr) (cf ck0 cs : Nat) (w : World)
    (sf : See w af cf u32Cells 1 first) (sl : See w al ck0 linkCells 4 links) (ss : See w ax cs seenCells 3 L) (bf : ∀ x ∈ first, x < 4294967296) (bl : ∀ l ∈ links, l.ok) (ok : HalfOk n first links) (hD : IsD n first links s D) (hL : SeenIs n D L)
    (hn : n ≤ 65536) (hk : links.length ≤ 1048576) (hat : at_ < n) (hne : at_ ≠ s) (he : D at_ = some e) :
    Calls Tryz.prog 70 #[.slice af first.length cf, .slice al links.length ck0, .slice ax L.length cs, .int .i64 at_] w (BackPost first links D at_ e w) := by
  have hbnd := hD.bnd ok
  have hfl := ok.len
  obtain ⟨b1, o1, rfl, lb1, cc1⟩ := see_one (f := fun (n : Nat) => Value.int .u32 n) sf (by omega)
  have CF := Lib.hid cc1
  have hm0 : MapI (w.alloc (.map #[] 0)) w.heap.size (fun _ => none) := MapI.made w
  have hb0 : Below w.heap.size w (w.alloc (.map #[] 0)) := (Below.refl _ _).alloc (Nat.le_refl _) _
  have hmm := fun t w => run_makeMap (P := Tryz.prog) t w
  obtain ⟨w0, hw0⟩ : ∃ w0 : World, w.alloc (.map #[] 0) = w0 := ⟨_, rfl⟩
  have hs0 : w0.heap.size = w.heap.size + 1 := by rw [← hw0]; simp
  rw [hw0] at hm0 hb0
  have HM0 := Lib.hid hm0
  have HB0 := Lib.hid hb0
  have HS0 := Lib.hid hs0
  have HW := Lib.hid hw0
  have SF := Lib.hid sf
  have SL := Lib.hid sl
  have SS := Lib.hid ss
  have BF := Lib.hid bf
  have BL := Lib.hid bl
  have OK := Lib.hid ok
  have ID := Lib.hid hD
  have IL := Lib.hid hL
  have HE := Lib.hid he
  have HBN := Lib.hid hbnd
  have hLl : L.length ≤ 65536 := by
    have h1 := congrArg List.length hL.map
    rw [List.length_map] at h1
    have h2 : (seenOf n D).length ≤ n := by
      unfold seenOf
      exact Nat.le_trans (List.length_filterMap_le _ _) (by simp)
    omega
  have hh := back_has hD hL hne he
  have HH := Lib.hid hh
  clear sf sl ss bf bl ok hD hL he hm0 hb0 hs0 hw0 hbnd cc1 hh
  go_enter Tryz.func70, Tryz.ntmps70
  go_wp2_with fail
  clear hmm
  rw [show w.alloc (.map #[] 0) = w0 from HW.out]
  go_loopg [19] L.length (fun g vi wr => ∃ k : Nat, vi = .int .i64 (k : Int) ∧ k ≤ L.length ∧ g = L.length - k ∧ MapI wr w.heap.size (distV (L.take k)) ∧ Below w.heap.size w wr)
  case atStart => exact ⟨0, rfl, Nat.zero_le _, rfl, HM0.out.congr (fun q => by simp [distV]), HB0.out⟩
  case round =>
    obtain ⟨k, rfl, hkk, hg, hm, hb⟩ := hrel
    have HG := Lib.hid hg
    have HM := Lib.hid hm
    have HB := Lib.hid hb
    clear hg hm hb
    by_cases hkl : k < L.length
    · obtain ⟨x, hx⟩ : ∃ x, L[k]? = some x := ⟨_, List.getElem?_eq_getElem hkl⟩
      obtain ⟨hxn, hxd⟩ := IL.out.mem (List.mem_of_getElem? hx)
      obtain ⟨b, o, ea, cc⟩ := SS.out.cell k x hx
      have e0 := ck HB.out (cc 0 _ rfl)
      have e1 := ck HB.out (cc 1 _ rfl)
      have e2 := ck HB.out (cc 2 _ rfl)
      rw [Nat.add_zero] at e0
      have lb := block_lt e0
      have EA := Lib.hid ea
      have hfr := IL.out.fresh hx
      have htk : L.take (k + 1) = L.take k ++ [x] := by rw [List.take_add_one, hx]; rfl
      obtain ⟨wq, hwq⟩ : ∃ wq : World, wr.alloc (.cells (seenCells x).toArray 155) = wq := ⟨_, rfl⟩
      have hoo : Below wr.heap.size wr wq := by rw [← hwq]; exact (Below.refl _ _).alloc (Nat.le_refl _) _
      have hbx : Cells wq wr.heap.size 155 (seenCells x) := by rw [← hwq]; exact Cells.new wr _ _
      have v0 : wq.cell? ⟨wr.heap.size, 0, none⟩ = some (.int .i64 (x.rank : Nat)) := hbx.cell rfl
      have v1 : wq.cell? ⟨wr.heap.size, 1, none⟩ = some (.int .u64 x.dist) := hbx.cell rfl
      have lx := hbx.lt
      obtain ⟨w6, hup, hm6, ho6⟩ := (HM.out.below hoo).put (P := Tryz.prog) Tryz.underlying184 Tryz.underlying3 (r := x.rank) (by omega) (.int .u64 x.dist)
      have HM6 := Lib.hid (show MapI w6 w.heap.size (distV (L.take (k + 1))) from hm6.congr (fun q => by rw [htk]; exact distV_push hfr q))
      have HB6 := Lib.hid (show Below w.heap.size w w6 from (HB.out.trans (hoo.mono HB.out.size)).trans (ho6.below (by have := HB.out.size; have := hoo.size; omega) (by simp)))
      have HWQ := Lib.hid hwq
      clear hx hxd ea cc hfr htk hwq hoo hbx hm6 ho6
      rw [EA.out]
      go_upto_region 5 with fail
      rw [show wr.alloc (.cells #[.int .i64 (x.rank : Nat), .int .u64 x.dist, .bool x.st] 155) = wq from HWQ.out]
      go_wp2_with fail
      rw [← EA.out]
      go_roundg (L.length - (k + 1))
      case measure => rw [HG.out]; omega
      case rel => exact ⟨k + 1, by go_num, by omega, rfl, HM6.out, HB6.out⟩
    · obtain rfl : k = L.length := by omega
      rw [List.take_length] at HM
      go_wp2_with fail
      obtain ⟨wo, rfl⟩ : ∃ wo : World, wo = wr := ⟨_, rfl⟩
      go_loopg [31] L.length (fun g vi wr => ∃ k : Nat, vi = .int .i64 (k : Int) ∧ k ≤ L.length ∧ g = L.length - k ∧ (∃ (j : Nat) (x : SeenD) (i : Nat), k ≤ j ∧ L[j]? = some x ∧ BackHit first links at_ e x i) ∧ MapI wr w.heap.size (distV L) ∧ Below w.heap.size w wr)
      case atStart =>
        obtain ⟨j, x, i, hj, hit⟩ := HH.out
        exact ⟨0, rfl, Nat.zero_le _, rfl, ⟨j, x, i, Nat.zero_le _, hj, hit⟩, HM.out, HB.out⟩
      case round =>
        obtain ⟨k, rfl, hkk, hg, hex, hm, hb⟩ := hrel
        have hkl : k < L.length := by
          obtain ⟨j, x, i, h1, h2, -⟩ := hex
          have := (List.getElem?_eq_some_iff.1 h2).1
          omega
        have HG := Lib.hid hg
        have HEX := Lib.hid hex
        have HM := Lib.hid hm
        have HB := Lib.hid hb
        clear hg hm hb hex
        obtain ⟨x, hx⟩ : ∃ x, L[k]? = some x := ⟨_, List.getElem?_eq_getElem hkl⟩
        obtain ⟨hxn, hxd⟩ := IL.out.mem (List.mem_of_getElem? hx)
        obtain ⟨hx0, hx1⟩ := HBN.out _ _ hxd
        have hx2 : x.dist ≤ 9223231299366420480 := by omega
        obtain ⟨b, o, ea, cc⟩ := SS.out.cell k x hx
        have e0 := ck HB.out (cc 0 _ rfl)
        have e1 := ck HB.out (cc 1 _ rfl)
        have e2 := ck HB.out (cc 2 _ rfl)
        rw [Nat.add_zero] at e0
        have lb := block_lt e0
        have EA := Lib.hid ea
        obtain ⟨wq, hwq⟩ : ∃ wq : World, wr.alloc (.cells (seenCells x).toArray 155) = wq := ⟨_, rfl⟩
        have hoo : Below wr.heap.size wr wq := by rw [← hwq]; exact (Below.refl _ _).alloc (Nat.le_refl _) _
        have hbx : Cells wq wr.heap.size 155 (seenCells x) := by rw [← hwq]; exact Cells.new wr _ _
        have v0 : wq.cell? ⟨wr.heap.size, 0, none⟩ = some (.int .i64 (x.rank : Nat)) := hbx.cell rfl
        have lx := hbx.lt
        have HBX := Lib.hid hbx
        have HMQ := Lib.hid (HM.out.below hoo)
        have HBQ := Lib.hid (show Below w.heap.size w wq from HB.out.trans (hoo.mono HB.out.size))
        have HWQ := Lib.hid hwq
        have HXL := Lib.hid hx
        have HXD := Lib.hid hxd
        obtain ⟨lo, hlo⟩ : ∃ lo, first[x.rank]? = some lo := ⟨_, List.getElem?_eq_getElem (by omega)⟩
        obtain ⟨hi, hhi⟩ : ∃ hi, first[x.rank + 1]? = some hi := ⟨_, List.getElem?_eq_getElem (by omega)⟩
        have glo : first.getD x.rank 0 = lo := by rw [List.getD_eq_getElem?_getD, hlo]; rfl
        have ghi : first.getD (x.rank + 1) 0 = hi := by rw [List.getD_eq_getElem?_getD, hhi]; rfl
        have hlh : lo ≤ hi := by rw [← glo, ← ghi]; exact OK.out.mono x.rank hxn
        have hhl : hi ≤ links.length := by rw [← ghi]; exact OK.out.last (x.rank + 1) (by omega)
        have cl := ck HBQ.out (CF.out x.rank lo hlo)
        have hil : x.rank < first.length := by omega
        have hil1 : x.rank + 1 < first.length := by omega
        have HLO := Lib.hid glo
        have HHI := Lib.hid ghi
        have CH := Lib.hid (CF.out (x.rank + 1) hi hhi)
        clear hx hxd hx1 ea cc hwq hoo hbx hlo hhi glo ghi
        rw [EA.out]
        go_upto_region 10 with fail
        rw [show wr.alloc (.cells #[.int .i64 (x.rank : Nat), .int .u64 x.dist, .bool x.st] 155) = wq from HWQ.out]
        go_wp2_with fail
        go_loopg [15] (hi - lo) (fun g vi wr2 => ∃ i : Nat, vi = .int .u32 (i : Int) ∧ lo ≤ i ∧ i ≤ hi ∧ g = hi - i ∧ (∀ i', i' < i → ¬ BackHit first links at_ e x i') ∧ Below wq.heap.size wq wr2)
        case atStart => exact ⟨lo, rfl, Nat.le_refl _, hlh, rfl, fun i' h1 h2 => by have := h2.1; rw [HLO.out] at this; omega, Below.refl _ _⟩
        case round =>
          obtain ⟨i, rfl, hi1, hi2, hgi, hno, hbi⟩ := hrel
          have HGI := Lib.hid hgi
          have HNO := Lib.hid hno
          have HBI := Lib.hid hbi
          have u0 : wr.cell? ⟨_, 0, none⟩ = some (.int .i64 (x.rank : Nat)) := (HBX.out.below hbi HBX.out.lt).cell rfl
          have u1 : wr.cell? ⟨_, 1, none⟩ = some (.int .u64 x.dist) := (HBX.out.below hbi HBX.out.lt).cell rfl
          have lu := (HBX.out.below hbi HBX.out.lt).lt
          have ch := ck ((HBQ.out.trans (hbi.mono HBQ.out.size))) CH.out
          clear hgi hno hbi
          by_cases hlt : i < hi
          · obtain ⟨l, hl⟩ : ∃ l, links[i]? = some l := ⟨_, List.getElem?_eq_getElem (by omega)⟩
            obtain ⟨b3, o3, ea3, cc3⟩ := SL.out.cell i l hl
            have hbb := HBQ.out.trans (HBI.out.mono HBQ.out.size)
            have l0 := ck hbb (cc3 0 _ rfl)
            have l1 := ck hbb (cc3 1 _ rfl)
            have l2 := ck hbb (cc3 2 _ rfl)
            have l3 := ck hbb (cc3 3 _ rfl)
            rw [Nat.add_zero] at l0
            have lb3 := block_lt l0
            have hil3 : i < links.length := by omega
            obtain ⟨hk1, hk2, -, -⟩ := BL.out l (List.mem_of_getElem? hl)
            have hseg : l ∈ seg first links x.rank := seg_of (by rw [HLO.out]; exact hi1) (by rw [HHI.out]; exact hlt) hl
            have hup := OK.out.up x.rank hxn l hseg
            have hwt := hup.2.2
            have hsum := IntWalk.u64_in (x.dist + (l.wt : Int)) (by omega)
            have hlk : ∀ q, (Instr.lookup 184 (.map (some w.heap.size)) (.int .i64 (at_ : Int)) false).run Tryz.prog (wr.drewN q) = .ok (.int .u64 e) (wr.drewN q) := fun q => by
              have h1 := ((HMQ.out.below HBI.out).below (below_drewN (Below.refl wr.heap.size wr) q)).look Tryz.underlying184 Tryz.underlying3 (Tryz.zeroU64S _) (r := at_) (by omega)
              rw [IL.out.dist hat HE.out] at h1
              exact h1
            have hd40 : decide ((i : Int) < (hi : Int)) = true := by simp; omega
            have EA3 := Lib.hid ea3
            have HL := Lib.hid hl
            clear hl ea3 cc3 hbb hseg hup
            rw [EA3.out]
            by_cases hto : l.to = at_
            · have dto : ((l.to : Int) == (at_ : Int)) = true := by simp; omega
              by_cases heq : x.dist + l.wt = e
              · have deq : ((x.dist + (l.wt : Int)) == e) = true := by simpa using heq
                have HT := Lib.hid hto
                have HQ := Lib.hid heq
                clear hto heq
                go_upto_region 13 with fail
                go_quiet (fail)
                go_wp2
                go_returns
                exact ⟨x, i, rfl, HXD.out, ⟨by rw [HLO.out]; exact hi1, by rw [HHI.out]; exact hlt, l, HL.out, HT.out, HQ.out⟩, below_drewN (HBQ.out.trans (HBI.out.mono HBQ.out.size)) _⟩
              · have deq : ((x.dist + (l.wt : Int)) == e) = false := by simpa using heq
                have NX := Lib.hid (show ∀ i', i' < i + 1 → ¬ BackHit first links at_ e x i' from fun i' h1 h2 => by
                  rcases Nat.lt_or_ge i' i with h3 | h3
                  · exact HNO.out i' h3 h2
                  · obtain rfl : i' = i := by omega
                    obtain ⟨-, -, l', h4, h5, h6⟩ := h2
                    rw [HL.out] at h4
                    simp only [Option.some.injEq] at h4
                    subst h4
                    exact heq h6)
                clear heq
                clear hto
                go_upto_region 13 with fail
                go_quiet (fail)
                go_wp2_with fail
                rw [← EA3.out]
                go_roundg (hi - (i + 1))
                case measure => rw [HGI.out]; omega
                case rel => exact ⟨i + 1, by go_num, by omega, by omega, rfl, NX.out, below_drewN HBI.out _⟩
            · have dto : ((l.to : Int) == (at_ : Int)) = false := by simp; omega
              have NX := Lib.hid (show ∀ i', i' < i + 1 → ¬ BackHit first links at_ e x i' from fun i' h1 h2 => by
                rcases Nat.lt_or_ge i' i with h3 | h3
                · exact HNO.out i' h3 h2
                · obtain rfl : i' = i := by omega
                  obtain ⟨-, -, l', h4, h5, h6⟩ := h2
                  rw [HL.out] at h4
                  simp only [Option.some.injEq] at h4
                  subst h4
                  exact hto h5)
              clear hto
              go_upto_region 13 with fail
              go_quiet (fail)
              go_wp2_with fail
              rw [← EA3.out]
              go_roundg (hi - (i + 1))
              case measure => rw [HGI.out]; omega
              case rel => exact ⟨i + 1, by go_num, by omega, by omega, rfl, NX.out, below_drewN HBI.out _⟩
          · obtain rfl : i = hi := by omega
            have hd40 : decide ((i : Int) < (i : Int)) = false := by simp
            go_wp2_with fail
            rw [← EA.out]
            go_roundg (L.length - (k + 1))
            case measure => rw [HG.out]; omega
            case rel =>
              refine ⟨k + 1, by go_num, by omega, rfl, ?_, HMQ.out.below HBI.out, HBQ.out.trans (HBI.out.mono HBQ.out.size)⟩
              obtain ⟨j, y, i', h1, h2, h3⟩ := HEX.out
              refine ⟨j, y, i', ?_, h2, h3⟩
              rcases Nat.lt_or_ge k j with h4 | h4
              · exact h4
              · obtain rfl : j = k := by omega
                rw [HXL.out] at h2
                simp only [Option.some.injEq] at h2
                subst h2
                have h5 := h3.2.1
                rw [HHI.out] at h5
                exact absurd h3 (HNO.out i' h5)
end Go.Proofs.YtchhbgckonpedaaGreatDoor
