/- The reference's look at a list of firsts. -/
import Derived.Test.YtchhbgckonpedaaGreatDoorG17
namespace Go.Proofs.YtchhbgckonpedaaGreatDoor
open Go.ChangeShapes Go.WideShapes Go.ChangeAt Go.RowKit Go.Joins Go.Deep
theorem ErrV.put {w : World} {x : EV} {B : Nat} {l : List Value} {c : Int} {ao : Option Addr} {n cap : Nat} (h : ErrV w (.agg #[.int .i64 c, .slice ao n cap]) x) (hc : Cells w B 36 l) (a b : Value) :
    ErrV ((w.setCell ⟨B, 0, none⟩ a).setCell ⟨B, 1, none⟩ b) (.agg #[.int .i64 c, .slice ao n cap]) x := by
  cases x with
  | nil => exact h
  | code n => exact h
  | «at» k i n =>
    obtain ⟨g, e, hg⟩ := h
    have hne : g ≠ B := by
      rintro rfl
      have := (show w.heap[g]? = _ from hg).symm.trans hc
      simp at this
    exact ⟨g, e, (hg.other (a := ⟨B, 0, none⟩) hne _).other (a := ⟨B, 1, none⟩) hne _⟩
def errZero : List Value := [.int .i64 0, .slice none 0 0]
end Go.Proofs.YtchhbgckonpedaaGreatDoor
/- The reference's ranks of all links. -/
namespace Go.Proofs.YtchhbgckonpedaaGreatDoor
open Go.ChangeShapes Go.WideShapes Go.ChangeAt Go.RowKit Go.Joins Go.Deep
def repR (first : List Nat) (r : Nat) : List Nat := List.replicate (first.getD (r + 1) 0 - first.getD r 0) r
theorem seg_length {n : Nat} {first : List Nat} {links : List LinkD} (u : FirstsOk n first links.length) (r : Nat) (hr : r < n) : (seg first links r).length = first.getD (r + 1) 0 - first.getD r 0 := by
  have h2 := u.le (r + 1) (by omega)
  unfold seg
  rw [List.length_drop, List.length_take]
  omega
theorem ups_ranks {h : HierD} (u : FirstsOk h.node.length h.upF h.up.length) : ∀ n, n ≤ h.node.length → ((List.range n).flatMap (endsUp h.upF h.up)).map (·.rank) = (List.range n).flatMap (repR h.upF) := by
  intro n
  induction n with
  | zero => intro _; rfl
  | succ n ih =>
    intro hn
    rw [List.range_succ, List.flatMap_append, List.map_append, ih (by omega), List.flatMap_append]
    simp only [List.flatMap_cons, List.flatMap_nil, List.append_nil, endsUp, List.map_map]
    congr 1
    rw [show ((fun x : EndD => x.rank) ∘ fun l => (⟨l, n, l.to, n⟩ : EndD)) = fun _ => n from rfl, List.map_const', seg_length u n (by omega)]
    rfl
theorem dns_ranks {h : HierD} (u : FirstsOk h.node.length h.dnF h.dn.length) : ∀ n, n ≤ h.node.length → ((List.range n).flatMap (endsDn h.dnF h.dn)).map (·.rank) = (List.range n).flatMap (repR h.dnF) := by
  intro n
  induction n with
  | zero => intro _; rfl
  | succ n ih =>
    intro hn
    rw [List.range_succ, List.flatMap_append, List.map_append, ih (by omega), List.flatMap_append]
    simp only [List.flatMap_cons, List.flatMap_nil, List.append_nil, endsDn, List.map_map]
    congr 1
    rw [show ((fun x : EndD => x.rank) ∘ fun l => (⟨l, l.to, n, n⟩ : EndD)) = fun _ => n from rfl, List.map_const', seg_length u n (by omega)]
    rfl
theorem ranksL_eq {h : HierD} (u : FirstsOk h.node.length h.upF h.up.length) (d : FirstsOk h.node.length h.dnF h.dn.length) : ranksL h = (List.range h.node.length).flatMap (repR h.upF) ++ (List.range h.node.length).flatMap (repR h.dnF) := by
  unfold ranksL endsOf
  rw [List.map_append, ups_ranks u _ (Nat.le_refl _), dns_ranks d _ (Nat.le_refl _)]
theorem reps_length {n m : Nat} {first : List Nat} (u : FirstsOk n first m) (r : Nat) (hr : r ≤ n) : ((List.range r).flatMap (repR first)).length = first.getD r 0 := by
  induction r with
  | zero => rw [u.zero]; rfl
  | succ r ih =>
    have h1 := u.mono r (by omega)
    rw [List.range_succ, List.flatMap_append, List.length_append, ih (by omega)]
    simp only [List.flatMap_cons, List.flatMap_nil, List.append_nil, repR, List.length_replicate]
    omega
theorem rep_step (P first : List Nat) (r : Nat) : P ++ (List.range (r + 1)).flatMap (repR first) = P ++ (List.range r).flatMap (repR first) ++ List.replicate (first.getD (r + 1) 0 - first.getD r 0) r := by
  rw [List.range_succ, List.flatMap_append, List.append_assoc]
  simp only [List.flatMap_cons, List.flatMap_nil, List.append_nil, repR]
def IntsNew (l : List Nat) (w : World) (e : Ending) (w' : World) : Prop := ∃ ao cap, e = .returned (.slice ao l.length cap) ∧ See w' ao cap i64Cells 1 l ∧ Below w.heap.size w w'
set_option maxRecDepth 100000 in
set_option maxHeartbeats 4000000 in
theorem rranks_any (A : HA) (h : HierD) (w : World) (see : HSee w A h) (u : FirstsOk h.node.length h.upF h.up.length) (d : FirstsOk h.node.length h.dnF h.dn.length) (hn : h.node.length ≤ 65536) (htot : h.up.length + h.dn.length ≤ 1048576) :
    Calls Tryz.prog 53 #[hierVal A h] w (IntsNew (ranksL h) w) := by
  have hu63 : h.up.length ≤ 1048576 := by omega
  have hd63 : h.dn.length ≤ 1048576 := by omega
  have SEE := Lib.hid see
  have UOK := Lib.hid u
  have DOK := Lib.hid d
  have hul : h.upF.length ≤ 65537 := by have := u.len; omega
  have hdl : h.dnF.length ≤ 65537 := by have := d.len; omega
  have HTOT := Lib.hid htot
  clear see u d htot
  unfold hierVal
  have HX0 := Lib.hid (Cells.new w 25 (hierCells A h))
  have HB0 := Lib.hid ((Below.refl w.heap.size w).alloc (Nat.le_refl _) (.cells (hierCells A h).toArray 25))
  go_enter Tryz.func53, Tryz.ntmps53
  go_wp2_with fail
  go_loopg [3, 4] h.node.length (fun g vl vr wr => ∃ (r : Nat) (ao : Option Addr) (cap : Nat) (L : List Nat), L = (List.range r).flatMap (repR h.upF) ∧ vr = .int .i64 r ∧ r ≤ h.node.length ∧ g = h.node.length - r ∧ vl = .slice ao (h.upF.getD r 0) cap ∧
      wr.ownsRow 0 3 1 (.slice ao (h.upF.getD r 0) cap) (h.upF.getD r 0) (L.flatMap i64Cells) ∧ (∀ b, (Value.slice ao (h.upF.getD r 0) cap).ownBlock = some b → w.heap.size < b) ∧
      Cells wr w.heap.size 25 (hierCells A h) ∧ Below w.heap.size w wr)
  case atStart => exact ⟨0, none, 0, [], rfl, rfl, Nat.zero_le _, rfl, by rw [UOK.out.zero], by rw [UOK.out.zero]; exact World.ownsRow_nil _ _ _ _, by simp [Value.ownBlock], HX0.out, HB0.out⟩
  case round =>
    obtain ⟨r, ao, cap, L, hL, rfl, hr, hg, rfl, hown, hnew, hcs, hbl⟩ := hrel
    have HL := Lib.hid hL
    clear hL
    have HG := Lib.hid hg
    have HOWN := Lib.hid hown
    have HNEW := Lib.hid hnew
    have HCS := Lib.hid hcs
    have HBL := Lib.hid hbl
    have lb := hcs.lt
    obtain ⟨k0, k1, k2, k3, k4⟩ := hier_five hcs
    have hfl : h.upF.length = h.node.length + 1 := UOK.out.len
    have HFL := Lib.hid hfl
    clear hg hown hnew hcs hbl hfl
    by_cases hrn : r < h.node.length
    · have d0 : decide ((r : Int) + 1 < (h.upF.length : Int)) = true := by have := HFL.out; simp; omega
      obtain ⟨lo, hlo⟩ : ∃ lo, h.upF[r]? = some lo := ⟨_, List.getElem?_eq_getElem (by have := HFL.out; omega)⟩
      obtain ⟨hi, hhi⟩ : ∃ hi, h.upF[r + 1]? = some hi := ⟨_, List.getElem?_eq_getElem (by have := HFL.out; omega)⟩
      have glo : h.upF.getD r 0 = lo := by rw [List.getD_eq_getElem?_getD, hlo]; rfl
      have ghi : h.upF.getD (r + 1) 0 = hi := by rw [List.getD_eq_getElem?_getD, hhi]; rfl
      have hlh : lo ≤ hi := by rw [← glo, ← ghi]; exact UOK.out.mono r hrn
      have hhl : hi ≤ h.up.length := by rw [← ghi]; exact UOK.out.le (r + 1) (by omega)
      have su := SEE.out.below HBL.out
      obtain ⟨b1, o1, ea1, lb1, cc1⟩ := see_one (f := fun (n : Nat) => Value.int .u32 n) su.upF (by have := HFL.out; omega)
      have HCC := Lib.hid cc1
      have HLO := Lib.hid hlo
      have HHI := Lib.hid hhi
      have GLO := Lib.hid glo
      have GHI := Lib.hid ghi
      have HEA := Lib.hid ea1
      have cl := cc1 r lo hlo
      have hil : r < h.upF.length := by have := HFL.out; omega
      have hil1 : r + 1 < h.upF.length := by have := HFL.out; omega
      rw [ea1] at k1
      clear hlo hhi glo ghi su cc1 ea1
      go_wp2_with fail
      obtain ⟨wo, hwo⟩ : ∃ wo : World, wo = wr := ⟨_, rfl⟩
      go_loopg [3, 5] (hi - lo) (fun g vl vi wr2 => ∃ (j : Nat) (ao2 : Option Addr) (cap2 : Nat) (M : List Nat), M = (List.range r).flatMap (repR h.upF) ++ List.replicate j r ∧ vi = .int .u32 (lo + j : Nat) ∧ j ≤ hi - lo ∧ g = hi - lo - j ∧ vl = .slice ao2 (lo + j) cap2 ∧
        wr2.ownsRow 0 3 1 (.slice ao2 (lo + j) cap2) (lo + j) (M.flatMap i64Cells) ∧ (∀ b, (Value.slice ao2 (lo + j) cap2).ownBlock = some b → w.heap.size < b) ∧
        Cells wr2 w.heap.size 25 (hierCells A h) ∧ Below w.heap.size w wr2)
      case atStart =>
        have h1 := HOWN.out
        have h2 := HNEW.out
        rw [GLO.out] at h1 h2
        exact ⟨0, ao, cap, L, by rw [HL.out]; simp, rfl, Nat.zero_le _, rfl, by rw [GLO.out]; rfl, h1, h2, HCS.out, HBL.out⟩
      case round =>
        obtain ⟨j, ao2, cap2, M, hM, rfl, hj, hgj, rfl, hown, hnew, hcs, hbl⟩ := hrel
        have HM := Lib.hid hM
        clear hM
        have HGJ := Lib.hid hgj
        have HOWN2 := Lib.hid hown
        have HNEW2 := Lib.hid hnew
        have HCS2 := Lib.hid hcs
        have HBL2 := Lib.hid hbl
        have lb2 := hcs.lt
        have hz2 := hbl.size
        obtain ⟨k0, k1, k2, k3, k4⟩ := hier_five hcs
        obtain ⟨b1', o1', ea1, lb1, cc1⟩ := see_one (f := fun (n : Nat) => Value.int .u32 n) (SEE.out.below HBL2.out).upF (by omega)
        have ch := cc1 (r + 1) hi HHI.out
        rw [ea1] at k1
        have hplb : lo + j ≤ 1048576 := by have := HTOT.out; omega
        clear hgj hown hnew hcs hbl cc1 ea1
        by_cases hjl : lo + j < hi
        · have d1 : decide ((lo : Int) + (j : Int) < (hi : Int)) = true := by simp; omega
          go_wp2_with (at_builtin; refine wpList_app _ rfl _ _ 28 rfl 3 (.int .i64 0) 1 8 Tryz.underlying28 Tryz.infoInt rfl (by decide) (.slice ao2 (lo + j) cap2) (lo + j) (M.flatMap i64Cells) rfl ?own ⟨wr.heap.size, 0, none⟩ 1 1 (i64Cells r) rfl rfl ?c1 ?c2 ?c3 ?c4 ?_)
          case own => exact own_kept (bs := []) HOWN2.out ((Only.refl _ wr).alloc _) (fun q _ => by simp)
          case c1 => exact cells_new wr 3 (i64Cells r)
          case c2 => intro u hu; simp [i64Cells] at hu; subst hu; rfl
          case c3 => unfold maxLen; omega
          case c4 => omega
          intro ao5 cap5 w5 hown5 ho5 hk5
          have hbw := HBL2.out.alloc hz2 (.cells #[.int .i64 r] 3)
          have hnew5 : ∀ x, (Value.slice ao5 (lo + j + 1) cap5).ownBlock = some x → w.heap.size < x := by
            intro x hx
            rcases hk5 x hx with h1 | h1
            · exact HNEW2.out x h1
            · first | omega | (simp at h1; omega)
          have hbl5 : Below w.heap.size w w5 := hbw.trans (ho5.below hbw.size (fun q hq => Nat.le_of_lt (HNEW2.out q (by simpa using hq))))
          have hcs5 := (HCS2.out.alloc (.cells #[.int .i64 r] 3)).kept ho5 (fun hq => by have := HNEW2.out _ (by simpa using hq); omega)
          rw [show M.flatMap i64Cells ++ i64Cells r = (M ++ [r]).flatMap i64Cells by rw [List.flatMap_append]; simp] at hown5
          have O5 := Lib.hid hown5
          have N5 := Lib.hid hnew5
          have B5 := Lib.hid hbl5
          have C5 := Lib.hid hcs5
          clear hown5 ho5 hk5 hnew5 hbl5 hbw hcs5
          go_wp2_with fail
          go_roundg (hi - lo - (j + 1))
          case measure => rw [HGJ.out]; omega
          case rel => exact ⟨j + 1, ao5, cap5, M ++ [r], by rw [HM.out, List.replicate_succ', List.append_assoc], by go_num, by omega, rfl, rfl, O5.out, N5.out, C5.out, B5.out⟩
        · have d1 : decide ((lo : Int) + (j : Int) < (hi : Int)) = false := by simp; omega
          obtain rfl : j = hi - lo := by omega
          go_wp2_with fail
          go_roundg (h.node.length - (r + 1))
          case measure => rw [HG.out]; omega
          case rel =>
            have e1 : lo + (hi - lo) = h.upF.getD (r + 1) 0 := by rw [GHI.out]; omega
            have e2 : M = (List.range (r + 1)).flatMap (repR h.upF) := by
              rw [HM.out]
              have := rep_step [] h.upF r
              rw [GLO.out, GHI.out] at this
              simpa using this.symm
            have h1 := HOWN2.out
            have h2 := HNEW2.out
            rw [e1] at h1
            rw [e1] at h2
            exact ⟨r + 1, ao2, cap2, M, e2, by go_num, by omega, rfl, by rw [e1], h1, h2, HCS2.out, HBL2.out⟩
    · obtain rfl : r = h.node.length := by omega
      have d0 : decide ((h.node.length : Int) + 1 < (h.upF.length : Int)) = false := by have := HFL.out; simp; omega
      go_wp2_with fail
      go_loopg [3, 6] h.node.length (fun g vl vr wr => ∃ (r : Nat) (ao : Option Addr) (cap : Nat) (L : List Nat), L = (List.range h.node.length).flatMap (repR h.upF) ++ (List.range r).flatMap (repR h.dnF) ∧ vr = .int .i64 r ∧ r ≤ h.node.length ∧ g = h.node.length - r ∧ vl = .slice ao (h.up.length + h.dnF.getD r 0) cap ∧
          wr.ownsRow 0 3 1 (.slice ao (h.up.length + h.dnF.getD r 0) cap) (h.up.length + h.dnF.getD r 0) (L.flatMap i64Cells) ∧ (∀ b, (Value.slice ao (h.up.length + h.dnF.getD r 0) cap).ownBlock = some b → w.heap.size < b) ∧
          Cells wr w.heap.size 25 (hierCells A h) ∧ Below w.heap.size w wr)
      case atStart => 
          have h1 := HOWN.out
          have h2 := HNEW.out
          rw [UOK.out.last] at h1 h2
          exact ⟨0, ao, cap, L, by rw [HL.out]; simp, rfl, Nat.zero_le _, rfl, by rw [DOK.out.zero, UOK.out.last]; rfl, by rw [DOK.out.zero]; exact h1, by rw [DOK.out.zero]; exact h2, HCS.out, HBL.out⟩
      case round =>
        obtain ⟨r, ao, cap, L, hL, rfl, hr, hg, rfl, hown, hnew, hcs, hbl⟩ := hrel
        have HL := Lib.hid hL
        clear hL
        have HG := Lib.hid hg
        have HOWN := Lib.hid hown
        have HNEW := Lib.hid hnew
        have HCS := Lib.hid hcs
        have HBL := Lib.hid hbl
        have lb := hcs.lt
        obtain ⟨k0, k1, k2, k3, k4⟩ := hier_five hcs
        have hfl : h.dnF.length = h.node.length + 1 := DOK.out.len
        have HFL := Lib.hid hfl
        clear hg hown hnew hcs hbl hfl
        by_cases hrn : r < h.node.length
        · have d0 : decide ((r : Int) + 1 < (h.dnF.length : Int)) = true := by have := HFL.out; simp; omega
          obtain ⟨lo, hlo⟩ : ∃ lo, h.dnF[r]? = some lo := ⟨_, List.getElem?_eq_getElem (by have := HFL.out; omega)⟩
          obtain ⟨hi, hhi⟩ : ∃ hi, h.dnF[r + 1]? = some hi := ⟨_, List.getElem?_eq_getElem (by have := HFL.out; omega)⟩
          have glo : h.dnF.getD r 0 = lo := by rw [List.getD_eq_getElem?_getD, hlo]; rfl
          have ghi : h.dnF.getD (r + 1) 0 = hi := by rw [List.getD_eq_getElem?_getD, hhi]; rfl
          have hlh : lo ≤ hi := by rw [← glo, ← ghi]; exact DOK.out.mono r hrn
          have hhl : hi ≤ h.dn.length := by rw [← ghi]; exact DOK.out.le (r + 1) (by omega)
          have su := SEE.out.below HBL.out
          obtain ⟨b1, o1, ea1, lb1, cc1⟩ := see_one (f := fun (n : Nat) => Value.int .u32 n) su.dnF (by have := HFL.out; omega)
          have HCC := Lib.hid cc1
          have HLO := Lib.hid hlo
          have HHI := Lib.hid hhi
          have GLO := Lib.hid glo
          have GHI := Lib.hid ghi
          have HEA := Lib.hid ea1
          have cl := cc1 r lo hlo
          have hil : r < h.dnF.length := by have := HFL.out; omega
          have hil1 : r + 1 < h.dnF.length := by have := HFL.out; omega
          rw [ea1] at k3
          clear hlo hhi glo ghi su cc1 ea1
          go_wp2_with fail
          obtain ⟨wo, hwo⟩ : ∃ wo : World, wo = wr := ⟨_, rfl⟩
          go_loopg [3, 7] (hi - lo) (fun g vl vi wr2 => ∃ (j : Nat) (ao2 : Option Addr) (cap2 : Nat) (M : List Nat), M = (List.range h.node.length).flatMap (repR h.upF) ++ (List.range r).flatMap (repR h.dnF) ++ List.replicate j r ∧ vi = .int .u32 (lo + j : Nat) ∧ j ≤ hi - lo ∧ g = hi - lo - j ∧ vl = .slice ao2 (h.up.length + lo + j) cap2 ∧
            wr2.ownsRow 0 3 1 (.slice ao2 (h.up.length + lo + j) cap2) (h.up.length + lo + j) (M.flatMap i64Cells) ∧ (∀ b, (Value.slice ao2 (h.up.length + lo + j) cap2).ownBlock = some b → w.heap.size < b) ∧
            Cells wr2 w.heap.size 25 (hierCells A h) ∧ Below w.heap.size w wr2)
          case atStart =>
            have h1 := HOWN.out
            have h2 := HNEW.out
            rw [GLO.out] at h1 h2
            exact ⟨0, ao, cap, L, by rw [HL.out]; simp, rfl, Nat.zero_le _, rfl, by rw [GLO.out]; rfl, h1, h2, HCS.out, HBL.out⟩
          case round =>
            obtain ⟨j, ao2, cap2, M, hM, rfl, hj, hgj, rfl, hown, hnew, hcs, hbl⟩ := hrel
            have HM := Lib.hid hM
            clear hM
            have HGJ := Lib.hid hgj
            have HOWN2 := Lib.hid hown
            have HNEW2 := Lib.hid hnew
            have HCS2 := Lib.hid hcs
            have HBL2 := Lib.hid hbl
            have lb2 := hcs.lt
            have hz2 := hbl.size
            obtain ⟨k0, k1, k2, k3, k4⟩ := hier_five hcs
            obtain ⟨b1', o1', ea1, lb1, cc1⟩ := see_one (f := fun (n : Nat) => Value.int .u32 n) (SEE.out.below HBL2.out).dnF (by omega)
            have ch := cc1 (r + 1) hi HHI.out
            rw [ea1] at k3
            have hplb : h.up.length + lo + j ≤ 1048576 := by have := HTOT.out; omega
            clear hgj hown hnew hcs hbl cc1 ea1
            by_cases hjl : lo + j < hi
            · have d1 : decide ((lo : Int) + (j : Int) < (hi : Int)) = true := by simp; omega
              go_wp2_with (at_builtin; refine wpList_app _ rfl _ _ 28 rfl 3 (.int .i64 0) 1 8 Tryz.underlying28 Tryz.infoInt rfl (by decide) (.slice ao2 (h.up.length + lo + j) cap2) (h.up.length + lo + j) (M.flatMap i64Cells) rfl ?own ⟨wr.heap.size, 0, none⟩ 1 1 (i64Cells r) rfl rfl ?c1 ?c2 ?c3 ?c4 ?_)
              case own => exact own_kept (bs := []) HOWN2.out ((Only.refl _ wr).alloc _) (fun q _ => by simp)
              case c1 => exact cells_new wr 3 (i64Cells r)
              case c2 => intro u hu; simp [i64Cells] at hu; subst hu; rfl
              case c3 => unfold maxLen; omega
              case c4 => omega
              intro ao5 cap5 w5 hown5 ho5 hk5
              have hbw := HBL2.out.alloc hz2 (.cells #[.int .i64 r] 3)
              have hnew5 : ∀ x, (Value.slice ao5 (h.up.length + lo + j + 1) cap5).ownBlock = some x → w.heap.size < x := by
                intro x hx
                rcases hk5 x hx with h1 | h1
                · exact HNEW2.out x h1
                · first | omega | (simp at h1; omega)
              have hbl5 : Below w.heap.size w w5 := hbw.trans (ho5.below hbw.size (fun q hq => Nat.le_of_lt (HNEW2.out q (by simpa using hq))))
              have hcs5 := (HCS2.out.alloc (.cells #[.int .i64 r] 3)).kept ho5 (fun hq => by have := HNEW2.out _ (by simpa using hq); omega)
              rw [show M.flatMap i64Cells ++ i64Cells r = (M ++ [r]).flatMap i64Cells by rw [List.flatMap_append]; simp] at hown5
              have O5 := Lib.hid hown5
              have N5 := Lib.hid hnew5
              have B5 := Lib.hid hbl5
              have C5 := Lib.hid hcs5
              clear hown5 ho5 hk5 hnew5 hbl5 hbw hcs5
              go_wp2_with fail
              go_roundg (hi - lo - (j + 1))
              case measure => rw [HGJ.out]; omega
              case rel => exact ⟨j + 1, ao5, cap5, M ++ [r], by rw [HM.out, List.replicate_succ', List.append_assoc], by go_num, by omega, rfl, rfl, O5.out, N5.out, C5.out, B5.out⟩
            · have d1 : decide ((lo : Int) + (j : Int) < (hi : Int)) = false := by simp; omega
              obtain rfl : j = hi - lo := by omega
              go_wp2_with fail
              go_roundg (h.node.length - (r + 1))
              case measure => rw [HG.out]; omega
              case rel =>
                have e1 : h.up.length + lo + (hi - lo) = h.up.length + h.dnF.getD (r + 1) 0 := by rw [GHI.out]; omega
                have e2 : M = (List.range h.node.length).flatMap (repR h.upF) ++ (List.range (r + 1)).flatMap (repR h.dnF) := by
                  rw [HM.out]
                  have := rep_step ((List.range h.node.length).flatMap (repR h.upF)) h.dnF r
                  rw [GLO.out, GHI.out] at this
                  exact this.symm
                have h1 := HOWN2.out
                have h2 := HNEW2.out
                rw [e1] at h1
                rw [e1] at h2
                exact ⟨r + 1, ao2, cap2, M, e2, by go_num, by omega, rfl, by rw [e1], h1, h2, HCS2.out, HBL2.out⟩
        · obtain rfl : r = h.node.length := by omega
          have d0 : decide ((h.node.length : Int) + 1 < (h.dnF.length : Int)) = false := by have := HFL.out; simp; omega
          go_wp2
          go_returns
          have hO := HOWN.out
          have hr := ranksL_eq UOK.out DOK.out
          rw [← HL.out] at hr
          rw [DOK.out.last, ← hr] at hO
          have hS := See.of_own i64Cells_len hO (by omega)
          have hE : (Ending.returned (.slice ao (h.up.length + h.dnF.getD h.node.length 0) cap)) = .returned (.slice ao (ranksL h).length cap) := by rw [DOK.out.last, hS.2]
          exact ⟨ao, cap, hE, hS.1, HBL.out⟩
end Go.Proofs.YtchhbgckonpedaaGreatDoor
/- The reference's EndOf. -/
namespace Go.Proofs.YtchhbgckonpedaaGreatDoor
open Go.ChangeShapes Go.WideShapes Go.ChangeAt Go.RowKit Go.Joins Go.Deep
theorem rlink_at (A : HA) (h : HierD) (i : Nat) (x : LinkD) (w : World) (see : HSee w A h) (hx : linkAt h i = x) (hi : i < h.up.length + h.dn.length) (hd63 : h.dn.length ≤ 1048576) :
    Calls Tryz.prog 29 #[hierVal A h, .int .i64 i] w (LinkIs x w) := hx ▸ rlink_any A h i w see hi hd63
theorem Tryz.fieldLink0 (a b c d : Int) (w : World) : (Instr.field 65 (.agg #[.int .u32 a, .int .u64 b, .int .u32 c, .int .u32 d]) 0).run Tryz.prog w = .ok (.int .u32 a) w := by kernel_rfl
def rendVal (x : EndD) : Value := .agg #[.int .i64 x.tail, .int .i64 x.head, .int .i64 x.rank]
def REndIs (x : EndD) (w : World) (e : Ending) (w' : World) : Prop := e = .returned (rendVal x) ∧ Below w.heap.size w w'
theorem Tryz.sizeREnd : (Tryz.prog.info? 59).map (·.size) = some 3 := by kernel_rfl
theorem ranks_get {h : HierD} (i : Nat) (hi : i < (endsOf h).length) : (ranksL h)[i]? = some ((endsOf h).getD i default).rank := by
  unfold ranksL
  rw [List.getElem?_map, List.getD_eq_getElem?_getD, List.getElem?_eq_getElem hi]
  rfl
set_option maxRecDepth 100000 in
set_option maxHeartbeats 1000000 in
theorem rendof_any (A : HA) (h : HierD) (i : Nat) (ra : Option Addr) (rc : Nat) (w : World) (see : HSee w A h) (sr : See w ra rc i64Cells 1 (ranksL h)) (u : FirstsOk h.node.length h.upF h.up.length) (d : FirstsOk h.node.length h.dnF h.dn.length) (htot : h.up.length + h.dn.length ≤ 1048576) (hi : i < h.up.length + h.dn.length) :
    Calls Tryz.prog 55 #[hierVal A h, .slice ra (ranksL h).length rc, .int .i64 i] w (REndIs ((endsOf h).getD i default) w) := by
  have hlen := endsOf_length u d
  have hrl : (ranksL h).length = (endsOf h).length := by unfold ranksL; simp
  have hil : i < (ranksL h).length := by omega
  have hget := ranks_get (h := h) i (by omega)
  have hlk := (ends_link u d i hi).symm
  have htl := ends_tail u d i hi
  simp only at htl
  have hto : (linkAt h i).to < 4294967296 := by
    unfold linkAt
    split
    · rename_i h1
      rw [List.getD_eq_getElem?_getD, List.getElem?_eq_getElem h1]
      exact (see.bup _ (List.getElem_mem h1)).1
    · rename_i h1
      rw [List.getD_eq_getElem?_getD, List.getElem?_eq_getElem (by omega)]
      exact (see.bdn _ (List.getElem_mem _)).1
  rw [hlk] at hto
  generalize (endsOf h).getD i default = X at *
  obtain ⟨b2, o2, rfl, lb2, cc2⟩ := see_one (f := fun (n : Nat) => Value.int .i64 n) sr (by omega)
  have c2 := cc2 i X.rank hget
  have hd63 : h.dn.length ≤ 1048576 := by omega
  have SEE := Lib.hid see
  have HLK := Lib.hid hlk
  have HTL := Lib.hid htl
  have hX0 := (Cells.new w 25 (hierCells A h)).alloc (.cells #[.int .i64 0, .int .i64 0, .int .i64 0] 59)
  have hR0 : Cells ((w.alloc (.cells (hierCells A h).toArray 25)).alloc (.cells #[.int .i64 0, .int .i64 0, .int .i64 0] 59)) (w.heap.size + 1) 59 [.int .i64 0, .int .i64 0, .int .i64 0] := cells_at (by simp) _ _
  have HB0 := Lib.hid (((Below.refl w.heap.size w).alloc (Nat.le_refl _) (.cells (hierCells A h).toArray 25)).alloc (by simp) (.cells #[.int .i64 0, .int .i64 0, .int .i64 0] 59))
  have HX0 := Lib.hid hX0
  have HR0 := Lib.hid hR0
  clear see sr u d hlen hrl hget hlk htl cc2 hX0 hR0 htot
  unfold hierVal
  have hfd := Tryz.fieldLink0
  go_enter Tryz.func55, Tryz.ntmps55
  go_wp2_with fail
  refine (rlink_at A h i X.link _ (SEE.out.below HB0.out) HLK.out (by omega) hd63).mono ?_
  rintro e w1 ⟨rfl, hb⟩
  have hb1 : Below w.heap.size w w1 := HB0.out.trans (hb.mono HB0.out.size)
  have hx1 := HX0.out.below hb HX0.out.lt
  have hr1 := HR0.out.below hb HR0.out.lt
  obtain ⟨k0, k1, k2, k3, k4⟩ := hier_five hx1
  have f0 := hr1.frozen 0
  have f1 := hr1.frozen 1
  have f2 := hr1.frozen 2
  have q0 : w1.cell? ⟨w.heap.size + 1, 0, none⟩ = some (.int .i64 0) := hr1.cell rfl
  have q1 : w1.cell? ⟨w.heap.size + 1, 1, none⟩ = some (.int .i64 0) := hr1.cell rfl
  have q2 : w1.cell? ⟨w.heap.size + 1, 2, none⟩ = some (.int .i64 0) := hr1.cell rfl
  have c1 : w1.cell? ⟨b2, o2 + i, none⟩ = some (.int .i64 X.rank) := ck hb1 c2
  have lr := hr1.lt
  have lb1 : b2 < w1.heap.size := block_lt c1
  have HB1 := Lib.hid hb1
  have HR1 := Lib.hid hr1
  clear hb hb1 hx1 hr1 c2 HX0 HR0 HB0
  unfold linkVal
  by_cases hu : i < h.up.length
  · have d0 : decide (i < h.up.length) = true := by simpa using hu
    have ht := HTL.out
    rw [if_pos hu] at ht
    have HT := Lib.hid ht
    clear ht hu
    go_wp2_with fail
    go_still_tail 10, (by kernel_rfl)
    change wpList _ _ _ _ _ w1.drew
    go_wp2
    refine bodyPost_ret (results_e rfl _ _ (w.heap.size + 1) 59 [.int .i64 X.rank, .int .i64 X.link.to, .int .i64 X.rank] _ rfl (((HR1.out.set 0 _).set 1 _).set 2 _).drew Tryz.underlying59 rfl (by rw [Tryz.sizeREnd]; rfl)) rfl ?_
    refine ⟨by unfold rendVal; rw [HT.out.1, HT.out.2], ?_⟩
    exact (((HB1.out.setCell (p := ⟨w.heap.size + 1, 0, none⟩) (by simp) _).setCell (p := ⟨w.heap.size + 1, 1, none⟩) (by simp) _).setCell (p := ⟨w.heap.size + 1, 2, none⟩) (by simp) _).drew
  · have d0 : decide (i < h.up.length) = false := by simpa using hu
    have ht := HTL.out
    rw [if_neg hu] at ht
    have HT := Lib.hid ht
    clear ht hu
    go_wp2_with fail
    go_still_tail 10, (by kernel_rfl)
    change wpList _ _ _ _ _ w1.drew
    go_wp2
    refine bodyPost_ret (results_e rfl _ _ (w.heap.size + 1) 59 [.int .i64 X.link.to, .int .i64 X.rank, .int .i64 X.rank] _ rfl (((HR1.out.set 0 _).set 1 _).set 2 _).drew Tryz.underlying59 rfl (by rw [Tryz.sizeREnd]; rfl)) rfl ?_
    refine ⟨by unfold rendVal; rw [HT.out.1, HT.out.2], ?_⟩
    exact (((HB1.out.setCell (p := ⟨w.heap.size + 1, 0, none⟩) (by simp) _).setCell (p := ⟨w.heap.size + 1, 1, none⟩) (by simp) _).setCell (p := ⟨w.heap.size + 1, 2, none⟩) (by simp) _).drew
end Go.Proofs.YtchhbgckonpedaaGreatDoor
