/- The contract of query's meet. -/
import Derived.Test.YtjbphoophgbmiaaQuery1
import Derived.Laws.ResultCell
import Derived.Laws.Rows
namespace Go.Proofs.Ytjbphoophgbmiaa
open Go.ChangeShapes Go.WideShapes Go.ChangeAt Go.RowKit Go.Joins Go.Deep

/-- Results, the first of which lies in a block of its own. -/
theorem results_ct {P : Program} {fn : Func} {p u : Tmp} {ty : TypeId} (h : fn.results = #[.cell p ty, .tmp u]) (tmps : Array Value) (w : World) (g : Nat) (t : TypeId) (cs : List Value) (d : TypeDesc)
    (hp : tmps.getD p undef = .pointer (some ⟨g, 0, none⟩)) (hg : Cells w g t cs)
    (hu : P.underlying ty = some d) (hd : (match d with | .struct _ | .array _ _ => true | _ => false) = true) (hi : (P.info? ty).map (·.size) = some cs.length) :
    (results fn tmps).run P w = .ok (.tuple #[.agg cs.toArray, tmps.getD u undef]) w := by
  have hp' : tmps[p]?.getD undef = .pointer (some ⟨g, 0, none⟩) := by simpa using hp
  have hr := run_loadVar_row (P := P) w g t ty cs.toArray (0, 0) d hg hu hd (by simpa using hi)
  simp [results, h, hp', asAddr, hr]

def nodesErr (n : Nat) (s t : Int) : EV := if s < 0 ∨ (n : Int) ≤ s then .at 3 0 7 else if t < 0 ∨ (n : Int) ≤ t then .at 3 1 7 else .nil
/-- What meet answers. -/
inductive MeetIs (h : HierD) (s t : Int) : Nat → Int → EV → Prop
  | form (e : checkErr h ≠ .nil) : MeetIs h s t 0 0 (checkErr h)
  | nodes (e : checkErr h = .nil) (k : nodesErr h.node.length s t ≠ .nil) : MeetIs h s t 0 0 (nodesErr h.node.length s t)
  | walk (D E : Nat → Option Int) (r : Nat) (d : Int) (e : checkErr h = .nil) (k : nodesErr h.node.length s t = .nil) (hD : IsD h.node.length h.upF h.up (h.node.idxOf s.toNat) D) (hE : IsD h.node.length h.dnF h.dn (h.node.idxOf t.toNat) E)
      (hm : meetTo D E h.node.length = (r, d)) (hd : d ≠ 18446744073709551615) : MeetIs h s t r d .nil
  | none (D E : Nat → Option Int) (e : checkErr h = .nil) (k : nodesErr h.node.length s t = .nil) (hD : IsD h.node.length h.upF h.up (h.node.idxOf s.toNat) D) (hE : IsD h.node.length h.dnF h.dn (h.node.idxOf t.toNat) E)
      (hd : (meetTo D E h.node.length).2 = 18446744073709551615) : MeetIs h s t 0 0 (.code 16)
def bestVal (r : Nat) (d : Int) : Value := .agg #[.int .i64 r, .int .u64 d]
def MeetPost (h : HierD) (s t : Int) (w : World) (e : Ending) (w' : World) : Prop :=
  ∃ r d x v, e = .returned (.tuple #[bestVal r d, v]) ∧ ErrIs w' v x ∧ MeetIs h s t r d x ∧ Below w.heap.size w w'
theorem Try.sizeBest : (Try.prog.info? 67).map (·.size) = some 2 := by kernel_rfl

theorem ErrIs.set2 {w : World} {v : Value} {x : EV} {B : Nat} {l : List Value} {a b : Value} (h : ErrIs w v x) (hc : Cells w B 67 l) : ErrIs ((w.setCell ⟨B, 0, none⟩ a).setCell ⟨B, 1, none⟩ b) v x := by
  cases x with
  | nil => exact h
  | code n => exact h
  | «at» k i n =>
    obtain ⟨g, e, hg⟩ := h
    have hne : g ≠ B := by
      rintro rfl
      have := (show w.heap[g]? = _ from hg).symm.trans hc
      simp at this
    exact ⟨g, e, (hg.other (a := ⟨B, 0, none⟩) hne _).other (a := ⟨B, 1, none⟩) hne _⟩

set_option maxRecDepth 100000 in
theorem meet_form (A : HA) (h : HierD) (s t : Int) (w : World) (see : HSee w A h) (hc : checkErr h ≠ .nil) : Calls Try.prog 27 #[hierVal A h, .int .i64 s, .int .i64 t] w (MeetPost h s t w) := by
  have SEE := Lib.hid see
  have HC := Lib.hid hc
  clear see hc
  unfold hierVal
  go_enter Try.func27, Try.ntmps27
  go_wp2_with fail
  refine (ranks_any A h _ (SEE.out.below (((Below.refl _ _).alloc (Nat.le_refl _) _).alloc (by simp) _))).mono ?_
  rintro e w1 (⟨v, rfl, hv, -, hb⟩ | ⟨b, rfl, hc, -⟩)
  · obtain ⟨tt, u, rfl⟩ := hv.iface HC.out
    have hcs := (Cells.new (w.alloc (.cells (hierCells A h).toArray 25)) 67 [.int .i64 0, .int .u64 0]).below hb (by simp)
    rw [World.size_alloc] at hcs
    have c0 : w1.cell? ⟨w.heap.size + 1, 0, none⟩ = some (.int .i64 0) := hcs.cell rfl
    have c1 : w1.cell? ⟨w.heap.size + 1, 1, none⟩ = some (.int .u64 0) := hcs.cell rfl
    have f0 := hcs.frozen 0
    have f1 := hcs.frozen 1
    have lb := hcs.lt
    have HV := Lib.hid hv
    have HCS := Lib.hid hcs
    have HB := Lib.hid ((((Below.refl w.heap.size w).alloc (Nat.le_refl _) _).alloc (by simp) _).trans (hb.mono (by simp; omega)))
    clear hv hb hcs
    go_wp2_with fail
    refine bodyPost_ret (results_ct rfl _ _ (w.heap.size + 1) 67 [.int .i64 0, .int .u64 0] _ rfl ((HCS.out.set 0 _).set 1 _) Try.underlying67 rfl (by rw [Try.sizeBest]; rfl)) rfl ?_
    exact ⟨0, 0, _, _, rfl, HV.out.set2 HCS.out, .form HC.out, (HB.out.setCell (p := ⟨w.heap.size + 1, 0, none⟩) (by simp) _).setCell (p := ⟨w.heap.size + 1, 1, none⟩) (by simp) _⟩
  · exact absurd hc HC.out

set_option maxRecDepth 100000 in
theorem meet_nodes (A : HA) (h : HierD) (s t : Int) (w : World) (see : HSee w A h) (hc : checkErr h = .nil) (hk : nodesErr h.node.length s t ≠ .nil) (hs64 : s ≤ 9223372036854775807) (ht64 : t ≤ 9223372036854775807) : Calls Try.prog 27 #[hierVal A h, .int .i64 s, .int .i64 t] w (MeetPost h s t w) := by
  have SEE := Lib.hid see
  have HC := Lib.hid hc
  have hn := (checkErr_parts hc).1.n
  have HK := Lib.hid hk
  clear see hc hk
  unfold hierVal
  go_enter Try.func27, Try.ntmps27
  go_wp2_with fail
  refine (ranks_any A h _ (SEE.out.below (((Below.refl _ _).alloc (Nat.le_refl _) _).alloc (by simp) _))).mono ?_
  rintro e w1 (⟨v, rfl, hv, hcc, hb⟩ | ⟨b, rfl, -, hbb, hrk, hb⟩)
  · exact absurd HC.out hcc
  have hcs := (Cells.new (w.alloc (.cells (hierCells A h).toArray 25)) 67 [.int .i64 0, .int .u64 0]).below hb (by simp)
  rw [World.size_alloc] at hcs
  have lb := hcs.lt
  have HCS := Lib.hid hcs
  have HB := Lib.hid ((((Below.refl w.heap.size w).alloc (Nat.le_refl _) _).alloc (by simp) _).trans (hb.mono (by simp; omega)))
  clear hb hcs hrk hbb
  by_cases h0 : s < 0 ∨ (h.node.length : Int) ≤ s
  · have hans : nodesErr h.node.length s t = .at 3 0 7 := if_pos h0
    have HANS := Lib.hid hans
    clear hans
    have hd : (decide (s < 0) = true) ∨ (decide (s < 0) = false ∧ decide ((h.node.length : Int) ≤ s) = true) := by
      by_cases h1 : s < 0
      · exact .inl (by simpa using h1)
      · exact .inr ⟨by simpa using h1, by simp; omega⟩
    clear h0
    rcases hd with d1 | ⟨d1, d2⟩
    all_goals
      go_wp2_with fail
      go_loopg [30] 2 (fun g vi wr => vi = .int .i64 0 ∧ g = 2 ∧ wr = w1.alloc (.cells #[.int .i64 s, .int .i64 t] 3))
      case atStart => exact ⟨rfl, rfl, rfl⟩
      case round =>
        obtain ⟨rfl, hg, rfl⟩ := hrel
        go_wp2_with fail
        refine (at_any 3 0 7 _).mono ?_
        rintro e w2 ⟨v, rfl, hv, hb2⟩
        have hcs2 := (HCS.out.alloc (.cells #[.int .i64 s, .int .i64 t] 3)).below hb2 (by simp; omega)
        have c0 : w2.cell? ⟨w.heap.size + 1, 0, none⟩ = some (.int .i64 0) := hcs2.cell rfl
        have c1 : w2.cell? ⟨w.heap.size + 1, 1, none⟩ = some (.int .u64 0) := hcs2.cell rfl
        have f0 := hcs2.frozen 0
        have f1 := hcs2.frozen 1
        have lb2 := hcs2.lt
        have HCS2 := Lib.hid hcs2
        have HV := Lib.hid hv
        have HB2 := Lib.hid ((HB.out.alloc HB.out.size _).trans (hb2.mono (by have := HB.out.size; simp; omega)))
        clear hb2 hv hcs2
        go_wp2
        refine bodyPost_ret (results_ct rfl _ _ (w.heap.size + 1) 67 [.int .i64 0, .int .u64 0] _ rfl ((HCS2.out.set 0 _).set 1 _) Try.underlying67 rfl (by rw [Try.sizeBest]; rfl)) rfl ?_
        refine ⟨0, 0, nodesErr h.node.length s t, _, rfl, ?_, .nodes HC.out HK.out, (HB2.out.setCell (p := ⟨w.heap.size + 1, 0, none⟩) (by simp) _).setCell (p := ⟨w.heap.size + 1, 1, none⟩) (by simp) _⟩
        rw [HANS.out]
        exact HV.out.set2 HCS2.out
  · have e1 : decide (s < 0) = false := by simp; omega
    have e2 : decide ((h.node.length : Int) ≤ s) = false := by simp; omega
    have ht : t < 0 ∨ (h.node.length : Int) ≤ t := by
      have := HK.out
      unfold nodesErr at this
      rw [if_neg h0] at this
      apply Classical.byContradiction
      intro hnt
      rw [if_neg hnt] at this
      exact this rfl
    have hans : nodesErr h.node.length s t = .at 3 1 7 := (if_neg h0).trans (if_pos ht)
    have HANS := Lib.hid hans
    clear hans
    have hd : (decide (t < 0) = true) ∨ (decide (t < 0) = false ∧ decide ((h.node.length : Int) ≤ t) = true) := by
      by_cases h1 : t < 0
      · exact .inl (by simpa using h1)
      · exact .inr ⟨by simpa using h1, by simp; omega⟩
    clear h0 ht
    rcases hd with d1 | ⟨d1, d2⟩
    all_goals
      go_wp2_with fail
      go_loopg [30] 2 (fun g vi wr => ∃ k : Nat, vi = .int .i64 k ∧ k ≤ 1 ∧ g = 2 - k ∧ wr = w1.alloc (.cells #[.int .i64 s, .int .i64 t] 3))
      case atStart => exact ⟨0, rfl, by omega, rfl, rfl⟩
      case round =>
        obtain ⟨k, rfl, hk, hg, rfl⟩ := hrel
        rcases (by omega : k = 0 ∨ k = 1) with rfl | rfl
        · go_wp2_with fail
          go_roundg 1
          case measure => omega
          case rel => exact ⟨1, rfl, by omega, rfl, rfl⟩
        · go_wp2_with fail
          refine (at_any 3 1 7 _).mono ?_
          rintro e w2 ⟨v, rfl, hv, hb2⟩
          have hcs2 := (HCS.out.alloc (.cells #[.int .i64 s, .int .i64 t] 3)).below hb2 (by simp; omega)
          have c0 : w2.cell? ⟨w.heap.size + 1, 0, none⟩ = some (.int .i64 0) := hcs2.cell rfl
          have c1 : w2.cell? ⟨w.heap.size + 1, 1, none⟩ = some (.int .u64 0) := hcs2.cell rfl
          have f0 := hcs2.frozen 0
          have f1 := hcs2.frozen 1
          have lb2 := hcs2.lt
          have HCS2 := Lib.hid hcs2
          have HV := Lib.hid hv
          have HB2 := Lib.hid ((HB.out.alloc HB.out.size _).trans (hb2.mono (by have := HB.out.size; simp; omega)))
          clear hb2 hv hcs2
          go_wp2
          refine bodyPost_ret (results_ct rfl _ _ (w.heap.size + 1) 67 [.int .i64 0, .int .u64 0] _ rfl ((HCS2.out.set 0 _).set 1 _) Try.underlying67 rfl (by rw [Try.sizeBest]; rfl)) rfl ?_
          refine ⟨0, 0, nodesErr h.node.length s t, _, rfl, ?_, .nodes HC.out HK.out, (HB2.out.setCell (p := ⟨w.heap.size + 1, 0, none⟩) (by simp) _).setCell (p := ⟨w.heap.size + 1, 1, none⟩) (by simp) _⟩
          rw [HANS.out]
          exact HV.out.set2 HCS2.out
end Go.Proofs.Ytjbphoophgbmiaa
