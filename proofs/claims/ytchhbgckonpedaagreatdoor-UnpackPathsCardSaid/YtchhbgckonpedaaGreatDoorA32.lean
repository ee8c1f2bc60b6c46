/- The reference's Arcs and DocLinks. -/
import Derived.Test.YtchhbgckonpedaaGreatDoorA24
import Derived.Test.YtchhbgckonpedaaGreatDoorA28
import Derived.Test.YtchhbgckonpedaaGreatDoorA31
import Derived.Test.YtchhbgckonpedaaGreatDoorA19
import Derived.Deep.RegionLaw
namespace Go.Proofs.YtchhbgckonpedaaGreatDoor
open Go.ChangeShapes Go.WideShapes Go.ChangeAt Go.RowKit Go.Joins Go.Deep
theorem results_te3 {P : Program} {fn : Func} {p r : Tmp} {ty : TypeId} (h : fn.results = #[.tmp p, .cell r ty]) (tmps : Array Value) (w : World) (g : Nat) (t : TypeId) (cs : List Value) (d : TypeDesc)
    (hp : tmps.getD r undef = .pointer (some ⟨g, 0, none⟩)) (hg : Cells w g t cs)
    (hu : P.underlying ty = some d) (hd : (match d with | .struct _ | .array _ _ => true | _ => false) = true) (hi : (P.info? ty).map (·.size) = some cs.length) :
    (results fn tmps).run P w = .ok (.tuple #[tmps.getD p undef, .agg cs.toArray]) w := by
  have hp' : tmps[r]?.getD undef = .pointer (some ⟨g, 0, none⟩) := by simpa using hp
  have hr := run_loadVar_row (P := P) w g t ty cs.toArray (0, 0) d hg hu hd (by simpa using hi)
  simp [results, h, hp', asAddr, hr]
theorem rendCells_len (x : EndD) : (rendCells x).length = 3 := rfl
theorem Tryz.infoREnd : (Tryz.prog.info? 59).map (fun i => (i.zero, i.size, i.bytes)) = some (some (.agg #[.int .i64 0, .int .i64 0, .int .i64 0]), 3, 24) := by kernel_rfl
def ArcsNew (h : HierD) (w : World) (e : Ending) (w' : World) : Prop := ∃ ao cap, e = .returned (.slice ao (endsOf h).length cap) ∧ See w' ao cap rendCells 3 (endsOf h) ∧ (∀ b o, ao = some ⟨b, o, none⟩ → w.heap.size ≤ b) ∧ Below w.heap.size w w'
set_option maxRecDepth 100000 in
set_option maxHeartbeats 4000000 in
theorem arcs_any (A : HA) (h : HierD) (w : World) (see : HSee w A h) (u : FirstsOk h.node.length h.upF h.up.length) (d : FirstsOk h.node.length h.dnF h.dn.length) (hn : h.node.length ≤ 65536) (htot : h.up.length + h.dn.length ≤ 1048576) :
    Calls Tryz.prog 26 #[hierVal A h] w (ArcsNew h w) := by
  have hlen := endsOf_length u d
  have hrl : (ranksL h).length = (endsOf h).length := by unfold ranksL; simp
  have SEE := Lib.hid see
  have UOK := Lib.hid u
  have DOK := Lib.hid d
  have HX0 := Lib.hid (Cells.new w 25 (hierCells A h))
  have HB0 := Lib.hid ((Below.refl w.heap.size w).alloc (Nat.le_refl _) (.cells (hierCells A h).toArray 25))
  obtain ⟨k0, k1, k2, k3, k4⟩ := hier_five HX0.out
  have HLEN := Lib.hid hlen
  have HRL := Lib.hid hrl
  have hN : (endsOf h).length ≤ 1048576 := by omega
  clear see u d hlen hrl
  unfold hierVal
  go_enter Tryz.func26, Tryz.ntmps26
  go_wp2_with fail
  refine (rranks_any A h _ (SEE.out.below HB0.out) UOK.out DOK.out hn htot).mono ?_
  rintro e w1 ⟨ra, rc, rfl, sr, hb⟩
  rw [HRL.out]
  have SR := Lib.hid sr
  have HX := Lib.hid (HX0.out.below hb HX0.out.lt)
  have lz := HX.out.lt
  have HB := Lib.hid (HB0.out.trans (hb.mono HB0.out.size))
  clear sr hb HX0 HB0 k0 k1 k2 k3 k4
  obtain ⟨N, hNN⟩ : ∃ N, (endsOf h).length = N := ⟨_, rfl⟩
  rw [hNN]
  rw [hNN] at hN
  have HNN := Lib.hid hNN
  clear hNN
  go_wp2_with fail
  go_loopg [4, 10] N (fun g vm vi wr => ∃ (k : Nat) (ao2 : Option Addr) (cap2 : Nat), vi = .int .i64 k ∧ k ≤ N ∧ g = N - k ∧ vm = .slice ao2 k cap2 ∧
    wr.ownsRow 0 59 3 (.slice ao2 k cap2) k (((endsOf h).take k).flatMap rendCells) ∧ (∀ b, (Value.slice ao2 k cap2).ownBlock = some b → w1.heap.size ≤ b) ∧ Cells wr w.heap.size 25 (hierCells A h) ∧ Below w1.heap.size w1 wr)
  case atStart => exact ⟨0, none, 0, rfl, Nat.zero_le _, rfl, rfl, World.ownsRow_nil _ _ _ _, by simp [Value.ownBlock], HX.out, Below.refl _ _⟩
  case round =>
    obtain ⟨k, ao2, cap2, rfl, hk, hg, rfl, hown, hnew, hx, hbl⟩ := hrel
    obtain ⟨wo, rfl⟩ : ∃ wo : World, wo = wr := ⟨_, rfl⟩
    have HG := Lib.hid hg
    have HOWN := Lib.hid hown
    have HNEW := Lib.hid hnew
    have HX2 := Lib.hid hx
    have HBL := Lib.hid hbl
    clear hg hown hnew hx hbl HX
    by_cases hkl : k < N
    · obtain ⟨x, hx⟩ : ∃ x, (endsOf h)[k]? = some x := ⟨_, List.getElem?_eq_getElem (by rw [HNN.out]; exact hkl)⟩
      have hxd : (endsOf h).getD k default = x := by rw [List.getD_eq_getElem?_getD, hx]; rfl
      have HX := Lib.hid hx
      have HBW := Lib.hid (HB.out.trans (HBL.out.mono HB.out.size))
      obtain ⟨k0, k1, k2, k3, k4⟩ := hier_five HX2.out
      clear hx
      go_wp2_with fail
      have hrd := rendof_any A h k ra rc wo (SEE.out.below HBW.out) (SR.out.below HBL.out) UOK.out DOK.out htot (by have := HLEN.out; have := HNN.out; omega)
      rw [HRL.out, HNN.out, hxd] at hrd
      refine hrd.mono ?_
      rintro e w2 ⟨rfl, hb⟩
      have HB2 := Lib.hid hb
      have hbs := hb.size
      have hwo := HBL.out.size
      unfold rendVal
      clear hb hrd hxd k0 k1 k2 k3 k4
      have how := HOWN.out
      go_wp2_with (at_builtin; refine wpList_app _ rfl _ _ 56 rfl 59 (.agg #[.int .i64 0, .int .i64 0, .int .i64 0]) 3 24 Tryz.underlying56 Tryz.infoREnd rfl (by decide) (.slice ao2 k cap2) k (((endsOf h).take k).flatMap rendCells) rfl ?own ⟨w2.heap.size, 0, none⟩ 1 1 (rendCells x) rfl rfl ?c1 ?c2 ?c3 ?c4 ?_)
      case own => exact own_kept (bs := []) how ((Only.of_below HB2.out).alloc _) (fun q _ => by simp)
      case c1 => exact cells_new w2 59 (rendCells x)
      case c2 => intro u hu; simp [rendCells] at hu; rcases hu with rfl | rfl | rfl <;> rfl
      case c3 => unfold maxLen; omega
      case c4 => omega
      intro ao5 cap5 w5 hown5 ho5 hk5
      have hb1 := HBL.out.trans (HB2.out.mono HBL.out.size)
      have hbw := hb1.alloc hb1.size (.cells (rendCells x).toArray 59)
      have hnew5 : ∀ x, (Value.slice ao5 (k + 1) cap5).ownBlock = some x → w1.heap.size ≤ x := by
        intro x hx
        rcases hk5 x hx with h1 | h1
        · exact HNEW.out x h1
        · have := hbw.size; omega
      have hbl5 : Below w1.heap.size w1 w5 := hbw.trans (ho5.below hbw.size (fun q hq => HNEW.out q (by simpa using hq)))
      have hf5 : ((endsOf h).take k).flatMap rendCells ++ rendCells x = ((endsOf h).take (k + 1)).flatMap rendCells := by
        rw [List.take_add_one, HX.out, List.flatMap_append]
        simp
      rw [hf5] at hown5
      have hx5 := ((HX2.out.below HB2.out HX2.out.lt).alloc (.cells (rendCells x).toArray 59)).kept ho5 (by
        intro hm
        have h1 := HNEW.out _ (by simpa using hm)
        omega)
      have O5 := Lib.hid hown5
      have N5 := Lib.hid hnew5
      have B5 := Lib.hid hbl5
      have X5 := Lib.hid hx5
      clear hown5 ho5 hk5 hnew5 hbl5 hf5 hbw how hb1 hx5
      go_wp2_with fail
      go_roundg (N - (k + 1))
      case measure => rw [HG.out]; omega
      case rel => exact ⟨k + 1, ao5, cap5, by go_num, by omega, rfl, rfl, O5.out, N5.out, X5.out, B5.out⟩
    · obtain rfl : k = N := by omega
      go_wp2
      go_returns
      have hO := HOWN.out
      rw [List.take_of_length_le (by rw [HNN.out]; exact Nat.le_refl _)] at hO
      have hf := (See.of_own rendCells_len hO (by have := HNN.out; omega)).1
      exact ⟨ao2, cap2, congrArg (fun m => Ending.returned (.slice ao2 m cap2)) HNN.out.symm, hf, fun b o e => Nat.le_trans HB.out.size (HNEW.out b (by rw [e]; rfl)), HB.out.trans (HBL.out.mono HB.out.size)⟩
theorem step_app {P : Program} {ops : Array Oper} {o : Oper} {a : Act} {w : World} {K : Act → World → Prop} {Q : Exit → Act → World → Prop} {E : Prop} (hgd : o.guard = none) (s x : Operand) (t : TypeId)
    (ho : o.op = .call { callee := .builtin .append, args := #[s, x], argTypes := #[t, t] })
    (e : TypeId) (z : Value) (size bytes : Nat) (ht : P.underlying t = some (.slice e)) (hinfo : (P.info? e).map (fun i => (i.zero, i.size, i.bytes)) = some (some z, size, bytes)) (hzs : z.cells.size = size) (hsz : 0 < size)
    (v : Value) (n : Nat) (xs : List Value) (hs : a.eval s = v) (hown : w.ownsRow 0 e size v n xs)
    (ad : Addr) (m c : Nat) (news : List Value) (hx : a.eval x = .slice (some ad) m c) (hl : news.length = m * size) (hnews : ∀ j u, news[j]? = some u → w.cell? (ad.add j) = some u) (h1 : ∀ u ∈ news, u.oneCell' = true)
    (h63 : n + m ≤ maxLen) (hbytes : (n + m) * bytes ≤ 140737488355328)
    (h : ∀ ao cap w', w'.ownsRow 0 e size (.slice ao (n + m) cap) (n + m) (xs ++ news) → Only v.ownBlock.toList w w' → (∀ k, (Value.slice ao (n + m) cap).ownBlock = some k → v.ownBlock = some k ∨ w.heap.size ≤ k) → K (a.put o.dst (.slice ao (n + m) cap)) w') :
    if Region.wanted o (yielded ops a.tmps) = true then Oper.wp P o a w K Q else E := by
  have hw : Region.wanted o (yielded ops a.tmps) = true := by simp [Region.wanted, hgd]
  rw [if_pos hw]
  exact wp_app w s x t ho e z size bytes ht hinfo hzs hsz v n xs hs hown ad m c news hx hl hnews h1 h63 hbytes h
end Go.Proofs.YtchhbgckonpedaaGreatDoor
