/- csr.Build at a clean graph. -/
import Derived.Test.YtchhbgckonpedaaGreatDoorG33
import Derived.Test.YtchhbgckonpedaaGreatDoorG31
import Derived.Test.YtchhbgckonpedaaGreatDoorG30
namespace Go.Proofs.YtchhbgckonpedaaGreatDoor
open Go.ChangeShapes Go.WideShapes Go.ChangeAt Go.RowKit Go.Joins Go.Deep
def BuildPost (n : Nat) (l : List AF) (w : World) (e : Ending) (w' : World) : Prop :=
  ∃ (C : CA) (l' : List AF), e = .returned (.tuple #[csrVal C n l'.length, .nilIface]) ∧ l'.Perm l ∧ CsrOk n l' ∧ CSee w' C n l' ∧ Below w.heap.size w w'
set_option linter.unusedSimpArgs false in
set_option maxRecDepth 100000 in
set_option maxHeartbeats 8000000 in
theorem build_any (n : Nat) (ao : Option Addr) (cap : Nat) (l : List AF) (w : World) (see : See w ao cap arcCells 3 l) (hn : n ≤ 65536) (hl : l.length ≤ 262144) (hg : Clean n l) :
    Calls Tryz.prog 72 #[.agg #[.int .i64 (n : Int), .slice ao l.length cap]] w (BuildPost n l w) := by
  obtain ⟨N, hN⟩ : ∃ N, l.length = N := ⟨_, rfl⟩
  have hno := fun W s => norm_any n ao cap l W s hn hl hg
  rw [hN] at hl ⊢
  rw [hN] at hno
  have HNO := Lib.hid hno
  have SEE := Lib.hid see
  have HG := Lib.hid hg
  have HN := Lib.hid hN
  have hr0 := Cells.new (w.alloc (.cells #[.int .i64 (n : Int), .slice ao N cap] 52)) 145 [.slice none 0 0, .slice none 0 0, .slice none 0 0]
  rw [show (w.alloc (.cells #[.int .i64 (n : Int), .slice ao N cap] 52)).heap.size = w.heap.size + 1 by simp] at hr0
  have HR0 := Lib.hid hr0
  have HB0 := Lib.hid (((Below.refl w.heap.size w).alloc (Nat.le_refl _) (.cells #[.int .i64 (n : Int), .slice ao N cap] 52)).alloc (by simp) (.cells #[.slice none 0 0, .slice none 0 0, .slice none 0 0] 145))
  clear hr0 see hg hN hno
  go_enter Tryz.func72, Tryz.ntmps72
  go_wp2_with fail
  refine (HNO.out _ (SEE.out.below HB0.out)).mono ?_
  rintro e w1 ⟨a1, c1, l1, rfl, hp1, hs1, ho1, hb1⟩
  have hl1 : l1.length = N := by rw [hp1.length_eq, HN.out]
  have hg1 := HG.out.perm hp1
  have hfl := fun W s => flat_any n a1 c1 l1 W s hn (by rw [hl1]; exact hl) hg1.inG
  rw [hl1] at hfl ⊢
  have HFL := Lib.hid hfl
  have HOK := Lib.hid (CsrOk.mk hn (by rw [hl1]; exact hl) hg1 hs1)
  have SEE1 := Lib.hid ho1.see.1
  have HP1 := Lib.hid hp1
  have HL1 := Lib.hid hl1
  have HR1 := Lib.hid (HR0.out.below hb1 HR0.out.lt)
  have HB1 := Lib.hid (HB0.out.trans (hb1.mono HB0.out.size))
  have lr := (HR0.out.below hb1 HR0.out.lt).lt
  clear hl1 hg1 hfl hp1 hs1 ho1 hb1
  go_wp2_with fail
  refine (HFL.out _ (SEE1.out.alloc _)).mono ?_
  rintro e w2 ⟨fa, ta, wa, fc, tc, wc, rfl, hs1, hs2, hs3, hnew, hb2⟩
  have hb3 := ((Below.refl w1.heap.size w1).alloc (Nat.le_refl _) (.cells #[.int .i64 (n : Int), .slice a1 N c1] 52)).trans (hb2.mono (by simp))
  have hr2 := HR1.out.below hb3 HR1.out.lt
  have r0 : w2.cell? ⟨w.heap.size + 1, 0, none⟩ = some (.slice none 0 0) := hr2.cell rfl
  have r1 : w2.cell? ⟨w.heap.size + 1, 1, none⟩ = some (.slice none 0 0) := hr2.cell rfl
  have r2 : w2.cell? ⟨w.heap.size + 1, 2, none⟩ = some (.slice none 0 0) := hr2.cell rfl
  have f0 := hr2.frozen 0
  have f1 := hr2.frozen 1
  have f2 := hr2.frozen 2
  have lr2 := hr2.lt
  have HR2 := Lib.hid hr2
  have HB2 := Lib.hid (HB1.out.trans (hb3.mono HB1.out.size))
  have HNEW := Lib.hid hnew
  have hw1 : w.heap.size + 2 ≤ w1.heap.size := by have := HB1.out.size; have := HR1.out.lt; omega
  have HSS := Lib.hid (And.intro hs1 (And.intro hs2 hs3))
  clear hs1 hs2 hs3 hb2 hb3 hr2 hnew
  go_wp2_with fail
  refine bodyPost_ret (results_ct rfl _ _ (w.heap.size + 1) 145 [.slice fa (n + 1) fc, .slice ta l1.length tc, .slice wa l1.length wc] _ rfl (((HR2.out.set 0 _).set 1 _).set 2 _) Tryz.underlying145 rfl (by rw [Tryz.sizeCsr]; rfl)) rfl ?_
  have hO : Only [w.heap.size + 1] w2 (((w2.setCell ⟨w.heap.size + 1, 0, none⟩ (.slice fa (n + 1) fc)).setCell ⟨w.heap.size + 1, 1, none⟩ (.slice ta l1.length tc)).setCell ⟨w.heap.size + 1, 2, none⟩ (.slice wa l1.length wc)) :=
    (((Only.refl _ w2).setCell (p := ⟨w.heap.size + 1, 0, none⟩) (by simp) _).setCell (p := ⟨w.heap.size + 1, 1, none⟩) (by simp) _).setCell (p := ⟨w.heap.size + 1, 2, none⟩) (by simp) _
  have hfar : ∀ a ∈ [fa, ta, wa], ∀ b o, a = some ⟨b, o, none⟩ → b ∉ [w.heap.size + 1] := fun a ha b o e hm => by
    have := HNEW.out a ha b o e
    simp at hm this
    omega
  refine ⟨⟨fa, fc, ta, tc, wa, wc⟩, l1, rfl, HP1.out, HOK.out, ⟨HSS.out.1.kept hO (hfar _ (by simp)), HSS.out.2.1.kept hO (hfar _ (by simp)), HSS.out.2.2.kept hO (hfar _ (by simp))⟩, HB2.out.trans (hO.below (B := w.heap.size) HB2.out.size (fun e he => by simp at he; omega))⟩
def bools (l : List Bool) : List Value := l.map fun b => Value.bool b
theorem bools_get {l : List Bool} {i : Nat} {x : Bool} (h : l[i]? = some x) : (bools l)[i]? = some (.bool x) := by unfold bools; rw [List.getElem?_map, h]; rfl
theorem bools_set (l : List Bool) (i : Nat) (x : Bool) : (bools l).set i (.bool x) = bools (l.set i x) := by unfold bools; rw [List.map_set]
structure SB where
  sb : Nat
  hb : Nat
  ab : Nat
  tb : Nat
  cb : Nat
  ob : Nat
  eb : Nat
def stCells (C : CA) (n m : Nat) (Z : SB) : List Value := [.slice C.fa (n + 1) C.fc, .slice C.ta m C.tc, .slice C.wa m C.wc, .pointer (some ⟨Z.hb, 0, none⟩), .pointer (some ⟨Z.tb, 0, none⟩), .slice (some ⟨Z.ob, 0, none⟩) n n, .slice (some ⟨Z.eb, 0, none⟩) n n]
structure StRep (w : World) (B : Nat) (C : CA) (n m : Nat) (Z : SB) (iv : Value) (hs : HS) (ds : List (Option Int)) (H : List Nat) (S : List Bool) : Prop where
  st : Cells w Z.sb 198 (stCells C n m Z)
  hp : HRep w Z.hb iv Z.ab hs
  sp : SRep w Z.tb Z.cb ds
  ho : Cells w Z.ob 3 (nums H)
  se : Cells w Z.eb 4 (bools S)
  lh : hs.2.length = n
  ld : ds.length = n
  lo : H.length = n
  ls : S.length = n
  new : ∀ k ∈ [Z.sb, Z.tb, Z.cb, Z.ob, Z.eb], B ≤ k
  newH : ∀ k ∈ hfoot Z.hb iv Z.ab, B ≤ k
  ap : ∀ k ∈ hfoot Z.hb iv Z.ab, k ∉ [Z.sb, Z.tb, Z.cb, Z.ob, Z.eb]
  nd : [Z.sb, Z.tb, Z.cb, Z.ob, Z.eb].Nodup
namespace StRep
variable {w w' : World} {B n m : Nat} {C : CA} {Z : SB} {iv : Value} {hs : HS} {ds : List (Option Int)} {H : List Nat} {S : List Bool}
theorem below (h : StRep w B C n m Z iv hs ds H S) (o : Below w.heap.size w w') : StRep w' B C n m Z iv hs ds H S :=
  ⟨h.st.below o h.st.lt, h.hp.below o, h.sp.below o, h.ho.below o h.ho.lt, h.se.below o h.se.lt, h.lh, h.ld, h.lo, h.ls, h.new, h.newH, h.ap, h.nd⟩
theorem ne (h : StRep w B C n m Z iv hs ds H S) : (Z.sb ≠ Z.tb ∧ Z.sb ≠ Z.cb ∧ Z.sb ≠ Z.ob ∧ Z.sb ≠ Z.eb) ∧ (Z.tb ≠ Z.cb ∧ Z.tb ≠ Z.ob ∧ Z.tb ≠ Z.eb) ∧ (Z.cb ≠ Z.ob ∧ Z.cb ≠ Z.eb) ∧ Z.ob ≠ Z.eb := by
  have := h.nd
  simp only [List.nodup_cons, List.mem_cons, List.not_mem_nil, or_false, not_or] at this
  obtain ⟨⟨a1, a2, a3, a4⟩, ⟨b1, b2, b3⟩, ⟨c1, c2⟩, d, -⟩ := this
  exact ⟨⟨a1, a2, a3, a4⟩, ⟨b1, b2, b3⟩, ⟨c1, c2⟩, d⟩
theorem dist (h : StRep w B C n m Z iv hs ds H S) {ds' : List (Option Int)} (o : Only [Z.tb, Z.cb] w w') (hsp : SRep w' Z.tb Z.cb ds') (hl : ds'.length = n) : StRep w' B C n m Z iv hs ds' H S := by
  obtain ⟨⟨a1, a2, a3, a4⟩, ⟨b1, b2, b3⟩, ⟨c1, c2⟩, d⟩ := h.ne
  have e1 := h.ap
  refine ⟨h.st.kept o (by simp [a1, a2]), h.hp.kept o (fun k hk hm => e1 k hk ?_), hsp, h.ho.kept o (by simp [b2.symm, c1.symm]), h.se.kept o (by simp [b3.symm, c2.symm]), h.lh, hl, h.lo, h.ls, h.new, h.newH, h.ap, h.nd⟩
  simp only [List.mem_cons, List.not_mem_nil, or_false] at hm ⊢
  omega
theorem hop (h : StRep w B C n m Z iv hs ds H S) (o : Only [Z.ob] w w') {H' : List Nat} (hc : Cells w' Z.ob 3 (nums H')) (hl : H'.length = n) : StRep w' B C n m Z iv hs ds H' S := by
  obtain ⟨⟨a1, a2, a3, a4⟩, ⟨b1, b2, b3⟩, ⟨c1, c2⟩, d⟩ := h.ne
  have e1 := h.ap
  refine ⟨h.st.kept o (by simp [a3]), h.hp.kept o (fun k hk hm => e1 k hk ?_), h.sp.kept o (by simp [b2]) (by simp [c1]), hc, h.se.kept o (by simp [d.symm]), h.lh, h.ld, hl, h.ls, h.new, h.newH, h.ap, h.nd⟩
  simp only [List.mem_cons, List.not_mem_nil, or_false] at hm ⊢
  omega
theorem sett (h : StRep w B C n m Z iv hs ds H S) (o : Only [Z.eb] w w') {S' : List Bool} (hc : Cells w' Z.eb 4 (bools S')) (hl : S'.length = n) : StRep w' B C n m Z iv hs ds H S' := by
  obtain ⟨⟨a1, a2, a3, a4⟩, ⟨b1, b2, b3⟩, ⟨c1, c2⟩, d⟩ := h.ne
  have e1 := h.ap
  refine ⟨h.st.kept o (by simp [a4]), h.hp.kept o (fun k hk hm => e1 k hk ?_), h.sp.kept o (by simp [b3]) (by simp [c2]), h.ho.kept o (by simp [d]), hc, h.lh, h.ld, h.lo, hl, h.new, h.newH, h.ap, h.nd⟩
  simp only [List.mem_cons, List.not_mem_nil, or_false] at hm ⊢
  omega
theorem lts (h : StRep w B C n m Z iv hs ds H S) : ∀ k ∈ [Z.sb, Z.tb, Z.cb, Z.ob, Z.eb], k < w.heap.size := by
  intro k hk
  simp only [List.mem_cons, List.not_mem_nil, or_false] at hk
  rcases hk with rfl | rfl | rfl | rfl | rfl
  · exact h.st.lt
  · exact h.sp.lt1
  · exact h.sp.lt2
  · exact h.ho.lt
  · exact h.se.lt
theorem heap (h : StRep w B C n m Z iv hs ds H S) (hB : B ≤ w.heap.size) {hs' : HS} (x : HNext w w' Z.hb Z.ab iv hs') (hl : hs'.2.length = n) : (∃ iv', StRep w' B C n m Z iv' hs' ds H S) ∧ Below B w w' := by
  obtain ⟨iv', h1, o, h2⟩ := x
  have e1 := h.ap
  have hn : ∀ k ∈ [Z.sb, Z.tb, Z.cb, Z.ob, Z.eb], k ∉ hfoot Z.hb iv Z.ab := fun k hk hm => e1 k hm hk
  refine ⟨⟨iv', h.st.kept o (hn _ (by simp)), h1, h.sp.kept o (hn _ (by simp)) (hn _ (by simp)), h.ho.kept o (hn _ (by simp)), h.se.kept o (hn _ (by simp)), hl, h.ld, h.lo, h.ls, h.new, fun k hk => ?_, fun k hk => ?_, h.nd⟩, o.below hB h.newH⟩
  · rcases h2 k hk with h3 | h3
    · exact h.newH k h3
    · omega
  · rcases h2 k hk with h3 | h3
    · exact h.ap k h3
    · intro hm
      have := h.lts k hm
      omega
end StRep
set_option linter.unusedSimpArgs false in
set_option maxRecDepth 100000 in
set_option maxHeartbeats 8000000 in
theorem label_any (B : Nat) (C : CA) (n m : Nat) (Z : SB) (iv : Value) (hs : HS) (ds : List (Option Int)) (H : List Nat) (S : List Bool) (v : Nat) (d : Int) (k : Nat) (w : World) (h : StRep w B C n m Z iv hs ds H S) (g : Good hs) (hB : B ≤ w.heap.size) (hv : v < n) :
    Calls Tryz.prog 116 #[.pointer (some ⟨Z.sb, 0, none⟩), .int .i64 (v : Int), .int .u64 d, .int .i64 (k : Int)] w fun e w' => e = .returned (.tuple #[]) ∧ (∃ iv', StRep w' B C n m Z iv' (setP hs v d) (ds.set v (some d)) (H.set v k) S) ∧ Below B w w' := by
  have HH := Lib.hid h
  have HG := Lib.hid g
  have hn : n ≤ 65536 := by have := h.hp.n; have := h.lh; omega
  have z4 : w.cell? ⟨Z.sb, 4, none⟩ = some (.pointer (some ⟨Z.tb, 0, none⟩)) := h.st.cell rfl
  have ucv : IntKind.u32.wrap (v : Int) = (v : Int) := IntWalk.u32_in _ (by omega)
  clear h g
  go_enter Tryz.func116, Tryz.ntmps116
  go_wp2_with fail
  refine (stampSet_any v d _ HH.out.sp (by rw [HH.out.ld]; exact hv)).mono ?_
  rintro e w1 ⟨rfl, hs1, ho1⟩
  have h1 := HH.out.dist ho1 hs1 (by rw [List.length_set]; exact HH.out.ld)
  have b1 := ho1.below (B := B) hB (fun q hq => HH.out.new q (by simp only [List.mem_cons, List.not_mem_nil, or_false] at hq ⊢; omega))
  have y5 : w1.cell? ⟨Z.sb, 5, none⟩ = some (.slice (some ⟨Z.ob, 0, none⟩) n n) := h1.st.cell rfl
  have y3 : w1.cell? ⟨Z.sb, 3, none⟩ = some (.pointer (some ⟨Z.hb, 0, none⟩)) := h1.st.cell rfl
  have n1 : Z.sb ≠ Z.ob := h1.ne.1.2.2.1
  have n2 : Z.ob ≠ Z.sb := n1.symm
  obtain ⟨u, hu⟩ : ∃ u, H[v]? = some u := ⟨_, List.getElem?_eq_getElem (by rw [HH.out.lo]; exact hv)⟩
  have y0 : w1.cell? ⟨Z.ob, v, none⟩ = some (.int .i64 (u : Int)) := h1.ho.cell (nums_get hu)
  have f0 := h1.ho.frozen v
  have H1 := Lib.hid h1
  have B1 := Lib.hid b1
  clear hs1 ho1 h1 b1 hu z4
  have hO : Only [Z.ob] w1 (w1.setCell ⟨Z.ob, v, none⟩ (.int .i64 (k : Int))) := (Only.refl _ w1).setCell (p := ⟨Z.ob, v, none⟩) (by simp) _
  have hc2 := H1.out.ho.set v (.int .i64 (k : Int))
  rw [nums_set] at hc2
  have H2 := Lib.hid (H1.out.hop hO hc2 (by rw [List.length_set]; exact HH.out.lo))
  have B2 := Lib.hid (B1.out.trans (hO.below (B := B) (Nat.le_trans hB B1.out.size) (fun q hq => HH.out.new q (by simp only [List.mem_cons, List.not_mem_nil, or_false] at hq ⊢; omega))))
  clear hO hc2
  go_wp2_with fail
  refine (set_any v d _ H2.out.hp HG.out (by rw [HH.out.lh]; exact hv)).mono ?_
  rintro e w3 ⟨rfl, hx⟩
  obtain ⟨h3, b3⟩ := H2.out.heap (Nat.le_trans hB B2.out.size) hx (by rw [(setP_spec HG.out v d (by rw [HH.out.lh]; exact hv)).2.2.1]; exact HH.out.lh)
  have H3 := Lib.hid (And.intro h3 (B2.out.trans b3))
  clear hx h3 b3
  go_wp2_with fail
  go_returns
  exact ⟨rfl, H3.out⟩
theorem DInv.weaken {n : Nat} {W : Nat → List (Nat × Nat)} {r : Int} {u : Nat} {D m : Nat → Option Int} {P Q : Nat → Nat × Nat → Prop} (h : DInv n W r u D m P) (hq : ∀ a t, Q a t → P a t) : DInv n W r u D m Q :=
  ⟨h.src, h.walk, h.q, fun a x s h1 h2 h3 h4 h5 => h.fwd a x s h1 h2 h3 h4 (hq a s h5), h.bnd⟩
theorem Holds.setk {s : HS} {n : Nat} {m : Nat → Option Int} (h : Holds s n m) (id : Nat) (k : Int) (hid : id < n) {m' : Nat → Option Int} (he : ∀ x, m' x = if x = id then some k else m x) : Holds (setP s id k) n m' := by
  obtain ⟨g, hk, hl, -⟩ := setP_spec h.good id k (by rw [h.len]; exact hid)
  refine ⟨g, hl.trans h.len, fun x => ?_⟩
  rw [hk, he, h.key]
structure SData (n : Nat) (l : List AF) (u : Nat) (P : Nat → Nat × Nat → Prop) (c : Nat) (hs : HS) (ds : List (Option Int)) (H : List Nat) (S : List Bool) (m D : Nat → Option Int) : Prop where
  o : Holds hs n m
  i : DInv n (webC l) (-1) u D m P
  d : ∀ x, ds.getD x none = D x
  s : ∀ (x : Nat) (b : Bool), S[x]? = some b → (b = true ↔ (∃ e, D x = some e) ∧ m x = none)
  h : ∀ x ∈ H, x ≤ c
  mo : Mono D m
structure SNow (v : Nat) (k : Int) (D m : Nat → Option Int) : Prop where
  d : D v = some k
  q : m v = none
  top : ∀ x e, D x = some e → m x = none → e ≤ k
def Seen (l : List AF) (v j : Nat) (a : Nat) (t : Nat × Nat) : Prop := a = v → ∃ (i : Nat) (x : AF), cntLt l v ≤ i ∧ i < j ∧ l[i]? = some x ∧ t = (x.2.1.val, x.2.2.val)
theorem SData.weaken {n : Nat} {l : List AF} {u c : Nat} {P Q : Nat → Nat × Nat → Prop} {hs : HS} {ds : List (Option Int)} {H : List Nat} {S : List Bool} {m D : Nat → Option Int} (h : SData n l u P c hs ds H S m D) (hq : ∀ a t, Q a t → P a t) : SData n l u Q c hs ds H S m D :=
  ⟨h.o, h.i.weaken hq, h.d, h.s, h.h, h.mo⟩
theorem SData.row_start {n : Nat} {l : List AF} {u c v : Nat} {hs : HS} {ds : List (Option Int)} {H : List Nat} {S : List Bool} {m D : Nat → Option Int} (h : SData n l u (fun a _ => a ≠ v) c hs ds H S m D) : SData n l u (Seen l v (cntLt l v)) c hs ds H S m D :=
  h.weaken fun a t ht e => by
    obtain ⟨i, x, h1, h2, -⟩ := ht e
    omega
theorem SData.row_end {n : Nat} {l : List AF} (hl : ByFrom l) {u c v : Nat} {hs : HS} {ds : List (Option Int)} {H : List Nat} {S : List Bool} {m D : Nat → Option Int} (h : SData n l u (Seen l v (cntLt l (v + 1))) c hs ds H S m D) : SData n l u (fun _ _ => True) c hs ds H S m D :=
  ⟨h.o, h.i.all (Q := fun t => ∃ (i : Nat) (x : AF), cntLt l v ≤ i ∧ i < cntLt l (v + 1) ∧ l[i]? = some x ∧ t = (x.2.1.val, x.2.2.val)) (fun _ ht => (webC_at hl).1 ht), h.d, h.s, h.h, h.mo⟩
theorem seen_succ {l : List AF} {v j : Nat} {x : AF} (hx : l[j]? = some x) : ∀ a t, Seen l v (j + 1) a t → (a = v → (∃ (i : Nat) (x : AF), cntLt l v ≤ i ∧ i < j ∧ l[i]? = some x ∧ t = (x.2.1.val, x.2.2.val)) ∨ t = (x.2.1.val, x.2.2.val)) := by
  intro a t h e
  obtain ⟨i, y, h1, h2, h3, h4⟩ := h e
  by_cases hij : i < j
  · exact .inl ⟨i, y, h1, hij, h3, h4⟩
  · have : i = j := by omega
    subst this
    rw [hx] at h3
    simp only [Option.some.injEq] at h3
    subst h3
    exact .inr h4
theorem SData.skip {n : Nat} {l : List AF} {u c v j : Nat} {hs : HS} {ds : List (Option Int)} {H : List Nat} {S : List Bool} {m D : Nat → Option Int} {k : Int} {x : AF} (h : SData n l u (Seen l v j) c hs ds H S m D) (hn : n ≤ 65536) (w : SNow v k D m)
    (hx : l[j]? = some x) (hno : ¬ k + ((x.2.2.val : Nat) : Int) < farOf (D x.2.1.val)) : SData n l u (Seen l v (j + 1)) c hs ds H S m D := by
  have h1 := h.i.skip (s := (x.2.1.val, x.2.2.val)) hn w.d (by have := x.2.2.isLt; simp only; omega) (fun _ => hno)
  exact ⟨h.o, h1.weaken (seen_succ hx), h.d, h.s, h.h, h.mo⟩
theorem SData.relax {n : Nat} {l : List AF} {u c v j hp : Nat} {hs : HS} {ds : List (Option Int)} {H : List Nat} {S : List Bool} {m D : Nat → Option Int} {k : Int} {x : AF} (h : SData n l u (Seen l v j) c hs ds H S m D) (hn : n ≤ 65536) (hb : ByFrom l) (w : SNow v k D m)
    (hx : l[j]? = some x) (h1 : cntLt l v ≤ j) (h2 : j < cntLt l (v + 1)) (hxn : x.2.1.val < n) (hlt : k + ((x.2.2.val : Nat) : Int) < farOf (D x.2.1.val)) (hset : ∀ e, D x.2.1.val = some e → m x.2.1.val ≠ none) (hld : ds.length = n) (hhp : hp + 1 ≤ c) :
    ∃ m' D', SData n l u (Seen l v (j + 1)) c (setP hs x.2.1.val (k + ((x.2.2.val : Nat) : Int))) (ds.set x.2.1.val (some (k + ((x.2.2.val : Nat) : Int)))) (H.set x.2.1.val (hp + 1)) S m' D' ∧ SNow v k D' m' := by
  have hmem : (x.2.1.val, x.2.2.val) ∈ webC l v := (webC_at hb).2 ⟨j, x, h1, h2, hx, rfl⟩
  obtain ⟨d1, d2, d3, -⟩ := h.i.relax (s := (x.2.1.val, x.2.2.val)) hn w.d w.q hmem (by simp only; omega) hxn (by have := x.2.2.isLt; simp only; omega) hlt
  simp only at d1 d2 d3
  have hpm : ∀ y, pushM m x.2.1.val (k + ((x.2.2.val : Nat) : Int)) y = if y = x.2.1.val then some (k + ((x.2.2.val : Nat) : Int)) else m y := by
    intro y
    unfold pushM
    by_cases e : y = x.2.1.val
    · rw [if_pos e, if_pos e]
      cases ho : m x.2.1.val with
      | none => rfl
      | some o =>
        have := h.i.q _ _ ho
        rw [this] at hlt
        simp only [farOf] at hlt
        simp only
        rw [if_neg (by omega)]
    · rw [if_neg e, if_neg e]
  refine ⟨_, _, ⟨h.o.setk _ _ hxn hpm, d1.weaken (seen_succ hx), fun y => ?_, fun y b hy => ?_, fun y hy => ?_, h.mo.relax w.top hlt⟩, ⟨d3, d2, Mono.set_after w.top⟩⟩
  · rw [getD_set ds _ _ _ (by omega)]
    unfold updD
    by_cases e : x.2.1.val = y
    · rw [if_pos e, if_pos e.symm]
    · rw [if_neg e, if_neg (fun e' => e e'.symm)]
      exact h.d y
  · rw [h.s y b hy, hpm]
    unfold updD
    by_cases e : y = x.2.1.val
    · subst e
      rw [if_pos rfl, if_pos rfl]
      constructor
      · rintro ⟨⟨e1, h3⟩, h4⟩
        exact absurd h4 (hset e1 h3)
      · rintro ⟨-, h4⟩
        cases h4
    · rw [if_neg e, if_neg e]
  · rcases List.mem_or_eq_of_mem_set hy with h3 | h3
    · exact h.h y h3
    · omega
theorem SData.more {n : Nat} {l : List AF} {u c : Nat} {P : Nat → Nat × Nat → Prop} {hs : HS} {ds : List (Option Int)} {H : List Nat} {S : List Bool} {m D : Nat → Option Int} (h : SData n l u P c hs ds H S m D) {c' : Nat} (hc : c ≤ c') : SData n l u P c' hs ds H S m D :=
  ⟨h.o, h.i, h.d, h.s, fun x hx => Nat.le_trans (h.h x hx) hc, h.mo⟩
theorem SData.pop {n : Nat} {l : List AF} {u c id : Nat} {hs : HS} {ds : List (Option Int)} {H : List Nat} {S : List Bool} {m D : Nat → Option Int} {k : Int} (h : SData n l u (fun _ _ => True) c hs ds H S m D) (hx : hs.1[0]? = some (k, id)) (hl : S.length = n) :
    SData n l u (fun a _ => a ≠ id) c (popP hs) ds H (S.set id true) (eraseM m id) D ∧ SNow id k D (eraseM m id) ∧ id < n ∧ S[id]? = some false := by
  obtain ⟨h1, h2, h3⟩ := h.o.top hx
  have hD := h.i.q _ _ h1
  have hmin : ∀ d e, m d = some e → k ≤ e := fun d e hd => by have := (le2_iff _ _).1 (h3 d e hd); simp at this; omega
  have hS : S[id]? = some false := by
    obtain ⟨b, hb⟩ : ∃ b, S[id]? = some b := ⟨_, List.getElem?_eq_getElem (by omega)⟩
    have := h.s id b hb
    rw [h1] at this
    cases b with
    | false => exact hb
    | true => have := (this.1 rfl).2; cases this
  refine ⟨⟨h.o.pop hx, h.i.pop id, h.d, fun y b hy => ?_, h.h, h.mo.pop hD hmin⟩, ⟨hD, by simp [eraseM], fun y e he hm => ?_⟩, h2, hS⟩
  · rw [List.getElem?_set] at hy
    unfold eraseM
    by_cases e : id = y
    · subst e
      rw [if_pos rfl, if_pos (by omega)] at hy
      simp only [Option.some.injEq] at hy
      subst hy
      rw [if_pos rfl]
      exact ⟨fun _ => ⟨⟨k, hD⟩, rfl⟩, fun _ => rfl⟩
    · rw [if_neg e] at hy
      rw [if_neg (fun e' => e e'.symm)]
      exact h.s y b hy
  · unfold eraseM at hm
    split at hm
    · rename_i e1
      subst e1
      rw [hD] at he
      simp only [Option.some.injEq] at he
      omega
    · exact h.mo y e id k he hm h1
theorem SData.done {n : Nat} {l : List AF} {u c : Nat} {hs : HS} {ds : List (Option Int)} {H : List Nat} {S : List Bool} {m D : Nat → Option Int} (h : SData n l u (fun _ _ => True) c hs ds H S m D) (h0 : hs.1 = []) : IsS (webC l) (-1) u D ∧ ∀ (x : Nat) (b : Bool), S[x]? = some b → (b = true ↔ ∃ e, D x = some e) := by
  have hm := h.o.empty h0
  refine ⟨h.i.done hm, fun x b hb => ?_⟩
  rw [h.s x b hb, hm x]
  simp
theorem SData.start {n : Nat} {l : List AF} {u : Nat} (hu : u < n) : SData n l u (fun _ _ => True) 0 (setP ([], List.replicate n 0) u 0) ((List.replicate n none).set u (some 0)) ((List.replicate n 0).set u 0) (List.replicate n false) (pushM (fun _ => none) u 0) (startD u) := by
  refine ⟨(Holds.new n).setk u 0 hu (fun x => ?_), DInv.start hu, fun x => ?_, fun x b hb => ?_, fun x hx => ?_, Mono.start u⟩
  · unfold pushM
    rfl
  · rw [getD_set _ _ _ _ (by simpa using hu)]
    unfold startD
    by_cases e : u = x
    · rw [if_pos e, if_pos e.symm]
    · rw [if_neg e, if_neg (fun e' => e e'.symm), List.getD_eq_getElem?_getD, List.getElem?_replicate]
      split <;> rfl
  · rw [List.getElem?_replicate] at hb
    split at hb
    · simp only [Option.some.injEq] at hb
      subst hb
      simp only [Bool.false_eq_true, false_iff, not_and]
      rintro ⟨e, he⟩
      unfold startD at he
      split at he
      · rename_i e1; subst e1; simp [pushM]
      · cases he
    · cases hb
  · rcases List.mem_or_eq_of_mem_set hx with h3 | h3
    · have := (List.mem_replicate.1 h3).2
      omega
    · omega
theorem count_mark {S : List Bool} {v : Nat} (h : S[v]? = some false) : (S.set v true).countP id = S.countP id + 1 := by
  obtain ⟨h1, h2⟩ := List.getElem?_eq_some_iff.1 h
  have := List.countP_set (p := id) (a := true) h1
  rw [h2] at this
  simpa using this
def StOk (B : Nat) (C : CA) (n : Nat) (l : List AF) (u : Nat) (Z : SB) (P : Nat → Nat × Nat → Prop) (c : Nat) (S : List Bool) (Q : (Nat → Option Int) → (Nat → Option Int) → Prop) (w : World) : Prop :=
  ∃ (iv : Value) (hs : HS) (ds : List (Option Int)) (H : List Nat) (m D : Nat → Option Int), StRep w B C n l.length Z iv hs ds H S ∧ SData n l u P c hs ds H S m D ∧ Q D m
def RowI (B : Nat) (C : CA) (n N : Nat) (l : List AF) (u : Nat) (Z : SB) (v : Nat) (d : Int) (hp c : Nat) (S : List Bool) (j : Nat) (w wr : World) : Prop :=
  ∃ (iv : Value) (hs : HS) (ds : List (Option Int)) (H : List Nat) (m D : Nat → Option Int), StRep wr B C n N Z iv hs ds H S ∧ SData n l u (Seen l v j) (c + 1) hs ds H S m D ∧ SNow v d D m ∧ H[v]? = some hp ∧ Below B w wr
set_option linter.unusedSimpArgs false in
set_option maxRecDepth 100000 in
set_option maxHeartbeats 8000000 in
theorem settle_any (B : Nat) (C : CA) (n : Nat) (l : List AF) (u : Nat) (Z : SB) (c : Nat) (S : List Bool) (v : Nat) (d : Int) (w0 w : World) (ok : CsrOk n l) (see : CSee w0 C n l) (hb : Below w0.heap.size w0 w) (h0 : w0.heap.size ≤ B) (hB : B ≤ w.heap.size) (hv : v < n) (hc : c ≤ 65536) (hS : S[v]? = some false)
    (h : ∃ (iv : Value) (hs : HS) (ds : List (Option Int)) (H : List Nat) (m D : Nat → Option Int), StRep w B C n l.length Z iv hs ds H S ∧ SData n l u (fun a _ => a ≠ v) c hs ds H (S.set v true) m D ∧ SNow v d D m) :
    Calls Tryz.prog 119 #[.pointer (some ⟨Z.sb, 0, none⟩), .int .i64 (v : Int), .int .u64 d, .int .i64 4611686018427387904] w fun e w' => e = .returned (.tuple #[]) ∧ StOk B C n l u Z (fun _ _ => True) (c + 1) (S.set v true) (fun _ _ => True) w' ∧ Below B w w' := by
  obtain ⟨iv, hs, ds, H, m, D, hr, hd, hw⟩ := h
  obtain ⟨N, hN⟩ : ∃ N, l.length = N := ⟨_, rfl⟩
  have hn := ok.hn
  have hNb : N ≤ 262144 := by rw [← hN]; exact ok.len
  rw [hN] at hr
  obtain ⟨hp, hhp⟩ : ∃ hp, H[v]? = some hp := ⟨_, List.getElem?_eq_getElem (by rw [hr.lo]; exact hv)⟩
  have hpc : hp ≤ c := hd.h _ (List.mem_of_getElem? hhp)
  obtain ⟨p, hp1⟩ : ∃ p, n + 1 = p := ⟨_, rfl⟩
  obtain ⟨f, hf⟩ : ∃ f, cntLt l v = f := ⟨_, rfl⟩
  obtain ⟨g, hg⟩ : ∃ g, cntLt l (v + 1) = g := ⟨_, rfl⟩
  obtain ⟨bf, of, ef, cf⟩ := see.f.int (firstL_get l n v (by omega))
  obtain ⟨bf', of', ef', cg⟩ := see.f.int (firstL_get l n (v + 1) (by omega))
  rw [ef] at ef'
  simp only [Option.some.injEq, Addr.mk.injEq, and_true] at ef'
  obtain ⟨rfl, rfl⟩ := ef'
  rw [hf] at cf
  rw [hg] at cg
  have hgN : g ≤ N := by rw [← hg, ← hN]; exact cntLt_le _ _
  have hfg : f ≤ g := by rw [← hf, ← hg]; exact cntLt_mono _ (by omega)
  have dlo : 0 ≤ d ∧ d ≤ 65535 * 140737488355328 := hd.i.big hn hw.d
  have HCF := Lib.hid (And.intro cf cg)
  have hse := hr.se.set v (.bool true)
  rw [bools_set] at hse
  have hr1 := hr.sett ((Only.refl [Z.eb] w).setCell (p := ⟨Z.eb, v, none⟩) (.inl (by simp)) (.bool true)) hse (by rw [List.length_set]; exact hr.ls)
  have hb1 : Below B w (w.setCell ⟨Z.eb, v, none⟩ (.bool true)) := (Below.refl B w).setCell (p := ⟨Z.eb, v, none⟩) (hr.new Z.eb (by simp)) (.bool true)
  have z6 : w.cell? ⟨Z.sb, 6, none⟩ = some (.slice (some ⟨Z.eb, 0, none⟩) n n) := hr.st.cell rfl
  have z6b : w.cell? ⟨Z.eb, v, none⟩ = some (.bool false) := hr.se.cell (bools_get hS)
  have f6 := hr.se.frozen v
  have y5 : (w.setCell ⟨Z.eb, v, none⟩ (.bool true)).cell? ⟨Z.sb, 5, none⟩ = some (.slice (some ⟨Z.ob, 0, none⟩) n n) := hr1.st.cell rfl
  have y0 : (w.setCell ⟨Z.eb, v, none⟩ (.bool true)).cell? ⟨Z.sb, 0, none⟩ = some (.slice C.fa (n + 1) C.fc) := hr1.st.cell rfl
  have y5b : (w.setCell ⟨Z.eb, v, none⟩ (.bool true)).cell? ⟨Z.ob, v, none⟩ = some (.int .i64 (hp : Int)) := hr1.ho.cell (nums_get hhp)
  have cf1 := ck (hb.trans (hb1.mono h0)) cf
  rw [ef, hp1] at y0
  have n1 : Z.sb ≠ Z.eb := hr.ne.1.2.2.2
  have n2 : Z.eb ≠ Z.sb := n1.symm
  have q1 : decide ((4611686018427387904 : Int) ≤ (hp : Int)) = false := by simp; omega
  have q2 : decide (4611686018427387904 ≤ hp) = false := by simp; omega
  have hvp : v < p := by omega
  have HHP := Lib.hid (And.intro hhp hpc)
  have HR1 := Lib.hid hr1
  have HD := Lib.hid (And.intro (hd.row_start.more (Nat.le_succ c)) hw)
  have HB1 := Lib.hid hb1
  have HB := Lib.hid hb
  have SEE := Lib.hid see
  have OK := Lib.hid ok
  have HG := Lib.hid (And.intro hN (And.intro hp1 (And.intro hf hg)))
  have HEF := Lib.hid ef
  obtain ⟨W1, hW1⟩ : ∃ W1, w.setCell ⟨Z.eb, v, none⟩ (.bool true) = W1 := ⟨_, rfl⟩
  rw [hW1] at y5 y0 y5b cf1
  clear see hb ok hr hd hw hhp hpc hp1 hf hg hN cf cg hse hr1 hb1 ef
  go_enter Tryz.func119, Tryz.ntmps119
  go_upto_region 1 with fail
  have HW1 := Lib.hid hW1
  clear hW1 z6 z6b f6 n1 n2
  go_wp2_with fail
  clear y5 y0 y5b cf1 q1 q2
  go_loopg [8, 9, 10, 11, 12] (g - f) (fun gg vi b1 b2 b3 b4 wr => ∃ j : Nat, vi = .int .i64 j ∧ f ≤ j ∧ j ≤ g ∧ gg = g - j ∧ RowI B C n N l u Z v d hp c (S.set v true) j w wr)
  case atStart => exact ⟨f, rfl, Nat.le_refl _, hfg, rfl, iv, hs, ds, H, m, D, by have := HR1.out; rwa [HW1.out] at this, by rw [← HG.out.2.2.1]; exact HD.out.1, HD.out.2, HHP.out.1, by have := HB1.out; rwa [HW1.out] at this⟩
  case round =>
    obtain ⟨j, rfl, hj1, hj2, hgm, iv2, hs2, ds2, H2, m2, D2, hr, hd, hw, hhp, hbl⟩ := hrel
    have z0 : wr.cell? ⟨Z.sb, 0, none⟩ = some (.slice C.fa (n + 1) C.fc) := hr.st.cell rfl
    have z1 : wr.cell? ⟨Z.sb, 1, none⟩ = some (.slice C.ta N C.tc) := hr.st.cell rfl
    have z2 : wr.cell? ⟨Z.sb, 2, none⟩ = some (.slice C.wa N C.wc) := hr.st.cell rfl
    have z4 : wr.cell? ⟨Z.sb, 4, none⟩ = some (.pointer (some ⟨Z.tb, 0, none⟩)) := hr.st.cell rfl
    rw [HEF.out, HG.out.2.1] at z0
    have HBW := Lib.hid (HB.out.trans (hbl.mono h0))
    have cg1 := ck HBW.out HCF.out.2
    have HGM := Lib.hid hgm
    have HR := Lib.hid hr
    have HD2 := Lib.hid (And.intro hd hw)
    have HHP2 := Lib.hid hhp
    have HBL := Lib.hid hbl
    have hvi : (v : Int) + 1 = ((v + 1 : Nat) : Int) := by omega
    obtain ⟨v1, hv1⟩ : ∃ v1, v + 1 = v1 := ⟨_, rfl⟩
    have hvp1 : v1 < p := by have := HG.out.2.1; omega
    rw [hv1] at hvi cg1
    have cv1 := IntWalk.i64_in (v1 : Int) (by omega)
    have lf := block_lt cg1
    clear hr hd hw hhp hbl hgm HR1 HD HB1 hv1
    by_cases hjg : j < g
    · obtain ⟨x, hx⟩ : ∃ x, l[j]? = some x := ⟨_, List.getElem?_eq_getElem (by rw [HG.out.1]; omega)⟩
      have hbf := OK.out.byFrom
      have hxv : x.1.val = v := (row_iff hbf hx v).2 (by rw [HG.out.2.2.1, HG.out.2.2.2]; exact ⟨hj1, hjg⟩)
      obtain ⟨q, hq⟩ : ∃ q, x.2.1.val = q := ⟨_, rfl⟩
      obtain ⟨cw, hcw⟩ : ∃ cw, x.2.2.val = cw := ⟨_, rfl⟩
      obtain ⟨bt, ot, et, ct⟩ := SEE.out.t.int (toL_get hx)
      obtain ⟨bw, ow, ew, cww⟩ := SEE.out.u.int (wtL_get hx)
      have ct1 := ck HBW.out ct
      have cw1 := ck HBW.out cww
      rw [hq] at ct1
      rw [hcw] at cw1
      rw [et] at z1
      rw [ew] at z2
      have hqn : q < n := by rw [← hq]; exact (OK.out.clean.inG x (List.mem_of_getElem? hx)).2
      have hqv : q ≠ v := by rw [← hq, ← hxv]; exact (OK.out.clean.ne x (List.mem_of_getElem? hx)).symm
      have hcb : cw ≤ 2147483647 := by rw [← hcw]; have := x.2.2.isLt; omega
      have hjN : j < N := by omega
      have u1 : IntKind.u64.wrap (cw : Int) = (cw : Int) := IntWalk.u64_in _ (by omega)
      have u2 : IntKind.u64.wrap (d + (cw : Int)) = d + (cw : Int) := IntWalk.u64_in _ (by omega)
      have lt1 := block_lt ct1
      have lw1 := block_lt cw1
      have HXQ := Lib.hid (And.intro hx (And.intro hxv (And.intro hq (And.intro hcw hbf))))
      have HQV := Lib.hid hqv
      obtain ⟨y, hy⟩ : ∃ y, ds2[q]? = some y := ⟨_, List.getElem?_eq_getElem (by rw [HR.out.ld]; exact hqn)⟩
      have HY := Lib.hid hy
      clear hx hxv hq hcw ct cww et ew hbf hqv hy
      go_wp2_with fail
      go_quiet (fail)
      go_wp2_with fail
      obtain ⟨wz, hwz⟩ : ∃ wz, wr.drewN nq = wz := ⟨_, rfl⟩
      have hbz : Below wr.heap.size wr wz := by rw [← hwz]; exact below_drewN (Below.refl _ _) nq
      rw [hwz]
      have HBZ := Lib.hid hbz
      clear hwz hbz z0 z1 z2 z4 cg1 ct1 cw1
      refine (stampGet_any q y _ (HR.out.below HBZ.out).sp HY.out).mono ?_
      rintro e w2 ⟨rfl, hb2⟩
      have hr2 := (HR.out.below HBZ.out).below hb2
      have z5 : w2.cell? ⟨Z.sb, 5, none⟩ = some (.slice (some ⟨Z.ob, 0, none⟩) n n) := hr2.st.cell rfl
      have z6 : w2.cell? ⟨Z.sb, 6, none⟩ = some (.slice (some ⟨Z.eb, 0, none⟩) n n) := hr2.st.cell rfl
      obtain ⟨sq, hsq⟩ : ∃ sq, (S.set v true)[q]? = some sq := ⟨_, List.getElem?_eq_getElem (by rw [hr2.ls]; exact hqn)⟩
      have z6b : w2.cell? ⟨Z.eb, q, none⟩ = some (.bool sq) := hr2.se.cell (bools_get hsq)
      have z5b : w2.cell? ⟨Z.ob, v, none⟩ = some (.int .i64 (hp : Int)) := hr2.ho.cell (nums_get HHP2.out)
      have hDq : D2 q = y := by
        rw [← HD2.out.1.d, List.getD_eq_getElem?_getD, HY.out]
        rfl
      have hbw := HBL.out.trans ((HBZ.out.trans (hb2.mono HBZ.out.size)).mono (Nat.le_trans hB HBL.out.size))
      have HR2 := Lib.hid hr2
      have HSQ := Lib.hid hsq
      have HDQ := Lib.hid hDq
      have HBW2 := Lib.hid hbw
      obtain ⟨h1, hh1⟩ : ∃ h1, hp + 1 = h1 := ⟨_, rfl⟩
      have hhi : (hp : Int) + 1 = (h1 : Int) := by omega
      have ch1 := IntWalk.i64_in (h1 : Int) (by have := HHP.out.2; omega)
      have HH1 := Lib.hid hh1
      have hsk : (¬ d + (cw : Int) < farOf y) → SData n l u (Seen l v (j + 1)) (c + 1) hs2 ds2 H2 (S.set v true) m2 D2 := fun hno =>
        HD2.out.1.skip hn HD2.out.2 HXQ.out.1 (by rw [HXQ.out.2.2.1, HXQ.out.2.2.2.1, hDq]; exact hno)
      have hrx : d + (cw : Int) < farOf y → (S.set v true)[q]? = some false → ∃ m' D', SData n l u (Seen l v (j + 1)) (c + 1) (setP hs2 q (d + (cw : Int))) (ds2.set q (some (d + (cw : Int)))) (H2.set q h1) (S.set v true) m' D' ∧ SNow v d D' m' := by
        intro hlt hs0
        obtain ⟨g1, g2, g3, g4⟩ := HG.out
        have := HD2.out.1.relax (hp := hp) hn HXQ.out.2.2.2.2 HD2.out.2 HXQ.out.1 (by rw [g3]; exact hj1) (by rw [g4]; exact hjg) (by rw [HXQ.out.2.2.1]; exact hqn) (by rw [HXQ.out.2.2.1, HXQ.out.2.2.2.1, hDq]; exact hlt) (by
          rw [HXQ.out.2.2.1]
          intro e he hm
          have := (HD2.out.1.s q false hs0).2 ⟨⟨e, he⟩, hm⟩
          cases this) HR.out.ld (by have := HHP.out.2; omega)
        rw [HXQ.out.2.2.1, HXQ.out.2.2.2.1, hh1] at this
        exact this
      have HSK := Lib.hid (And.intro hsk hrx)
      clear hb2 hr2 hsq hDq hbw hh1 hsk hrx
      cases sq with
      | true =>
        cases y with
        | none =>
          exfalso
          obtain ⟨⟨e, he⟩, -⟩ := (HD2.out.1.s q true HSQ.out).1 rfl
          rw [HDQ.out] at he
          cases he
        | some o =>
          have hle : o ≤ d := by
            obtain ⟨-, hm⟩ := (HD2.out.1.s q true HSQ.out).1 rfl
            exact HD2.out.2.top q o HDQ.out hm
          simp only [getVal]
          go_wp2_with fail
          go_roundg (g - (j + 1))
          case measure => rw [HGM.out]; omega
          case rel => exact ⟨j + 1, by go_num, by omega, by omega, rfl, iv2, hs2, ds2, H2, m2, D2, HR2.out, HSK.out.1 (by have hoo : farOf (some o) = o := rfl; rw [hoo]; omega), HD2.out.2, HHP2.out, HBW2.out⟩
      | false =>
        cases y with
        | none =>
          simp only [getVal]
          go_wp2_with fail
          refine (label_any B C n N Z iv2 hs2 ds2 H2 (S.set v true) q (d + (cw : Int)) h1 _ HR2.out HD2.out.1.o.good (Nat.le_trans hB HBW2.out.size) hqn).mono ?_
          rintro e w3 ⟨rfl, ⟨iv3, hr3⟩, hb3⟩
          obtain ⟨m3, D3, hd3, hw3⟩ := HSK.out.2 (by show d + (cw : Int) < 18446744073709551615; omega) HSQ.out
          have HH3 : H2.set q h1 = H2.set q h1 := rfl
          have HR3 := Lib.hid (And.intro hr3 (And.intro (HBW2.out.trans hb3) (And.intro hd3 hw3)))
          clear hr3 hb3 hd3 hw3 HH3 z5 z6 z6b z5b
          go_wp2_with fail
          go_roundg (g - (j + 1))
          case measure => rw [HGM.out]; omega
          case rel => exact ⟨j + 1, by go_num, by omega, by omega, rfl, iv3, _, _, _, m3, D3, HR3.out.1, HR3.out.2.2.1, HR3.out.2.2.2, by rw [List.getElem?_set_ne HQV.out]; exact HHP2.out, HR3.out.2.1⟩
        | some o =>
          by_cases hlt : d + (cw : Int) < o
          · simp only [getVal]
            have q1 : decide (d + (cw : Int) < o) = true := by simp; omega
            go_wp2_with fail
            refine (label_any B C n N Z iv2 hs2 ds2 H2 (S.set v true) q (d + (cw : Int)) h1 _ HR2.out HD2.out.1.o.good (Nat.le_trans hB HBW2.out.size) hqn).mono ?_
            rintro e w3 ⟨rfl, ⟨iv3, hr3⟩, hb3⟩
            obtain ⟨m3, D3, hd3, hw3⟩ := HSK.out.2 (hlt) HSQ.out
            have HH3 : H2.set q h1 = H2.set q h1 := rfl
            have HR3 := Lib.hid (And.intro hr3 (And.intro (HBW2.out.trans hb3) (And.intro hd3 hw3)))
            clear hr3 hb3 hd3 hw3 HH3 z5 z6 z6b z5b
            go_wp2_with fail
            go_roundg (g - (j + 1))
            case measure => rw [HGM.out]; omega
            case rel => exact ⟨j + 1, by go_num, by omega, by omega, rfl, iv3, _, _, _, m3, D3, HR3.out.1, HR3.out.2.2.1, HR3.out.2.2.2, by rw [List.getElem?_set_ne HQV.out]; exact HHP2.out, HR3.out.2.1⟩
          · simp only [getVal]
            have q1 : decide (d + (cw : Int) < o) = false := by simp; omega
            go_wp2_with fail
            go_roundg (g - (j + 1))
            case measure => rw [HGM.out]; omega
            case rel => exact ⟨j + 1, by go_num, by omega, by omega, rfl, iv2, hs2, ds2, H2, m2, D2, HR2.out, HSK.out.1 (hlt), HD2.out.2, HHP2.out, HBW2.out⟩
    · obtain rfl : j = g := by omega
      go_wp2_with fail
      go_returns
      obtain ⟨g1, g2, g3, g4⟩ := HG.out
      refine ⟨rfl, ⟨iv2, hs2, ds2, H2, m2, D2, by rw [g1]; exact HR.out, SData.row_end OK.out.byFrom (v := v) (by rw [g4]; exact HD2.out.1), trivial⟩, HBL.out⟩
end Go.Proofs.YtchhbgckonpedaaGreatDoor
