/- The reference's rank of a node, and its distances upwards. -/
import Derived.Test.YtchhbgckonpedaaGreatDoorE16
import Derived.Test.YtchhbgckonpedaaGreatDoorE17
import Derived.Deep.RegionHeld3
set_option linter.unusedSimpArgs false
set_option maxRecDepth 100000
set_option maxHeartbeats 8000000
namespace Go.Proofs.YtchhbgckonpedaaGreatDoor
open Go.ChangeShapes Go.WideShapes Go.ChangeAt Go.RowKit Go.Joins Go.Deep
theorem idxOf_first {l : List Nat} {v k : Nat} (hk : l[k]? = some v) (hl : ∀ (j x : Nat),j < k → l[j]? = some x → x ≠ v) : l.idxOf v = k := by
 induction l generalizing k with
 | nil => simp at hk
 | cons a l ih =>
  cases k with
  | zero =>
   simp only [List.getElem?_cons_zero,Option.some.injEq] at hk
   subst hk
   simp
  | succ k =>
   have ha : a ≠ v := hl 0 a (by omega) rfl
   have h1 := ih (k := k) (by simpa using hk) (fun j x hj hx => hl (j + 1) x (by omega) (by simpa using hx))
   have h2 : (a == v) = false := by simpa using ha
   rw [List.idxOf_cons,h2,h1]
   rfl
def IntIs (n : Nat) (w : World) (e : Ending) (w' : World) : Prop := e = .returned (.int .i64 (n : Int)) ∧ Below w.heap.size w w'
theorem rrank_any (A : HA) (h : HierD) (v : Nat) (w : World) (see : HSee w A h) (hv : v ∈ h.node) (hn : h.node.length ≤ 65536) : Calls Tryz.prog 98 #[hierVal A h, .int .i64 v] w (IntIs (h.node.idxOf v) w) := by
 have SEE := Lib.hid see
 have HV := Lib.hid hv
 clear see hv
 have HB0 := Lib.hid ((Below.refl w.heap.size w).alloc (Nat.le_refl _) (.cells (hierCells A h).toArray 25))
 unfold hierVal
 go_enter Tryz.func98, Tryz.ntmps98
 go_wp2_with fail
 go_loopg [10] h.node.length (fun g vi wr => ∃ k : Nat,vi = .int .i64 k ∧ k ≤ h.node.length ∧ g = h.node.length - k ∧ (∀ (j x : Nat),j < k → h.node[j]? = some x → x ≠ v) ∧ Below w.heap.size w wr)
 case atStart => exact ⟨0,rfl,Nat.zero_le _,rfl,fun j x hj => by omega,HB0.out⟩
 case round =>
  obtain ⟨k,rfl,hk,hg,hall,hbl⟩ := hrel
  have HG := Lib.hid hg
  have HALL := Lib.hid hall
  have HBL := Lib.hid hbl
  clear hg hall hbl
  by_cases hkl : k < h.node.length
  ·obtain ⟨x,hx⟩ : ∃ x,h.node[k]? = some x := ⟨_,List.getElem?_eq_getElem (by omega)⟩
   obtain ⟨b,o,ea,cc⟩ := (SEE.out.below HBL.out).node.cell k x hx
   have e0 := cc 0 _ rfl
   rw [Nat.mul_one,Nat.add_zero] at e0
   have hx32 : x < 4294967296 := SEE.out.bn x (List.mem_of_getElem? hx)
   have EA := Lib.hid ea
   have HXX := Lib.hid hx
   clear cc ea hx
   by_cases hxs : x = v
   ·have d1 : ((x : Int) == (v : Int)) = true := by simp; omega
    have hid : h.node.idxOf v = k := idxOf_first (by rw [HXX.out,hxs]) HALL.out
    have HID := Lib.hid hid
    clear hid hxs
    rw [EA.out]
    go_wp2
    go_returns
    refine ⟨?_,HBL.out⟩
    show Ending.returned (.int .i64 (k : Int)) = _
    rw [HID.out]
   ·have d1 : ((x : Int) == (v : Int)) = false := by simp; omega
    have HXS := Lib.hid hxs
    clear hxs
    rw [EA.out]
    go_wp2_with fail
    rw [← EA.out]
    go_roundg (h.node.length - (k + 1))
    case measure => rw [HG.out]; omega
    case rel =>
     refine ⟨k + 1,by go_num,by omega,rfl,fun j y hj hy => ?_,HBL.out⟩
     rcases Nat.lt_or_ge j k with h1 | h1
     ·exact HALL.out j y h1 hy
     ·obtain rfl : j = k := by omega
      rw [HXX.out] at hy
      simp only [Option.some.injEq] at hy
      subst hy
      exact HXS.out
  ·obtain rfl : k = h.node.length := by omega
   obtain ⟨j,hj⟩ := List.mem_iff_getElem?.1 HV.out
   exact absurd rfl (HALL.out j v (by have := (List.getElem?_eq_some_iff.1 hj).1; omega) hj)
def distCells (n : Nat) (D : Nat → Option Int) : List Value := (List.range n).map fun r => .int .u64 (farOf (D r))
theorem distCells_get {n : Nat} {D : Nat → Option Int} {r : Nat} (hr : r < n) : (distCells n D)[r]? = some (.int .u64 (farOf (D r))) := by
 unfold distCells
 rw [List.getElem?_map,List.getElem?_range hr]
 rfl
theorem distCells_set {n : Nat} {D : Nat → Option Int} {r : Nat} {d : Int} (E : Nat → Option Int) (h1 : farOf (E r) = d) (h2 : ∀ x,x ≠ r → E x = D x) : (distCells n D).set r (.int .u64 d) = distCells n E := by
 apply List.ext_getElem?
 intro j
 rw [List.getElem?_set]
 unfold distCells
 simp only [List.getElem?_map,List.length_map,List.length_range]
 by_cases hj : r = j
 ·subst hj
  rw [if_pos rfl]
  by_cases hl : r < n
  ·rw [if_pos hl,List.getElem?_range hl]
   simp [h1]
  ·rw [if_neg hl,List.getElem?_eq_none (by simp; omega)]
   rfl
 ·rw [if_neg hj]
  by_cases hl : j < n
  ·rw [List.getElem?_range hl]
   simp only [Option.map_some,Option.some.injEq]
   rw [h2 j (fun e => hj e.symm)]
  ·rw [List.getElem?_eq_none (by simp; omega)]
   rfl
theorem DistK.bnd {n : Nat} {first : List Nat} {links : List LinkD} {s k : Nat} {D : Nat → Option Int} (ok : HalfOk n first links) (hk : k ≤ n) (h : DistK n first links s k D) : ∀ r e,D r = some e → 0 ≤ e ∧ e ≤ r * 140737488355328 := by
 intro r
 induction r using Nat.strongRecOn with
 | _ r ih =>
  intro e he
  by_cases hr : r = s
  ·subst hr
   rw [h.src] at he
   simp at he
   subst he
   exact ⟨by omega,by omega⟩
  ·obtain ⟨x,d,l,hx,hxr,hd,hl,hto,rfl⟩ := h.bwd r e hr he
   obtain ⟨h1,h2,h3⟩ := ok.up x (by omega) l hl
   obtain ⟨h4,h5⟩ := ih x hxr d hd
   refine ⟨by omega, ?_⟩
   have : (x : Int) * 140737488355328 + 140737488355328 ≤ r * 140737488355328 := by omega
   omega
def fillCells (n k : Nat) : List Value := (List.range n).map fun j => .int .u64 (if j < k then 18446744073709551615 else 0)
theorem fillCells_zero (n : Nat) : fillCells n 0 = (List.replicate n ()).flatMap fun _ => [.int .u64 0] := by
 apply List.ext_getElem?
 intro j
 have h2 := flat_get (f := fun (_ : Unit) => [Value.int .u64 0]) (sz := 1) (fun _ => rfl) (List.replicate n ()) j 0 (by omega)
 rw [Nat.mul_one,Nat.add_zero] at h2
 rw [h2]
 unfold fillCells
 rw [List.getElem?_map]
 by_cases hj : j < n
 ·rw [List.getElem?_range hj,List.getElem?_replicate,if_pos hj]
  rfl
 ·rw [List.getElem?_eq_none (by simp; omega),List.getElem?_replicate,if_neg hj]
  rfl
theorem fillCells_set {n k : Nat} : (fillCells n k).set k (.int .u64 18446744073709551615) = fillCells n (k + 1) := by
 apply List.ext_getElem?
 intro j
 rw [List.getElem?_set]
 unfold fillCells
 simp only [List.getElem?_map,List.length_map,List.length_range]
 by_cases hj : k = j
 ·subst hj
  rw [if_pos rfl]
  by_cases hl : k < n
  ·rw [if_pos hl,List.getElem?_range hl]
   simp
  ·rw [if_neg hl,List.getElem?_eq_none (by simp; omega)]
   rfl
 ·rw [if_neg hj]
  by_cases hl : j < n
  ·rw [List.getElem?_range hl]
   simp only [Option.map_some,Option.some.injEq]
   have : j < k ↔ j < k + 1 := by omega
   simp only [this]
  ·rw [List.getElem?_eq_none (by simp; omega)]
   rfl
theorem fillCells_full (n : Nat) : fillCells n n = distCells n (fun _ => none) := by
 unfold fillCells distCells farOf
 apply List.map_congr_left
 intro j hj
 rw [if_pos (List.mem_range.1 hj)]
theorem Tryz.infoU64 : (Tryz.prog.info? 45).map (fun i => (i.zero,i.size,i.bytes)) = some (some (.int .u64 0),1,8) := by kernel_rfl
theorem far_relax (D' : Nat → Option Int) (d : Int) (x : LinkD) (h : d + (x.wt : Int) < 18446744073709551615) : (if d + (x.wt : Int) < farOf (D' x.to) then d + (x.wt : Int) else farOf (D' x.to)) = farOf (relaxD d D' x x.to) := by
 have e : relaxD d D' x x.to = some (match D' x.to with | some e => if d + x.wt < e then d + x.wt else e | none => d + x.wt) := if_pos rfl
 rw [e]
 cases D' x.to with
 | none =>
  show (if d + (x.wt : Int) < 18446744073709551615 then _ else _) = d + (x.wt : Int)
  exact if_pos h
 | some e => rfl
def DistNew (n : Nat) (D : Nat → Option Int) (w : World) (e : Ending) (w' : World) : Prop := ∃ b,e = .returned (.slice (some ⟨b,0,none⟩) n n) ∧ Cells w' b 45 (distCells n D) ∧ w.heap.size ≤ b ∧ Below w.heap.size w w'
theorem rdists_any (A : HA) (h : HierD) (s : Nat) (w : World) (see : HSee w A h) (u : FirstsOk h.node.length h.upF h.up.length) (ok : HalfOk h.node.length h.upF h.up) (hn : h.node.length ≤ 65536) (hu : h.up.length ≤ 1048576) (hs : s < h.node.length) :
  Calls Tryz.prog 97 #[hierVal A h, .int .i64 s] w (DistNew h.node.length (distsK h.upF h.up s h.node.length) w) := by
 have SEE := Lib.hid see
 have UOK := Lib.hid u
 have HOK := Lib.hid ok
 clear see u ok
 have hmk := run_make_n (P := Tryz.prog) 113 45 (.int .u64 0) 1 8 Tryz.underlying113 Tryz.infoU64 .i64 .i64 h.node.length (by omega) (by omega)
 have hfill : madeCells (Value.int .u64 0).cells (h.node.length * 1) = (fillCells h.node.length 0).toArray := by
  rw [fillCells_zero]
  exact madeCells_eq [.int .u64 0] h.node.length (by simp)
 rw [hfill] at hmk
 clear hfill
 have HX0 := Lib.hid ((Cells.new w 25 (hierCells A h)).alloc (.cells (fillCells h.node.length 0).toArray 45))
 have hD0 : Cells ((w.alloc (.cells (hierCells A h).toArray 25)).alloc (.cells (fillCells h.node.length 0).toArray 45)) (w.heap.size + 1) 45 (fillCells h.node.length 0) := cells_at (by simp) _ _
 have HD0 := Lib.hid hD0
 have HB0 := Lib.hid (((Below.refl w.heap.size w).alloc (Nat.le_refl _) (.cells (hierCells A h).toArray 25)).alloc (by simp) (.cells (fillCells h.node.length 0).toArray 45))
 clear hD0
 unfold hierVal
 go_enter Tryz.func97, Tryz.ntmps97
 go_wp2_with fail
 go_loopg [16] h.node.length (fun g vi wr => ∃ k : Nat,vi = .int .i64 k ∧ k ≤ h.node.length ∧ g = h.node.length - k ∧ Cells wr (w.heap.size + 1) 45 (fillCells h.node.length k) ∧ Cells wr w.heap.size 25 (hierCells A h) ∧ Below w.heap.size w wr)
 case atStart => exact ⟨0,rfl,Nat.zero_le _,rfl,HD0.out,HX0.out,HB0.out⟩
 case round =>
  obtain ⟨k,rfl,hk,hg,hcd,hcx,hbl⟩ := hrel
  have HG := Lib.hid hg
  have HD := Lib.hid hcd
  have HX := Lib.hid hcx
  have HB := Lib.hid hbl
  have ld := hcd.lt
  clear hg hcd hcx hbl
  by_cases hkl : k < h.node.length
  ·have hf := HD.out.frozen k
   have hm : wr.cell? ⟨w.heap.size + 1,k,none⟩ = some (.int .u64 0) := HD.out.cell (by unfold fillCells; rw [List.getElem?_map,List.getElem?_range hkl]; simp)
   go_wp2_with fail
   go_roundg (h.node.length - (k + 1))
   case measure => rw [HG.out]; omega
   case rel => exact ⟨k + 1,by go_num,by omega,rfl,fillCells_set ▸ HD.out.set k _,HX.out.other (a := ⟨w.heap.size + 1,k,none⟩) (by simp) _,HB.out.setCell (p := ⟨w.heap.size + 1,k,none⟩) (by simp) _⟩
  ·obtain rfl : k = h.node.length := by omega
   have hd1 := HD.out
   rw [fillCells_full] at hd1
   have hf := hd1.frozen s
   have hm : wr.cell? ⟨w.heap.size + 1,s,none⟩ = some (.int .u64 18446744073709551615) := hd1.cell (distCells_get hs)
   have hd2 := hd1.set s (.int .u64 0)
   rw [distCells_set (E := startD s) (by simp [startD,farOf]) (fun x hx => by simp [startD,hx])] at hd2
   have HD2 := Lib.hid hd2
   have HX2 := Lib.hid (HX.out.other (a := ⟨w.heap.size + 1,s,none⟩) (by simp) (.int .u64 0))
   have HB2 := Lib.hid (HB.out.setCell (p := ⟨w.heap.size + 1,s,none⟩) (by simp) (.int .u64 0))
   clear hd1 hd2 HD HX HB HD0 HX0 HB0
   go_wp2_with fail
   obtain ⟨wo,hwo⟩ : ∃ wo : World,wo = wr := ⟨_,rfl⟩
   go_loopg [28] h.node.length (fun g vi wr => ∃ k : Nat,vi = .int .i64 k ∧ k ≤ h.node.length ∧ g = h.node.length - k ∧ Cells wr (w.heap.size + 1) 45 (distCells h.node.length (distsK h.upF h.up s k)) ∧ Cells wr w.heap.size 25 (hierCells A h) ∧ Below w.heap.size w wr)
   case atStart => exact ⟨0,rfl,Nat.zero_le _,rfl,HD2.out,HX2.out,HB2.out⟩
   case round =>
    obtain ⟨k,rfl,hk,hg,hcd,hcx,hbl⟩ := hrel
    have HG := Lib.hid hg
    have HD := Lib.hid hcd
    have HX := Lib.hid hcx
    have HB := Lib.hid hbl
    have ld := hcd.lt
    clear hg hcd hcx hbl
    by_cases hkl : k < h.node.length
    ·have hm : wr.cell? ⟨w.heap.size + 1,k,none⟩ = some (.int .u64 (farOf (distsK h.upF h.up s k k))) := HD.out.cell (distCells_get hkl)
     have DK := distsK_ok HOK.out hs k hk
     cases hDk : distsK h.upF h.up s k k with
     | none =>
      rw [hDk] at hm
      have hst : distsK h.upF h.up s (k + 1) = distsK h.upF h.up s k := by
       conv => lhs; unfold distsK
       rw [hDk]
      have HST := Lib.hid hst
      simp only [farOf] at hm
      clear hst hDk DK
      go_wp2_with fail
      go_roundg (h.node.length - (k + 1))
      case measure => rw [HG.out]; omega
      case rel => exact ⟨k + 1,by go_num,by omega,rfl,by rw [HST.out]; exact HD.out,HX.out,HB.out⟩
     | some d =>
      rw [hDk] at hm
      obtain ⟨hd0,hd1⟩ := DK.bnd HOK.out hk k d hDk
      have hne : (d == 18446744073709551615) = false := by simp; omega
      simp only [farOf] at hm
      have HDK := Lib.hid hDk
      have DKK := Lib.hid DK
      clear hDk DK
      obtain ⟨k0,k1,k2,k3,k4⟩ := hier_five HX.out
      have hfl := UOK.out.len
      obtain ⟨lo,hlo⟩ : ∃ lo,h.upF[k]? = some lo := ⟨_,List.getElem?_eq_getElem (by omega)⟩
      obtain ⟨hi,hhi⟩ : ∃ hi,h.upF[k + 1]? = some hi := ⟨_,List.getElem?_eq_getElem (by omega)⟩
      have glo : h.upF.getD k 0 = lo := by rw [List.getD_eq_getElem?_getD,hlo]; rfl
      have ghi : h.upF.getD (k + 1) 0 = hi := by rw [List.getD_eq_getElem?_getD,hhi]; rfl
      have hlh : lo ≤ hi := by rw [← glo, ← ghi]; exact UOK.out.mono k hkl
      have hhl : hi ≤ h.up.length := by rw [← ghi]; exact UOK.out.le (k + 1) (by omega)
      have hseg : seg h.upF h.up k = (h.up.take hi).drop lo := by unfold seg; rw [glo,ghi]
      have su := SEE.out.below HB.out
      have hhc : hi ≤ A.c2 := Nat.le_trans hhl su.up.hcap
      have hhi32 : hi < 4294967296 := su.bu hi (List.mem_of_getElem? hhi)
      obtain ⟨b1,o1,ea1,lb1,cc1⟩ := see_one (f := fun (n : Nat) => Value.int .u32 n) su.upF (by omega)
      have cl := cc1 k lo hlo
      have ch := cc1 (k + 1) hi hhi
      rw [ea1] at k1
      have hil : k < h.upF.length := by omega
      have hil1 : k + 1 < h.upF.length := by omega
      have hsl := run_sub (P := Tryz.prog) 23 65 4 Tryz.underlying23 Tryz.sizeLink A.a2 h.up.length A.c2 lo hi .u32 .u32 hlh hhc
      have hLlen : ((h.up.take hi).drop lo).length = hi - lo := by simp; omega
      have hSUB : ∀ X,Below w.heap.size w X → See X (slBase A.a2 lo A.c2 4) (A.c2 - lo) linkCells 4 ((h.up.take hi).drop lo) := fun X hX => (SEE.out.below hX).up.sub lo hi hhl
      have hup : ∀ x ∈ (h.up.take hi).drop lo,k < x.to ∧ x.to < h.node.length ∧ x.wt ≤ 140737488355328 := fun x hx => HOK.out.up k hkl x (by rw [hseg]; exact hx)
      have hst : distsK h.upF h.up s (k + 1) = ((h.up.take hi).drop lo).foldl (relaxD d) (distsK h.upF h.up s k) := by
       conv => lhs; unfold distsK
       rw [HDK.out]
       simp only
       rw [hseg]
      have LL := Lib.hid hLlen
      have HSUB := Lib.hid hSUB
      have HUP := Lib.hid hup
      have HST := Lib.hid hst
      clear hfl hlo hhi glo ghi hseg su cc1 ea1 hLlen hSUB hup hst
      generalize (h.up.take hi).drop lo = L at *
      go_wp2_with fail
      go_quiet (fail)
      go_wp2_with fail
      go_loopg [51] (hi - lo) (fun g vj wr => ∃ j : Nat,vj = .int .i64 j ∧ j ≤ hi - lo ∧ g = hi - lo - j ∧ Cells wr (w.heap.size + 1) 45 (distCells h.node.length ((L.take j).foldl (relaxD d) (distsK h.upF h.up s k))) ∧ Cells wr w.heap.size 25 (hierCells A h) ∧ Below w.heap.size w wr)
      case atStart => exact ⟨0,rfl,Nat.zero_le _,rfl,HD.out.drewN _,HX.out.drewN _,below_drewN HB.out _⟩
      case round =>
       obtain ⟨j,rfl,hj,hgj,hcd,hcx,hbl⟩ := hrel
       have HGJ := Lib.hid hgj
       have HD3 := Lib.hid hcd
       have HX3 := Lib.hid hcx
       have HB3 := Lib.hid hbl
       have ld3 := hcd.lt
       clear hgj hcd hcx hbl
       by_cases hjl : j < hi - lo
       ·obtain ⟨x,hx⟩ : ∃ x,L[j]? = some x := ⟨_,List.getElem?_eq_getElem (by rw [LL.out]; exact hjl)⟩
        obtain ⟨hx1,hx2,hx3⟩ := HUP.out x (List.mem_of_getElem? hx)
        obtain ⟨b2,o2,ea2,cc2⟩ := (HSUB.out wr HB3.out).cell j x hx
        have e0 := cc2 0 _ rfl
        have e1 := cc2 1 _ rfl
        have e2 := cc2 2 _ rfl
        have e3 := cc2 3 _ rfl
        rw [Nat.add_zero] at e0
        have lb2 := block_lt e0
        have EA := Lib.hid ea2
        obtain ⟨D',hD'⟩ : ∃ D',(L.take j).foldl (relaxD d) (distsK h.upF h.up s k) = D' := ⟨_,rfl⟩
        have hnext : (L.take (j + 1)).foldl (relaxD d) (distsK h.upF h.up s k) = relaxD d D' x := by
         rw [List.take_add_one,hx,List.foldl_append,hD']
         rfl
        have hDk : D' k = some d := by
         rw [← hD',relax_le d _ k (fun l hl => (HUP.out l (List.mem_of_mem_take hl)).1) _ k (Nat.le_refl _)]
         exact HDK.out
        have hDb : ∀ e,D' x.to = some e → 0 ≤ e ∧ e ≤ 9223372036854775807 := by
         intro e he
         rw [← hD'] at he
         rcases relax_src d _ _ _ _ he with h1 | ⟨l,hl,hto,rfl⟩
         ·have := DKK.out.bnd HOK.out hk _ _ h1
          exact ⟨this.1,by omega⟩
         ·have := (HUP.out l (List.mem_of_mem_take hl)).2.2
          exact ⟨by omega,by omega⟩
        rw [hD'] at HD3
        have y1 : wr.cell? ⟨w.heap.size + 1,x.to,none⟩ = some (.int .u64 (farOf (D' x.to))) := HD3.out.cell (distCells_get hx2)
        have y2 : wr.cell? ⟨w.heap.size + 1,k,none⟩ = some (.int .u64 d) := HD3.out.cell (by rw [distCells_get hkl,hDk]; rfl)
        have HNX := Lib.hid hnext
        have HDk := Lib.hid hDk
        have HDB := Lib.hid hDb
        have fz := HD3.out.frozen x.to
        have hsum : IntKind.u64.wrap (d + (x.wt : Int)) = d + (x.wt : Int) := IntWalk.u64_in _ (by omega)
        clear hx cc2 ea2 hnext hDk hDb hD'
        have hval := far_relax D' d x (by omega)
        have HVAL := Lib.hid hval
        clear hval
        obtain ⟨wq,hwq⟩ : ∃ wq,wr.alloc (.cells (linkCells x).toArray 65) = wq := ⟨_,rfl⟩
        have hcx := Cells.new wr 65 (linkCells x)
        have hd4 := HD3.out.alloc (.cells (linkCells x).toArray 65)
        have hx4 := HX3.out.alloc (.cells (linkCells x).toArray 65)
        have hb4 := HB3.out.alloc HB3.out.size (.cells (linkCells x).toArray 65)
        rw [hwq] at hcx hd4 hx4 hb4
        have v0 : wq.cell? ⟨wr.heap.size,0,none⟩ = some (.int .u32 x.to) := hcx.cell rfl
        have v1 : wq.cell? ⟨wr.heap.size,1,none⟩ = some (.int .u64 x.wt) := hcx.cell rfl
        have y3 : wq.cell? ⟨w.heap.size + 1,x.to,none⟩ = some (.int .u64 (farOf (D' x.to))) := hd4.cell (distCells_get hx2)
        have y4 : wq.cell? ⟨w.heap.size + 1,k,none⟩ = some (.int .u64 d) := hd4.cell (by rw [distCells_get hkl,HDk.out]; rfl)
        have fz4 := hd4.frozen x.to
        have ld4 := hd4.lt
        have HD4 := Lib.hid hd4
        have HX4 := Lib.hid hx4
        have HB4 := Lib.hid hb4
        clear hcx hd4 hx4 hb4 y1 y2 fz
        rw [EA.out]
        go_wp2_with fail
        rw [show wr.alloc (.cells #[.int .u32 x.to, .int .u64 x.wt, .int .u32 x.left, .int .u32 x.right] 65) = wq from hwq]
        clear hwq e0 e1 e2 e3
        by_cases hc : d + (x.wt : Int) < farOf (D' x.to)
        ·have hvv := HVAL.out
         rw [if_pos hc] at hvv
         have HVV := Lib.hid hvv
         clear hvv HVAL
         go_still_tail 17,(by kernel_rfl)
         change wpList _ _ _ _ _ wq.drew
         go_wp2_with fail
         rw [← EA.out]
         go_roundg (hi - lo - (j + 1))
         case measure => rw [HGJ.out]; omega
         case rel =>
          have hd5 := HD4.out.set x.to (.int .u64 (d + (x.wt : Int)))
          rw [distCells_set (E := relaxD d D' x) HVV.out.symm (fun y hy => if_neg hy), ← HNX.out] at hd5
          exact ⟨j + 1,by go_num,by omega,rfl,hd5.drew,(HX4.out.other (a := ⟨w.heap.size + 1,x.to,none⟩) (by simp) _).drew,(HB4.out.setCell (p := ⟨w.heap.size + 1,x.to,none⟩) (by simp) _).drew⟩
        ·have hvv := HVAL.out
         rw [if_neg hc] at hvv
         have HVV := Lib.hid hvv
         clear hvv HVAL
         go_still_tail 17,(by kernel_rfl)
         change wpList _ _ _ _ _ wq.drew
         go_wp2_with fail
         rw [← EA.out]
         go_roundg (hi - lo - (j + 1))
         case measure => rw [HGJ.out]; omega
         case rel =>
          have hd5 := HD4.out.set x.to (.int .u64 (farOf (D' x.to)))
          rw [distCells_set (E := relaxD d D' x) HVV.out.symm (fun y hy => if_neg hy), ← HNX.out] at hd5
          exact ⟨j + 1,by go_num,by omega,rfl,hd5.drew,(HX4.out.other (a := ⟨w.heap.size + 1,x.to,none⟩) (by simp) _).drew,(HB4.out.setCell (p := ⟨w.heap.size + 1,x.to,none⟩) (by simp) _).drew⟩
       ·obtain rfl : j = hi - lo := by omega
        go_wp2_with fail
        go_roundg (h.node.length - (k + 1))
        case measure => rw [HG.out]; omega
        case rel =>
         refine ⟨k + 1,by go_num,by omega,rfl, ?_,HX3.out,HB3.out⟩
         have := HD3.out
         rw [List.take_of_length_le (by rw [LL.out]; exact Nat.le_refl _), ← HST.out] at this
         exact this
    ·obtain rfl : k = h.node.length := by omega
     go_wp2
     go_returns
     exact ⟨w.heap.size + 1,rfl,HD.out,by omega,HB.out⟩
end Go.Proofs.YtchhbgckonpedaaGreatDoor
