/- A rule for regions with many orders: an invariant from operation to operation. -/
import Derived.Deep.RegionHeld3
import Derived.Test.YtblkkjfpggcgfaaGreatDoorH1
import Derived.Test.YtblkkjfpggcgfaaGreatDoorH17
import Derived.Deep.DeepCutAuto
import Derived.Deep.CutRange
namespace Go.Proofs.YtblkkjfpggcgfaaGreatDoor
open Go
end Go.Proofs.YtblkkjfpggcgfaaGreatDoor
/- Region 14 of the reference's look at one link: the ends of a link and of its two children (three calls in a chain, three allocs in any order, three stores). -/
namespace Go.Proofs.YtblkkjfpggcgfaaGreatDoor
open Go.ChangeShapes Go.WideShapes Go.ChangeAt Go.RowKit Go.Joins Go.Deep
def regionAt (n : Nat) : Code → Option Code
  | .region i ops d => if i = n then some (.region i ops d) else none
  | .seq a b => match regionAt n a with
    | some c => some c
    | none => regionAt n b
  | .cond _ a b => match regionAt n a with
    | some c => some c
    | none => regionAt n b
  | .block _ c => regionAt n c
  | .loop c => regionAt n c
  | .scope c => regionAt n c
  | _ => none
end Go.Proofs.YtblkkjfpggcgfaaGreatDoor
/- The reference's look at one link: what its parts use. -/
namespace Go.Proofs.YtblkkjfpggcgfaaGreatDoor
open Go.ChangeShapes Go.WideShapes Go.ChangeAt Go.RowKit Go.Joins Go.Deep
def tailAt : Nat → Code → Code
  | 0, c => c
  | k + 1, .seq _ b => tailAt k b
  | _ + 1, c => c
structure LK (A : HA) (h : HierD) (l : LinkD) (w : World) (bl be bD : Nat) (e1 e2 : List Value) (x1 x2 : EV) (wx : World) : Prop where
  l : Cells wx bl 63 (linkCells l)
  x : Cells wx w.heap.size 25 (hierCells A h)
  r : Cells wx (w.heap.size + 1) 51 errZero
  b : Below w.heap.size w wx
  e : Cells wx be 51 e1
  d : Cells wx bD 51 e2
  u : ErrV wx (.agg e1.toArray) x1
  v : ErrV wx (.agg e2.toArray) x2
theorem LK.below {A : HA} {h : HierD} {l : LinkD} {w : World} {bl be bD : Nat} {e1 e2 : List Value} {x1 x2 : EV} {wx wy : World} (k : LK A h l w bl be bD e1 e2 x1 x2 wx) (o : Below wx.heap.size wx wy) : LK A h l w bl be bD e1 e2 x1 x2 wy :=
  ⟨k.l.below o k.l.lt, k.x.below o k.x.lt, k.r.below o k.r.lt, k.b.trans (o.mono k.b.size), k.e.below o k.e.lt, k.d.below o k.d.lt, k.u.below o, k.v.below o⟩
theorem LK.drew {A : HA} {h : HierD} {l : LinkD} {w : World} {bl be bD : Nat} {e1 e2 : List Value} {x1 x2 : EV} {wx : World} (k : LK A h l w bl be bD e1 e2 x1 x2 wx) : LK A h l w bl be bD e1 e2 x1 x2 wx.drew := k.below (Below.refl _ _).drew
end Go.Proofs.YtblkkjfpggcgfaaGreatDoor
/- The reference's look at one link: its weights. -/
namespace Go.Proofs.YtblkkjfpggcgfaaGreatDoor
open Go.ChangeShapes Go.WideShapes Go.ChangeAt Go.RowKit Go.Joins Go.Deep
end Go.Proofs.YtblkkjfpggcgfaaGreatDoor
/- The reference's look at one link: its children and their ends. -/
namespace Go.Proofs.YtblkkjfpggcgfaaGreatDoor
open Go.ChangeShapes Go.WideShapes Go.ChangeAt Go.RowKit Go.Joins Go.Deep
end Go.Proofs.YtblkkjfpggcgfaaGreatDoor
