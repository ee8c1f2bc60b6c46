/- Each of a hierarchy's slices is nil, or has a place. -/
import Derived.Test.YtjbphoophgbmiaaTurn3
namespace Go.Proofs.Ytjbphoophgbmiaa

structure HForm (A : HA) : Prop where
  f0 : SForm A.a0 A.c0
  f1 : SForm A.a1 A.c1
  f2 : SForm A.a2 A.c2
  f3 : SForm A.a3 A.c3
  f4 : SForm A.a4 A.c4
end Go.Proofs.Ytjbphoophgbmiaa
