/- What QueryTrue needs of the older texts (for bundle3.py: the declarations that are named here). -/
import Derived.Test.YtblkkjfpggcgfaaGreatDoorH28
import Derived.Test.YtblkkjfpggcgfaaGreatDoorH30
import Derived.Test.YtblkkjfpggcgfaaGreatDoorH31
import Derived.Test.YtblkkjfpggcgfaaGreatDoorH17
import Derived.Test.YtblkkjfpggcgfaaGreatDoorH22
import Derived.Test.YtblkkjfpggcgfaaGreatDoorH33
import Derived.Test.YtblkkjfpggcgfaaGreatDoorH34
namespace Go.Proofs.YtblkkjfpggcgfaaGreatDoor
open Go.ChangeShapes Go.WideShapes Go.ChangeAt Go.RowKit Go.Joins Go.Deep
theorem needQ : True := by
  trivial
end Go.Proofs.YtblkkjfpggcgfaaGreatDoor
