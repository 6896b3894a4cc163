/-
  reachSets with ShortestSync's closure.
-/
import Derived.Test.YtdohepngandajaaDoorRows
import Derived.Test.YtdohepngandajaaDoorBase
import Derived.Test.YtdohepngandajaaDoorHarn
import Derived.Test.YtdohepngandajaaDoorLab
import Derived.Test.YtdohepngandajaaDoorLabC
import Derived.Test.YtdohepngandajaaDoorLabM
import Derived.Test.YtdohepngandajaaDoorLabStep
import Derived.Test.YtdohepngandajaaDoorReadFrom
import Derived.Test.YtdohepngandajaaDoorBfsM
import Derived.Test.YtdohepngandajaaDoorReachK
import Derived.Test.YtdohepngandajaaDoorWalkH
import Derived.Test.YtdohepngandajaaDoorShortCl
import Derived.IntWalk
import Derived.Deep.RegionHeld3
import Derived.Deep.DeepCutAuto
namespace Go.Proofs.YtdohepngandajaaDoor
open Go.RowKit Go.Deep Go.Sd Go.Maps
set_option linter.unusedSimpArgs false
def InvS (N : Nat) (es : List Ent) : Prop := Capped 16 es ∧ LetsE N es
end Go.Proofs.YtdohepngandajaaDoor
