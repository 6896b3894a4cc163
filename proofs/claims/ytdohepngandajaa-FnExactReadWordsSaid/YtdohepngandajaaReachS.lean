/-
  reachSets with ShortestSync's closure.
-/
import Derived.Test.YtdohepngandajaaRows
import Derived.Test.YtdohepngandajaaBase
import Derived.Test.YtdohepngandajaaHarn
import Derived.Test.YtdohepngandajaaLab
import Derived.Test.YtdohepngandajaaLabC
import Derived.Test.YtdohepngandajaaLabM
import Derived.Test.YtdohepngandajaaLabStep
import Derived.Test.YtdohepngandajaaReadFrom
import Derived.Test.YtdohepngandajaaBfsM
import Derived.Test.YtdohepngandajaaReachK
import Derived.Test.YtdohepngandajaaWalkH
import Derived.Test.YtdohepngandajaaShortCl
import Derived.IntWalk
import Derived.Deep.RegionHeld3
import Derived.Deep.DeepCutAuto
namespace Go.Proofs.Ytdohepngandajaa
open Go.RowKit Go.Deep Go.Sd Go.Maps
set_option linter.unusedSimpArgs false
def InvS (N : Nat) (es : List Ent) : Prop := Capped 16 es ∧ LetsE N es
end Go.Proofs.Ytdohepngandajaa
