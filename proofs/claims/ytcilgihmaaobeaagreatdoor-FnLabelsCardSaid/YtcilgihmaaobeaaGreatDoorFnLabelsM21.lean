/-
  Laws for this claim's walks, contracts of the functions that it reaches.
-/
import Derived.Test.YtcilgihmaaobeaaGreatDoorFnLabelsM13
import Derived.Test.YtcilgihmaaobeaaGreatDoorFnLabelsM14
set_option linter.unusedVariables false
set_option linter.unusedSimpArgs false
section
namespace Go.Proofs.YtcilgihmaaobeaaGreatDoor
open Go.RowKit Go.Deep Go.Sd

def resB (xs : List Arc3) (k : Nat) : Bool := decide (k = 0) || !(decide ((at3 xs (k - 1)).1 = (at3 xs k).1) && decide ((at3 xs (k - 1)).2.2 = (at3 xs k).2.2))
def resolvM (l : Lb) : Bool := isLab l && allF (resB l.2.2) l.2.2.length 0
end Go.Proofs.YtcilgihmaaobeaaGreatDoor
end
