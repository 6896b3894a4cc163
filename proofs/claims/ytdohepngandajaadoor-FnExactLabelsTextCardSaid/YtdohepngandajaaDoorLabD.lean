/-
  Which labelled graphs are valid: the model.
-/
import Derived.Test.YtdohepngandajaaDoorRows
import Derived.Test.YtdohepngandajaaDoorBase
import Derived.Test.YtdohepngandajaaDoorAllF
import Derived.Test.YtdohepngandajaaDoorLab
import Derived.Test.YtdohepngandajaaDoorLabC
namespace Go.Proofs.YtdohepngandajaaDoor
open Go.RowKit Go.Deep Go.Sd

def at3 (xs : List Arc3) (k : Nat) : Arc3 := xs.getD k (0, 0, 0)
theorem at3_of {xs : List Arc3} {k : Nat} {x : Arc3} (h : xs[k]? = some x) : at3 xs k = x := by simp [at3, List.getD, h]
def arcOk (L S : Int) (x : Arc3) : Bool := decide (0 ≤ x.1 ∧ x.1 < S ∧ 0 ≤ x.2.1 ∧ x.2.1 < S ∧ 0 ≤ x.2.2 ∧ x.2.2 < L)
def arcB (L S : Int) (xs : List Arc3) (k : Nat) : Bool := arcOk L S (at3 xs k) && (decide (k = 0) || before (at3 xs (k - 1)) (at3 xs k))
def isLab (l : Lb) : Bool := decide (1 ≤ l.1 ∧ l.1 ≤ 3) && (decide (1 ≤ l.2.1 ∧ l.2.1 ≤ 12) && allF (arcB l.1 l.2.1 l.2.2) l.2.2.length 0)

end Go.Proofs.YtdohepngandajaaDoor
