/-
  A Bool holds of all numbers from one on.
-/
import Derived.Test.YtdohepngandajaaDoorBase
namespace Go.Proofs.YtdohepngandajaaDoor
open Go.RowKit Go.Deep Go.Sd
/-- All of the next g numbers from k on. -/
def allF (h : Nat → Bool) : Nat → Nat → Bool
  | 0, _ => true
  | g + 1, k => if h k = true then allF h g (k + 1) else false
end Go.Proofs.YtdohepngandajaaDoor
