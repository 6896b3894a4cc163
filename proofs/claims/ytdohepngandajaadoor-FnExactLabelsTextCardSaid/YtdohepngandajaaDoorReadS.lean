/-
  ReadSame, the reference's.
-/
import Derived.Test.YtdohepngandajaaDoorRows
import Derived.Test.YtdohepngandajaaDoorBase
import Derived.Test.YtdohepngandajaaDoorHarn
import Derived.Test.YtdohepngandajaaDoorLab
import Derived.Test.YtdohepngandajaaDoorLabC
import Derived.Test.YtdohepngandajaaDoorLabM
import Derived.Test.YtdohepngandajaaDoorLabVS
import Derived.Test.YtdohepngandajaaDoorLabStep
import Derived.Test.YtdohepngandajaaDoorReadFrom
import Derived.Test.YtdohepngandajaaDoorReadP
import Derived.Test.YtdohepngandajaaDoorSep
import Derived.Test.YtdohepngandajaaDoorWalkH
import Derived.IntWalk
import Derived.Deep.RegionHeld3
import Derived.Deep.DeepCutAuto
namespace Go.Proofs.YtdohepngandajaaDoor
open Go.RowKit Go.Deep Go.Sd

theorem readSame_eq (a b : Lb) : readSameM a b = if isLab a = true then (if isLab b = true then (if a.1 = b.1 then (open Classical in decide (goodP a.2.2 b.2.2 a.1.toNat (2 ^ a.2.1.toNat - 1, 2 ^ b.2.1.toNat - 1))) else false) else false) else false := by
  unfold readSameM
  cases isLab a <;> cases isLab b <;> by_cases h : a.1 = b.1 <;> simp [h]
abbrev fstL (ps : List P2) : List Int := ps.map fun p => (p.1 : Int)
abbrev sndL (ps : List P2) : List Int := ps.map fun p => (p.2 : Int)
end Go.Proofs.YtdohepngandajaaDoor
