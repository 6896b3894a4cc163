/-
  ReadSame, the reference's.
-/
import Derived.Test.YtdohepngandajaaRows
import Derived.Test.YtdohepngandajaaBase
import Derived.Test.YtdohepngandajaaHarn
import Derived.Test.YtdohepngandajaaLab
import Derived.Test.YtdohepngandajaaLabC
import Derived.Test.YtdohepngandajaaLabM
import Derived.Test.YtdohepngandajaaLabVS
import Derived.Test.YtdohepngandajaaLabStep
import Derived.Test.YtdohepngandajaaReadFrom
import Derived.Test.YtdohepngandajaaReadP
import Derived.Test.YtdohepngandajaaSep
import Derived.Test.YtdohepngandajaaWalkH
import Derived.IntWalk
import Derived.Deep.RegionHeld3
import Derived.Deep.DeepCutAuto
namespace Go.Proofs.Ytdohepngandajaa
open Go.RowKit Go.Deep Go.Sd

theorem readSame_eq (a b : Lb) : readSameM a b = if isLab a = true then (if isLab b = true then (if a.1 = b.1 then (open Classical in decide (goodP a.2.2 b.2.2 a.1.toNat (2 ^ a.2.1.toNat - 1, 2 ^ b.2.1.toNat - 1))) else false) else false) else false := by
  unfold readSameM
  cases isLab a <;> cases isLab b <;> by_cases h : a.1 = b.1 <;> simp [h]
abbrev fstL (ps : List P2) : List Int := ps.map fun p => (p.1 : Int)
abbrev sndL (ps : List P2) : List Int := ps.map fun p => (p.2 : Int)
end Go.Proofs.Ytdohepngandajaa
