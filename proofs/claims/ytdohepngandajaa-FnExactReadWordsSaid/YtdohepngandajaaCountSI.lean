/-
  CountSync, the program's.
-/
import Derived.Test.YtdohepngandajaaRows
import Derived.Test.YtdohepngandajaaBase
import Derived.Test.YtdohepngandajaaHarn
import Derived.Test.YtdohepngandajaaLab
import Derived.Test.YtdohepngandajaaLabC
import Derived.Test.YtdohepngandajaaLabM
import Derived.Test.YtdohepngandajaaResolv
import Derived.Test.YtdohepngandajaaRead
import Derived.Test.YtdohepngandajaaReadFrom
import Derived.Test.YtdohepngandajaaRank
import Derived.Test.YtdohepngandajaaWordRank
import Derived.Test.YtdohepngandajaaLeastRS
import Derived.Test.YtdohepngandajaaWordM
import Derived.Test.YtdohepngandajaaWordI
import Derived.Test.YtdohepngandajaaL2All
import Derived.Test.YtdohepngandajaaWalkH
import Derived.IntWalk
import Derived.Deep.RegionHeld3
import Derived.Deep.DeepCutAuto
namespace Go.Proofs.Ytdohepngandajaa
open Go.RowKit Go.Deep Go.Sd
set_option linter.unusedSimpArgs false
/-- Where a word leads from all states. -/
def endN (l : Lb) (wd : List Nat) : Nat := readB l.2.2 (wordT wd).data.toList (allN l.2.1)
def cntF (l : Lb) (wd : List Nat) : Bool := decide (popN (endN l wd) = 1)
def countM (l : Lb) (n : Int) : Int := if (resolvM l && decide (0 ≤ n ∧ n ≤ 6)) = true then (((allW l.1.toNat n.toNat).filter (cntF l)).length : Int) else -1
theorem wordT_bytes {wd : List Nat} (hw : ∀ x, x ∈ wd → x < 3) : ∀ c, c ∈ (wordT wd).data.toList → 97 ≤ c.toNat ∧ c.toNat < 100 := by
  intro c hc
  have h1 : (wordT wd).data.toList = wd.map fun x => UInt8.ofNat (97 + x) := rfl
  rw [h1] at hc
  obtain ⟨x, hx, rfl⟩ := List.mem_map.1 hc
  have := hw x hx
  have e4 : (UInt8.ofNat (97 + x)).toNat = 97 + x := by simp; omega
  omega
end Go.Proofs.Ytdohepngandajaa
