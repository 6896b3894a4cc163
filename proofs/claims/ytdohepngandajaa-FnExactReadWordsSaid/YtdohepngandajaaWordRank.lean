/-
  WordRank and IsSynchronizing, both sides; SyncState, the reference's.
-/
import Derived.Test.YtdohepngandajaaRows
import Derived.Test.YtdohepngandajaaBase
import Derived.Test.YtdohepngandajaaLab
import Derived.Test.YtdohepngandajaaLabC
import Derived.Test.YtdohepngandajaaLabM
import Derived.Test.YtdohepngandajaaWord
import Derived.Test.YtdohepngandajaaRead
import Derived.Test.YtdohepngandajaaReadFrom
import Derived.Test.YtdohepngandajaaResolv
import Derived.Test.YtdohepngandajaaRank
import Derived.IntWalk
import Derived.Deep.RegionHeld3
import Derived.Deep.DeepCutAuto
namespace Go.Proofs.Ytdohepngandajaa
open Go.RowKit Go.Deep Go.Sd

def rankM (l : Lb) (s : ByteArray) : Int := if (resolvM l && wordM l.1 s) = true then (popN (readB l.2.2 s.data.toList (allN l.2.1)) : Int) else -1
def syncM (l : Lb) (s : ByteArray) : Int := if (resolvM l && wordM l.1 s) = true then onlyN (readB l.2.2 s.data.toList (allN l.2.1)) else -1
theorem resolvM_lab {l : Lb} (h : resolvM l = true) : isLab l = true := by
  unfold resolvM at h
  rw [Bool.and_eq_true] at h
  exact h.1
theorem rank_sync (l : Lb) (s : ByteArray) : decide (rankM l s = 1) = decide (0 ≤ syncM l s) := by
  unfold rankM syncM
  by_cases h : (resolvM l && wordM l.1 s) = true
  · rw [if_pos h, if_pos h]
    rw [Bool.and_eq_true] at h
    obtain ⟨ho, _, hS, _⟩ := isLab_ok (resolvM_lab h.1)
    have h1 := only_pop _ (readB_lt ho hS s.data.toList (allN l.2.1) (allN_lt hS))
    rw [← h1]
    exact decide_eq_decide.2 ⟨fun h => by omega, fun h => by omega⟩
  · rw [if_neg h, if_neg h]
    decide
theorem rankM_bd (l : Lb) (s : ByteArray) : -1 ≤ rankM l s ∧ rankM l s ≤ 12 := by
  unfold rankM
  split
  · have := popL_le 12 (readB l.2.2 s.data.toList (allN l.2.1)); unfold popN; omega
  · omega
theorem syncM_bd (l : Lb) (s : ByteArray) : -1 ≤ syncM l s ∧ syncM l s ≤ 12 := by
  unfold syncM
  split
  · have := onlyL_bd (readB l.2.2 s.data.toList (allN l.2.1)) 12 0; unfold onlyN; omega
  · omega
end Go.Proofs.Ytdohepngandajaa
