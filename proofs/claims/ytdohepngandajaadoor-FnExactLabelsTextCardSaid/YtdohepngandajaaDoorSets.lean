/-
  The sets that are reached, and where each letter leads from each: the reference's l15Sets.
-/
import Derived.Test.YtdohepngandajaaDoorRows
import Derived.Test.YtdohepngandajaaDoorBase
import Derived.Test.YtdohepngandajaaDoorHarn
import Derived.Test.YtdohepngandajaaDoorLab
import Derived.Test.YtdohepngandajaaDoorLabC
import Derived.Test.YtdohepngandajaaDoorLabM
import Derived.Test.YtdohepngandajaaDoorLabStep
import Derived.Test.YtdohepngandajaaDoorReadFrom
import Derived.Test.YtdohepngandajaaDoorBfsM
import Derived.Test.YtdohepngandajaaDoorSep
import Derived.Test.YtdohepngandajaaDoorWalkH
import Derived.Test.YtdohepngandajaaDoorPairLib
import Derived.IntWalk
import Derived.Deep.RegionHeld3
import Derived.Deep.DeepCutAuto
namespace Go.Proofs.YtdohepngandajaaDoor
open Go.RowKit Go.Deep Go.Sd
set_option linter.unusedSimpArgs false
abbrev natL (xs : List Nat) : List Int := xs.map fun s : Nat => (s : Int)
theorem idx_at {sets : List Nat} (h : sets.Nodup) {i t : Nat} (hi : sets[i]? = some t) : sets.idxOf t = i := by
  obtain ⟨hl, e⟩ := List.getElem?_eq_some_iff.1 hi
  have hm : t ∈ sets := List.mem_of_getElem? hi
  have h1 : sets.idxOf t < sets.length := List.idxOf_lt_length_iff.2 hm
  have h2 : sets[sets.idxOf t] = t := List.getElem_idxOf h1
  rcases Nat.lt_trichotomy (sets.idxOf t) i with h3 | h3 | h3
  · exact absurd (h2.trans e.symm) (List.pairwise_iff_getElem.1 h _ _ h1 hl h3)
  · exact h3
  · exact absurd (e.trans h2.symm) (List.pairwise_iff_getElem.1 h _ _ hl h1 h3)
end Go.Proofs.YtdohepngandajaaDoor
