/-
  LeastRank, the reference's.
-/
import Derived.Test.YtdohepngandajaaDoorRows
import Derived.Test.YtdohepngandajaaDoorBase
import Derived.Test.YtdohepngandajaaDoorHarn
import Derived.Test.YtdohepngandajaaDoorLab
import Derived.Test.YtdohepngandajaaDoorLabC
import Derived.Test.YtdohepngandajaaDoorLabM
import Derived.Test.YtdohepngandajaaDoorResolv
import Derived.Test.YtdohepngandajaaDoorRank
import Derived.Test.YtdohepngandajaaDoorWordRank
import Derived.Test.YtdohepngandajaaDoorBfsM
import Derived.Test.YtdohepngandajaaDoorSets
import Derived.IntWalk
import Derived.Deep.RegionHeld3
import Derived.Deep.DeepCutAuto
namespace Go.Proofs.YtdohepngandajaaDoor
open Go.RowKit Go.Deep Go.Sd
set_option linter.unusedSimpArgs false
def popI (s : Nat) : Int := (popN s : Int)
def leastRM (l : Lb) : Int := if resolvM l = true then (bfsS l.2.2 l.1.toNat 4096 [allN l.2.1] 0 []).1.foldl (minF popI) l.2.1 else 0
theorem resolv_facts {l : Lb} (h : resolvM l = true) : okArcs l.2.1 l.2.2 ∧ 1 ≤ l.2.1 ∧ l.2.1 ≤ 12 ∧ 1 ≤ l.1 ∧ l.1 ≤ 3 := isLab_ok (resolvM_lab h)
theorem bfs_ok {xs : List Arc3} {S : Int} (ho : okArcs S xs) (hS1 : 1 ≤ S) (hS2 : S ≤ 12) (L : Nat) : ∀ (f : Nat) (sets : List Nat) (k : Nat) (next : List (List Int)), OkS sets → OkS (bfsS xs L f sets k next).1
  | 0, _, _, _, h => h
  | f + 1, sets, k, next, h => by
    unfold bfsS
    split
    · exact h
    · exact bfs_ok ho hS1 hS2 L f _ _ _ (rowS_ok (fun s x => stepN_lt ho hS2 s x) _ _ _ _ _ h)
theorem all_ok {S : Int} (hS1 : 1 ≤ S) (hS2 : S ≤ 12) : OkS [allN S] := by
  have h1 := allN_lt hS2
  have h2 : 2 ^ 1 ≤ 2 ^ S.toNat := Nat.pow_le_pow_right (by decide) (by omega)
  refine ⟨by simp, fun s hs => ?_⟩
  simp at hs
  subst hs
  exact ⟨by unfold allN; omega, h1⟩
theorem minF_eq (f : Nat → Int) (a : Int) (s : Nat) : minF f a s = if a < f s then a else f s := by
  unfold minF
  split <;> split <;> omega
end Go.Proofs.YtdohepngandajaaDoor
