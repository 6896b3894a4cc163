/-
  LeastPaths and CountOrbits, both sides.
-/
import Derived.Test.YtiecliglmfampaaRows
import Derived.Test.YtiecliglmfampaaBase
import Derived.Test.YtiecliglmfampaaTabs
import Derived.Test.YtiecliglmfampaaMat
import Derived.Test.YtiecliglmfampaaMoeb
import Derived.Test.YtiecliglmfampaaPower
namespace Go.Proofs.Ytiecliglmfampaa
open Go.RowKit Go.Deep Go.Sd

def lpTerm (m : List (List Int)) (n d : Int) : Int := if n % d = 0 then moeb (n / d) * closedM m d else 0
def lpSum (m : List (List Int)) (n : Int) : Nat → Int
  | 0 => 0
  | k + 1 => lpSum m n k + lpTerm m n ((k : Int) + 1)
def leastM (m : List (List Int)) (n : Int) : Int := if 12 < n ∨ closedM m n < 0 then -1 else lpSum m n n.toNat
def orbitM (m : List (List Int)) (n : Int) : Int := if leastM m n < 0 then -1 else leastM m n / n

theorem closedM_bd (m : List (List Int)) (n : Int) : -9000000 ≤ closedM m n ∧ closedM m n ≤ 9000000 := by
  unfold closedM
  by_cases h : 1 ≤ n ∧ pwOk m n = true
  · rw [if_pos h]
    have hm := pwV_isMat h.2
    have h1 := trF_bd hm _ (Nat.le_refl _)
    have h2 := (isMat_sq hm).2
    omega
  · rw [if_neg h]; omega
theorem closedM_pos {m : List (List Int)} {n : Int} (h : ¬ closedM m n < 0) : 1 ≤ n := by
  by_cases h1 : 1 ≤ n
  · exact h1
  · exact absurd (show closedM m n < 0 from by unfold closedM; rw [if_neg (fun h => h1 h.1)]; omega) h
theorem mul_bd2 {x y : Int} (hx : -1000 ≤ x ∧ x ≤ 1000) (hy : -9000000 ≤ y ∧ y ≤ 9000000) : -9000000000 ≤ x * y ∧ x * y ≤ 9000000000 := by
  have h1 : x.natAbs * y.natAbs ≤ 1000 * 9000000 := Nat.mul_le_mul (by omega) (by omega)
  have h2 : (x * y).natAbs = x.natAbs * y.natAbs := Int.natAbs_mul x y
  omega
theorem lpTerm_bd (m : List (List Int)) (n d : Int) : -9000000000 ≤ lpTerm m n d ∧ lpTerm m n d ≤ 9000000000 := by
  unfold lpTerm
  by_cases h : n % d = 0
  · rw [if_pos h]; exact mul_bd2 (moeb_bd _) (closedM_bd _ _)
  · rw [if_neg h]; omega
theorem lpSum_bd (m : List (List Int)) (n : Int) : ∀ k : Nat, -((k : Int) * 9000000000) ≤ lpSum m n k ∧ lpSum m n k ≤ (k : Int) * 9000000000
  | 0 => by show _ ≤ (0 : Int) ∧ (0 : Int) ≤ _; omega
  | k + 1 => by
    have h1 := lpSum_bd m n k
    have h2 := lpTerm_bd m n ((k : Int) + 1)
    show _ ≤ lpSum m n k + lpTerm m n ((k : Int) + 1) ∧ lpSum m n k + lpTerm m n ((k : Int) + 1) ≤ _
    omega
theorem leastM_pos {m : List (List Int)} {n : Int} (h : ¬ leastM m n < 0) : 1 ≤ n := by
  by_cases h1 : 12 < n ∨ closedM m n < 0
  · exact absurd (show leastM m n < 0 from by unfold leastM; rw [if_pos h1]; omega) h
  · exact closedM_pos fun h2 => h1 (Or.inr h2)
theorem leastM_bd (m : List (List Int)) (n : Int) : -108000000000 ≤ leastM m n ∧ leastM m n ≤ 108000000000 := by
  unfold leastM
  by_cases h : 12 < n ∨ closedM m n < 0
  · rw [if_pos h]; omega
  · rw [if_neg h]
    have := lpSum_bd m n n.toNat
    omega
end Go.Proofs.Ytiecliglmfampaa
