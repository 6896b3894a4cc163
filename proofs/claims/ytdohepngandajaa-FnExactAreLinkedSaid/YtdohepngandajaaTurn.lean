/-
  Rows and columns exchanged: pure part.
-/
import Derived.Test.YtdohepngandajaaRows
import Derived.Test.YtdohepngandajaaBase
import Derived.Test.YtdohepngandajaaTabs
import Derived.Test.YtdohepngandajaaMat
import Derived.Test.YtdohepngandajaaAlike
import Derived.Test.YtdohepngandajaaZero
namespace Go.Proofs.Ytdohepngandajaa
open Go.RowKit Go.Deep Go.Sd

def turnT (m : List (List Int)) (n : Nat) : List (List Int) := tabOf n n (fun i j => ent m j i)
def turnV (m : List (List Int)) : List (List Int) := if isMat m = true then turnT m m.length else []
theorem turnT_sq (m : List (List Int)) (n : Nat) : Sq n (turnT m n) := ⟨tabOf_len _ _ _, fun _ h => mem_tabOf h⟩
theorem turnT_bd {m : List (List Int)} {n : Nat} (h : n ≤ 9) : (turnT m n).length ≤ 9 ∧ ∀ x, x ∈ turnT m n → x.length ≤ 9 := ⟨by rw [(turnT_sq m n).1]; exact h, fun x hx => by rw [(turnT_sq m n).2 x hx]; exact h⟩

/-- The table being turned row by row: rows before i are in. -/
def turnF (m : List (List Int)) (n i k : Nat) : List (List Int) := tabOf n n (fun r c => if c < i ∨ (c = i ∧ r < k) then ent m c r else 0)
theorem turnF_start (m : List (List Int)) (n : Nat) : turnF m n 0 0 = List.replicate n (List.replicate n 0) := by
  rw [← tabOf_const]
  exact tabOf_congr fun i _ j _ => if_neg (by omega)
theorem turnF_row {m : List (List Int)} {n i k : Nat} (hk : k < n) : (turnF m n i k)[k]? = some (rowOf' n (fun c => if c < i ∨ (c = i ∧ k < k) then ent m c k else 0)) := tabOf_at hk
theorem turnF_at {m : List (List Int)} {n i k : Nat} (hi : i < n) : (rowOf' n (fun c => if c < i ∨ (c = i ∧ k < k) then ent m c k else 0))[i]? = some 0 := by
  rw [rowOf_at hi, if_neg (by omega)]
theorem turnF_set {m : List (List Int)} {n i k : Nat} :
    (turnF m n i k).set k ((rowOf' n (fun c => if c < i ∨ (c = i ∧ k < k) then ent m c k else 0)).set i (ent m i k)) = turnF m n i (k + 1) := by
  unfold turnF
  rw [tabOf_set2 n n (fun r c => if c < i ∨ (c = i ∧ r < k) then ent m c r else 0) k i]
  refine tabOf_congr fun r _ c _ => ?_
  show (if r = k ∧ c = i then ent m i k else if c < i ∨ (c = i ∧ r < k) then ent m c r else 0) = if c < i ∨ (c = i ∧ r < k + 1) then ent m c r else 0
  by_cases h : r = k ∧ c = i
  · obtain ⟨rfl, rfl⟩ := h
    rw [if_pos ⟨rfl, rfl⟩, if_pos (by omega)]
  · rw [if_neg h]
    by_cases h2 : c < i ∨ (c = i ∧ r < k)
    · rw [if_pos h2, if_pos (by omega)]
    · rw [if_neg h2, if_neg (by omega)]
theorem turnF_next {m : List (List Int)} {n i : Nat} : turnF m n i n = turnF m n (i + 1) 0 := tabOf_congr fun r _ c _ => by
  by_cases h : c < i ∨ (c = i ∧ r < n)
  · rw [if_pos h, if_pos (by omega)]
  · rw [if_neg h, if_neg (by omega)]
theorem turnF_end {m : List (List Int)} {n : Nat} : turnF m n n 0 = turnT m n := tabOf_congr fun r _ c _ => by rw [if_pos (by omega)]
end Go.Proofs.Ytdohepngandajaa
