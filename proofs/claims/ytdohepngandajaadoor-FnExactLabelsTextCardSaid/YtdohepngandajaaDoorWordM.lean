/-
  All words of a length, in order: the model.
-/
import Derived.Test.YtdohepngandajaaDoorBase
import Derived.Test.YtdohepngandajaaDoorShortCl
namespace Go.Proofs.YtdohepngandajaaDoor
open Go.RowKit Go.Deep Go.Sd
def wordD (L : Nat) : Nat → Nat → List Nat
  | 0, _ => []
  | n + 1, i => wordD L n (i / L) ++ [i % L]
def allW (L : Nat) : Nat → List (List Nat)
  | 0 => [[]]
  | n + 1 => (allW L n).flatMap fun w => (List.range L).map fun x => w ++ [x]
theorem range_mul (b : Nat) : ∀ a : Nat, List.range (a * b) = (List.range a).flatMap fun j => (List.range b).map fun x => j * b + x
  | 0 => by simp
  | a + 1 => by
    rw [Nat.add_mul, Nat.one_mul, List.range_add, range_mul b a, List.range_succ, List.flatMap_append]
    simp
theorem allW_eq {L : Nat} (hL : 0 < L) : ∀ n : Nat, allW L n = (List.range (L ^ n)).map (wordD L n)
  | 0 => by simp [allW, wordD]
  | n + 1 => by
    unfold allW
    rw [allW_eq hL n, Nat.pow_succ, range_mul, List.map_flatMap, List.flatMap_map]
    congr 1
    funext j
    rw [List.map_map]
    apply List.map_congr_left
    intro x hx
    have hx' : x < L := List.mem_range.1 hx
    simp only [Function.comp, wordD]
    rw [Nat.mul_comm j L, Nat.mul_add_div hL, Nat.mul_add_mod, Nat.div_eq_of_lt hx', Nat.mod_eq_of_lt hx', Nat.add_zero]
theorem allW_len {L : Nat} (hL : 0 < L) (n : Nat) : (allW L n).length = L ^ n := by rw [allW_eq hL]; simp
theorem wordD_len (L : Nat) : ∀ n i : Nat, (wordD L n i).length = n
  | 0, _ => rfl
  | n + 1, i => by simp [wordD, wordD_len L n]
theorem wordD_lt {L : Nat} (hL : 0 < L) : ∀ (n i x : Nat), x ∈ wordD L n i → x < L
  | 0, _, _, h => by cases h
  | n + 1, i, x, h => by
    rcases List.mem_append.1 h with h | h
    · exact wordD_lt hL n _ x h
    · simp at h; subst h; exact Nat.mod_lt _ hL
theorem allW_mem {L : Nat} (hL : 0 < L) {n : Nat} {w : List Nat} (h : w ∈ allW L n) : w.length = n ∧ ∀ x, x ∈ w → x < L := by
  rw [allW_eq hL] at h
  obtain ⟨i, _, rfl⟩ := List.mem_map.1 h
  exact ⟨wordD_len L n i, wordD_lt hL n i⟩
theorem wordT_size (w : List Nat) : (wordT w).size = w.length := by simp [wordT, ByteArray.size]
theorem pow_le {L n : Nat} (hL : L ≤ 3) (hn : n ≤ 6) : L ^ n ≤ 729 :=
  Nat.le_trans (Nat.pow_le_pow_left hL n) (Nat.pow_le_pow_right (by decide) hn)
end Go.Proofs.YtdohepngandajaaDoor
