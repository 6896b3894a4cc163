/-
  Determinants and turned polynomials: the plain model.
-/
import Derived.Test.YtdohepngandajaaRows
import Derived.Test.YtdohepngandajaaBase
import Derived.Test.YtdohepngandajaaTabs
import Derived.Test.YtdohepngandajaaMat
import Derived.Test.YtdohepngandajaaAlike
import Derived.Test.YtdohepngandajaaJoin
import Derived.Test.YtdohepngandajaaJoinSpec
namespace Go.Proofs.Ytdohepngandajaa
open Go.RowKit Go.Deep Go.Sd

def nineOk (x : Int) : Bool := decide (x ≤ 9)
def smallM (m : List (List Int)) : Bool := isMat m && (decide (m.length ≤ 4) && m.all (fun r => r.all nineOk))

def sgn (j : Nat) : Int := if j % 2 = 0 then 1 else -1
theorem sgn_next (j : Nat) : sgn (j + 1) = -sgn j := by
  unfold sgn
  by_cases h : j % 2 = 0
  · rw [if_pos h, if_neg (by omega)]
  · rw [if_neg h, if_pos (by omega)]; rfl
theorem sgn_bd (j : Nat) : sgn j = 1 ∨ sgn j = -1 := by
  unfold sgn
  by_cases h : j % 2 = 0
  · rw [if_pos h]; exact Or.inl rfl
  · rw [if_neg h]; exact Or.inr rfl

/-- The sum of the first j terms of an expansion by the first row. -/
def detSum (t : List (List Int)) (f : Nat → Int) : Nat → Int
  | 0 => 0
  | j + 1 => if ent t 0 j ≠ 0 then detSum t f j + sgn j * ent t 0 j * f j else detSum t f j
def detR : Nat → List (List Int) → Int
  | 0, _ => 1
  | g + 1, t => detSum t (fun j => detR g (minorT t 0 j (g + 1))) (g + 1)

theorem minorT_sq (t : List (List Int)) (i j n : Nat) : Sq (n - 1) (minorT t i j n) := ⟨tabOf_len _ _ _, fun _ h => mem_tabOf h⟩
theorem minorT_bd {t : List (List Int)} {i j n : Nat} {B : Int} (hs : Sq n t) (h : Bd B t) : Bd B (minorT t i j n) := by
  intro r hr x hx
  obtain ⟨k, hk, rfl⟩ := List.mem_map.1 hr
  obtain ⟨l, hl, rfl⟩ := List.mem_map.1 hx
  have hk2 := List.mem_range.1 hk
  have hl2 := List.mem_range.1 hl
  exact h.ent hs.2 (by rw [hs.1]; exact skip_lt hk2) (skip_lt hl2)

def detB : Nat → Int
  | 0 => 1
  | 1 => 9
  | 2 => 162
  | 3 => 4374
  | _ => 157464
theorem prod_bd {x y X Y : Int} (hx : -X ≤ x ∧ x ≤ X) (hy : -Y ≤ y ∧ y ≤ Y) : -(X * Y) ≤ x * y ∧ x * y ≤ X * Y := by
  have hX : 0 ≤ X := by omega
  have hY : 0 ≤ Y := by omega
  have h1 : x.natAbs * y.natAbs ≤ X.toNat * Y.toNat := Nat.mul_le_mul (by omega) (by omega)
  have h2 : (x * y).natAbs = x.natAbs * y.natAbs := Int.natAbs_mul x y
  have h3 : ((X.toNat * Y.toNat : Nat) : Int) = X * Y := by rw [Int.natCast_mul, Int.toNat_of_nonneg hX, Int.toNat_of_nonneg hY]
  omega
theorem term_bd {j : Nat} {x y Y : Int} (hx : -9 ≤ x ∧ x ≤ 9) (hy : -Y ≤ y ∧ y ≤ Y) : -(9 * Y) ≤ sgn j * x * y ∧ sgn j * x * y ≤ 9 * Y := by
  refine prod_bd ?_ hy
  rcases sgn_bd j with h | h <;> rw [h] <;> omega
theorem detSum_bd {t : List (List Int)} {f : Nat → Int} {n : Nat} {Y : Int} (hs : Sq n t) (h0 : 0 < n) (h : Bd 9 t) (hf : ∀ j, j < n → -Y ≤ f j ∧ f j ≤ Y) (hY : 0 ≤ Y) : ∀ j, j ≤ n → -((j : Int) * (9 * Y)) ≤ detSum t f j ∧ detSum t f j ≤ (j : Int) * (9 * Y)
  | 0, _ => by simp [detSum]
  | j + 1, hj => by
    have h1 := detSum_bd hs h0 h hf hY j (by omega)
    have h2 := term_bd (j := j) (h.ent (i := 0) (j := j) hs.2 (by rw [hs.1]; exact h0) (by omega)) (hf j (by omega))
    have h3 : ((j + 1 : Nat) : Int) * (9 * Y) = (j : Int) * (9 * Y) + 9 * Y := by rw [Int.natCast_add, Int.add_mul]; omega
    rw [h3]
    unfold detSum
    by_cases hz : ent t 0 j ≠ 0
    · rw [if_pos hz]; omega
    · rw [if_neg hz]; omega
theorem detR_bd : ∀ (g : Nat) (t : List (List Int)), g ≤ 4 → Sq g t → Bd 9 t → -(detB g) ≤ detR g t ∧ detR g t ≤ detB g
  | 0, _, _, _, _ => by unfold detR; decide
  | g + 1, t, hg, hs, h => by
    have hf : ∀ j, j < g + 1 → -(detB g) ≤ detR g (minorT t 0 j (g + 1)) ∧ detR g (minorT t 0 j (g + 1)) ≤ detB g := fun j _ => detR_bd g _ (by omega) (minorT_sq t 0 j (g + 1)) (minorT_bd hs h)
    have hY : 0 ≤ detB g := by
      match g, hg with
      | 0, _ => decide
      | 1, _ => decide
      | 2, _ => decide
      | 3, _ => decide
    have h1 := detSum_bd hs (by omega) h hf hY (g + 1) (Nat.le_refl _)
    have h2 : ((g + 1 : Nat) : Int) * (9 * detB g) = detB (g + 1) := by
      match g, hg with
      | 0, _ => decide
      | 1, _ => decide
      | 2, _ => decide
      | 3, _ => decide
    rw [h2] at h1
    exact h1
end Go.Proofs.Ytdohepngandajaa
