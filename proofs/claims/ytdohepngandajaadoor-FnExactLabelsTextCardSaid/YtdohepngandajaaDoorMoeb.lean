/-
  The function of Moebius: the program's and the reference's both return 'moeb n'.
-/
import Derived.Test.YtdohepngandajaaDoorRows
import Derived.Test.YtdohepngandajaaDoorBase
namespace Go.Proofs.YtdohepngandajaaDoor
open Go.RowKit Go.Deep Go.Sd

/-- The loop, by rounds that are left. -/
def moebLoop : Nat → Int → Int → Int → Int
  | 0, _, _, out => out
  | f + 1, n, p, out => if p ≤ n then (if n % p ≠ 0 then moebLoop f n (p + 1) out else if (n / p) % p = 0 then 0 else moebLoop f (n / p) (p + 1) (-out)) else out
def moeb (n : Int) : Int := if n < 1 ∨ 1000 < n then 0 else moebLoop (n.toNat + 1) n 2 1

theorem moebLoop_stop (f : Nat) (n p out : Int) (h : n < p) : moebLoop f n p out = out := by
  cases f with
  | zero => rfl
  | succ f => unfold moebLoop; rw [if_neg (by omega)]

theorem div_bd (n p : Int) (h0 : 1 ≤ n) (h1 : 2 ≤ p) (h2 : n % p = 0) : 1 ≤ n / p ∧ n / p ≤ n := by
  have h3 := Int.emod_add_mul_ediv n p
  have h4 : n = p * (n / p) := by omega
  have h5 : 0 < n / p := by
    rcases Int.lt_or_le 0 (n / p) with h | h
    · exact h
    · have : p * (n / p) ≤ 0 := Int.mul_nonpos_of_nonneg_of_nonpos (by omega) h
      omega
  have h6 : 1 * (n / p) ≤ p * (n / p) := Int.mul_le_mul_of_nonneg_right (by omega) (by omega)
  omega

theorem moeb_bd (n : Int) : -1000 ≤ moeb n ∧ moeb n ≤ 1000 := by
  have h : ∀ (f : Nat) (n p out : Int), -1 ≤ out → out ≤ 1 → -1 ≤ moebLoop f n p out ∧ moebLoop f n p out ≤ 1 := by
    intro f
    induction f with
    | zero => intro n p out h0 h1; exact ⟨h0, h1⟩
    | succ f ih =>
      intro n p out h0 h1
      unfold moebLoop
      split
      · split
        · exact ih _ _ _ h0 h1
        · split
          · omega
          · exact ih _ _ _ (by omega) (by omega)
      · omega
  unfold moeb
  split
  · omega
  · have := h (n.toNat + 1) n 2 1 (by omega) (by omega); omega

theorem l1In_c (a b c : Int) (w : World) :
    Calls Tryd.prog 29 #[.int .i64 a, .int .i64 b, .int .i64 c] w fun e w' => e = .returned (.bool (decide (b ≤ a) && decide (a ≤ c))) ∧ w = w' := by
  by_cases h1 : b ≤ a <;> by_cases h2 : a ≤ c
  all_goals
    go_enter Tryd.func29, Tryd.ntmps29
    go_wp2
    go_ret
    exact ⟨by simp [*], rfl⟩
theorem l1In_yes {a b c : Int} (w : World) (h1 : b ≤ a) (h2 : a ≤ c) : Calls Tryd.prog 29 #[.int .i64 a, .int .i64 b, .int .i64 c] w fun e w' => e = .returned (.bool true) ∧ w = w' := by
  have := l1In_c a b c w
  simpa [h1, h2] using this
theorem l1In_no {a b c : Int} (w : World) (h : a < b ∨ c < a) : Calls Tryd.prog 29 #[.int .i64 a, .int .i64 b, .int .i64 c] w fun e w' => e = .returned (.bool false) ∧ w = w' := by
  have e : (decide (b ≤ a) && decide (a ≤ c)) = false := by
    rcases h with h | h
    · simp; omega
    · simp; omega
  have := l1In_c a b c w
  rw [e] at this
  exact this



end Go.Proofs.YtdohepngandajaaDoor
