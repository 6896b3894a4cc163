/-
  ReadWords: how many words its list can hold.
-/
import Derived.Test.YtdohepngandajaaRdwS
namespace Go.Proofs.Ytdohepngandajaa
open Go.RowKit Go.Deep Go.Sd
theorem rdwM_len (l : Lb) (n : Int) : (rdwM l n).length ≤ 729 := by
  unfold rdwM
  split
  · rename_i h
    simp only [Bool.and_eq_true, decide_eq_true_eq] at h
    have h3 : 1 ≤ l.1 ∧ l.1 ≤ 3 := by obtain ⟨h1, h2, h3, h4, h5⟩ := isLab_ok h.1; exact ⟨by omega, by omega⟩
    rw [List.length_map]
    refine Nat.le_trans (List.length_filter_le _ _) ?_
    rw [allW_len (by omega)]
    exact pow_le (by omega) (by omega)
  · simp
theorem rdwM_bd (l : Lb) (n : Int) : ((rdwM l n).length : Int) ≤ 1099511627776 := by
  have := rdwM_len l n
  omega
end Go.Proofs.Ytdohepngandajaa
