/-
  How many arcs TrimLabels leaves.
-/
import Derived.Test.YtjgiobapdkdhpaaBase
import Derived.Test.YtjgiobapdkdhpaaLabM
import Derived.Test.YtjgiobapdkdhpaaTrimM
import Derived.Test.YtjgiobapdkdhpaaTrimK
namespace Go.Proofs.Ytjgiobapdkdhpaa
open Go.RowKit Go.Deep Go.Sd
theorem trimV_bd (l : Lb) : (3 * (trimV l).2.2.length : Int) ≤ 1099511627776 := by
  by_cases h : isLab l = true
  · have h1 := trimV_len l
    have h2 := isLab_len h
    omega
  · have h1 : trimOk l = false := by unfold trimOk; rw [Bool.not_eq_true] at h; rw [h]; rfl
    unfold trimV
    rw [if_neg (by rw [h1]; simp)]
    simp
end Go.Proofs.Ytjgiobapdkdhpaa
