/-
  How large a renamed matrix is.
-/
import Derived.Test.YtcomebceanajmaaRename
namespace Go.Proofs.Ytcomebceanajmaa
open Go.RowKit Go.Deep Go.Sd
theorem renV_bd (m : List (List Int)) (xs : List Int) : (renV m xs).length ≤ 9 ∧ ∀ x, x ∈ renV m xs → x.length ≤ 9 := by
  unfold renV
  split
  · rename_i h
    unfold renOk at h
    simp only [Bool.and_eq_true, decide_eq_true_eq] at h
    have h1 := isMat_sq h.1
    have h2 := (nats_toNat (namesL_range h.2.1)).2
    have h3 := renI_sq (m := m) (n := m.length) (fun i hi => h2 i (by omega)) m.length (Nat.le_refl _)
    exact ⟨by rw [h3.1]; omega, fun x hx => by rw [h3.2 x hx]; omega⟩
  · simp
end Go.Proofs.Ytcomebceanajmaa
