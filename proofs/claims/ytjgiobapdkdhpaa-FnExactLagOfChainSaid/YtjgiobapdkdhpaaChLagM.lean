/-
  LagOfChain's model: the step of a whole chain.
-/
import Derived.Test.YtjgiobapdkdhpaaRows
import Derived.Test.YtjgiobapdkdhpaaBase
import Derived.Test.YtjgiobapdkdhpaaTabs
import Derived.Test.YtjgiobapdkdhpaaMat
import Derived.Test.YtjgiobapdkdhpaaTable
import Derived.Test.YtjgiobapdkdhpaaJoin
import Derived.Test.YtjgiobapdkdhpaaStepH
import Derived.Test.YtjgiobapdkdhpaaIsStep
import Derived.Test.YtjgiobapdkdhpaaChain
import Derived.Test.YtjgiobapdkdhpaaFindM
namespace Go.Proofs.Ytjgiobapdkdhpaa
open Go.RowKit Go.Deep Go.Sd

def lagFold : List (Tb × Tb) → Tb × Tb → Option (Tb × Tb)
  | [], x => some x
  | y :: l, x => if ttOk x.1 y.1 = true ∧ ttOk y.2 x.2 = true then lagFold l (ttV x.1 y.1, ttV y.2 x.2) else none
def lagC (ts : List Tb) (xs : List (Tb × Tb)) : Option (Tb × Tb) := if chainM ts xs = true ∧ 1 ≤ xs.length ∧ xs.length ≤ 5 then lagFold (xs.drop 1) (xs.getD 0 ([], [])) else none
def Sm (x : Tb × Tb) : Prop := (x.1.length ≤ 9 ∧ ∀ r, r ∈ x.1 → r.length ≤ 9) ∧ x.2.length ≤ 9 ∧ ∀ r, r ∈ x.2 → r.length ≤ 9
theorem ttOk_sm {a b : Tb} (h : ttOk a b = true) : (a.length ≤ 9 ∧ ∀ r, r ∈ a → r.length ≤ 9) ∧ b.length ≤ 9 ∧ ∀ r, r ∈ b → r.length ≤ 9 := by
  unfold ttOk at h
  simp only [Bool.and_eq_true] at h
  have h1 := isTab_sq h.1.2
  have h2 := isTab_sq h.2
  exact ⟨⟨h1.2.2.2.1, fun r hr => by rw [h1.1 r hr]; omega⟩, h2.2.2.2.1, fun r hr => by rw [h2.1 r hr]; omega⟩
theorem stepM_sm {a b : Tb} {x : Tb × Tb} (h : stepM a b x = true) : Sm x := by
  unfold stepM prodIs at h
  simp only [Bool.and_eq_true] at h
  exact ttOk_sm h.2.2.2.2.1.1
theorem chainM_sm {ts : List Tb} {xs : List (Tb × Tb)} (h : chainM ts xs = true) {k : Nat} {x : Tb × Tb} (hx : xs[k]? = some x) : Sm x := by
  unfold chainM at h
  simp only [Bool.and_eq_true] at h
  have hk := (List.getElem?_eq_some_iff.1 hx).1
  have key : ∀ (m k0 : Nat), allF (chB ts xs) m k0 = true → ∀ j, j < m → chB ts xs (k0 + j) = true := by
    intro m
    induction m with
    | zero => intro k0 _ j hj; omega
    | succ m ih =>
      intro k0 h j hj
      have h1 : (if chB ts xs k0 = true then allF (chB ts xs) m (k0 + 1) else false) = true := h
      by_cases hb : chB ts xs k0 = true
      · rw [if_pos hb] at h1
        cases j with
        | zero => exact hb
        | succ j => rw [show k0 + (j + 1) = k0 + 1 + j by omega]; exact ih _ h1 j (by omega)
      · rw [if_neg hb] at h1; cases h1
  have h1 := key _ _ h.2.2 k hk
  rw [Nat.zero_add] at h1
  unfold chB at h1
  rw [show xs.getD k ([], []) = x by simp [List.getD, hx]] at h1
  exact stepM_sm h1
theorem Sm.cnt {x : Tb × Tb} (h : Sm x) : cntStp x ≤ 1048576 := by
  have e1 := cntSS_bd (p := 9) (r := 9) h.1.1 h.1.2
  have e2 := cntSS_bd (p := 9) (r := 9) h.2.1 h.2.2
  unfold cntStp
  omega
theorem Sm.sz {x : Tb × Tb} (h : Sm x) : StpSz x :=
  ⟨⟨Nat.le_trans h.1.1 (by decide), fun r hr => Nat.le_trans (h.1.2 r hr) (by decide)⟩, Nat.le_trans h.2.1 (by decide), fun r hr => Nat.le_trans (h.2.2 r hr) (by decide)⟩
theorem lagFold_sm : ∀ (l : List (Tb × Tb)) (x : Tb × Tb), Sm x → ∀ y, lagFold l x = some y → Sm y
  | [], x, h, y, e => by cases e; exact h
  | z :: l, x, h, y, e => by
    unfold lagFold at e
    split at e
    · exact lagFold_sm l _ ⟨ttV_bd _ _, ttV_bd _ _⟩ y e
    · cases e
theorem lagC_bd (ts : List Tb) (xs : List (Tb × Tb)) : cntStp (found (lagC ts xs)) ≤ 1048576 := by
  have h0 : cntStp (([], []) : Tb × Tb) ≤ 1048576 := by decide
  unfold found
  cases hf : lagC ts xs with
  | none => exact h0
  | some y =>
    unfold lagC at hf
    split at hf
    · rename_i h
      obtain ⟨x, hx, _⟩ := at_lt (xs := xs) (k := 0) (by omega)
      have hs := chainM_sm h.1 hx
      rw [show xs.getD 0 ([], []) = x by simp [List.getD, hx]] at hf
      exact (lagFold_sm _ _ hs y hf).cnt
    · cases hf
end Go.Proofs.Ytjgiobapdkdhpaa
