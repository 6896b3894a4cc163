/-
  FindLag's model: the first step that is a lag.
-/
import Derived.Test.YtjgiobapdkdhpaaRows
import Derived.Test.YtjgiobapdkdhpaaBase
import Derived.Test.YtjgiobapdkdhpaaTabs
import Derived.Test.YtjgiobapdkdhpaaMat
import Derived.Test.YtjgiobapdkdhpaaTable
import Derived.Test.YtjgiobapdkdhpaaStepH
import Derived.Test.YtjgiobapdkdhpaaIsStep
import Derived.Test.YtjgiobapdkdhpaaIsLag
import Derived.Test.YtjgiobapdkdhpaaFindM
namespace Go.Proofs.Ytjgiobapdkdhpaa
open Go.RowKit Go.Deep Go.Sd

def findVP (P : Tb × Tb → Bool) (a b : Tb) : Option (Tb × Tb) := if findOk a b = true then findR P (tabsN b.length a.length) (tabsN a.length b.length) else none
def lagF (a b : Tb) (n : Int) : Option (Tb × Tb) := if 1 ≤ n ∧ n ≤ 5 then findVP (fun x => lagM a b x n) a b else none
theorem foundP_bd (P : Tb × Tb → Bool) (a b : Tb) : cntStp (found (findVP P a b)) ≤ 1048576 := by
  have h0 : cntStp (([], []) : Tb × Tb) ≤ 1048576 := by decide
  unfold found
  cases hf : findVP P a b with
  | none => exact h0
  | some x =>
    unfold findVP at hf
    by_cases hok : findOk a b = true
    · rw [if_pos hok] at hf
      unfold findOk at hok
      simp only [Bool.and_eq_true, decide_eq_true_eq] at hok
      have h1 := findR_in hf
      obtain ⟨n, hn⟩ := tabsN_mem h1.1
      obtain ⟨m, hm⟩ := tabsN_mem h1.2
      have e1 : cntSS x.1 ≤ 1000 := by
        rw [hn]
        exact Int.le_trans (cntSS_bd (p := 9) (r := 9) (by rw [tabN_len]; omega) (fun r hr => by rw [tabN_row hr]; omega)) (by decide)
      have e2 : cntSS x.2 ≤ 1000 := by
        rw [hm]
        exact Int.le_trans (cntSS_bd (p := 9) (r := 9) (by rw [tabN_len]; omega) (fun r hr => by rw [tabN_row hr]; omega)) (by decide)
      unfold cntStp
      simp only [Option.getD_some]
      omega
    · rw [if_neg hok] at hf
      cases hf
theorem lagF_bd (a b : Tb) (n : Int) : cntStp (found (lagF a b n)) ≤ 1048576 := by
  unfold lagF
  split
  · exact foundP_bd _ a b
  · show cntStp (([], []) : Tb × Tb) ≤ 1048576; decide
theorem isMat_row {a : Tb} (h : isMat a = true) {r : List Int} (hr : r ∈ a) : r.length = a.length ∧ ∀ x, x ∈ r → 0 ≤ x ∧ x ≤ 1000000 := by
  unfold isMat at h
  rw [Bool.and_eq_true] at h
  have h1 := List.all_eq_true.1 h.2 r hr
  by_cases hl : r.length = a.length
  · rw [rowOk_yes hl] at h1
    refine ⟨hl, fun x hx => ?_⟩
    have h2 := List.all_eq_true.1 h1 x hx
    unfold entOk at h2
    exact of_decide_eq_true h2
  · rw [rowOk_no hl] at h1; cases h1
theorem head_mem {a : Tb} (h : 0 < a.length) : a.headD [] ∈ a := by
  cases a with
  | nil => simp at h
  | cons x l => simp
/-- The two products are not the same: no lag. -/
theorem lagM_no {a b : Tb} {x : Nat} (hm : isMat a = true) (hn : isMat b = true) (h : prodT a (tabN x a.length b.length) a.length a.length b.length ≠ prodT (tabN x a.length b.length) b a.length b.length b.length) (s : Tb) (n : Int) :
    lagM a b (tabN x a.length b.length, s) n = false := by
  have hp := isMat_len hm
  have hq := isMat_len hn
  rw [lagM_spec]
  have hb : (b.headD []).length = b.length := (isMat_row hn (head_mem hq.1)).1
  have e : ttOk a (tabN x a.length b.length) = true → ttOk (tabN x a.length b.length) b = true → decide (ttV a (tabN x a.length b.length) = ttV (tabN x a.length b.length) b) = false := by
    intro o1 o2
    unfold ttV
    rw [o1, o2, if_pos rfl, if_pos rfl, tabN_len, tabN_head hp.1, hb]
    exact decide_eq_false h
  cases o1 : ttOk a (tabN x a.length b.length) with
  | false => simp only [Bool.false_and, Bool.and_false]
  | true =>
    cases o2 : ttOk (tabN x a.length b.length) b with
    | false => simp only [Bool.false_and, Bool.and_false]
    | true => simp only [e o1 o2, Bool.false_and, Bool.and_false]
theorem findS_none {P : Tb × Tb → Bool} {r : Tb} : ∀ {l : List Tb}, (∀ s, P (r, s) = false) → findS P r l = none
  | [], _ => rfl
  | s :: l, h => by
    unfold findS
    rw [h s, if_neg (by simp)]
    exact findS_none h
end Go.Proofs.Ytjgiobapdkdhpaa
