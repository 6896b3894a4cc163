/-
  SplitPair: what it makes.
-/
import Derived.Test.YtiecliglmfampaaRows
import Derived.Test.YtiecliglmfampaaBase
import Derived.Test.YtiecliglmfampaaTabs
import Derived.Test.YtiecliglmfampaaSplitOut
namespace Go.Proofs.Ytiecliglmfampaa
open Go.RowKit Go.Deep Go.Sd

def pairE (n I k l : Nat) : Int := if l = k ∨ (k = I ∧ l = n) then 1 else 0
def pairR (n I : Nat) : List (List Int) := tabOf n (n + 1) (pairE n I)
def pairS (m : List (List Int)) (I : Nat) (P : List Int) (n : Nat) : List (List Int) := tabOf (n + 1) n (splitR m I P n)
def pairRV (m : List (List Int)) (i : Int) (P : List Int) : List (List Int) := if splitOk m i P = true then pairR m.length i.toNat else []
def pairSV (m : List (List Int)) (i : Int) (P : List Int) : List (List Int) := if splitOk m i P = true then pairS m i.toNat P m.length else []
theorem pairRV_no {m : List (List Int)} {i : Int} {P : List Int} (h : splitOk m i P = false) : pairRV m i P = [] := by unfold pairRV; rw [if_neg (by rw [h]; simp)]
theorem pairSV_no {m : List (List Int)} {i : Int} {P : List Int} (h : splitOk m i P = false) : pairSV m i P = [] := by unfold pairSV; rw [if_neg (by rw [h]; simp)]
theorem splitOk_of {m : List (List Int)} {i : Int} {P : List Int} (h : splitOk m i P = true) : ∃ I n : Nat, i = (I : Int) ∧ m.length = n ∧ I < n ∧ n ≤ 8 ∧ P.length = n ∧ splitV m i P = splitT m I P n ∧ pairRV m i P = pairR n I ∧ pairSV m i P = pairS m I P n := by
  have h2 := h
  unfold splitOk at h2
  simp only [Bool.and_eq_true, decide_eq_true_eq] at h2
  refine ⟨i.toNat, m.length, by omega, rfl, by omega, by omega, by omega, ?_, ?_, ?_⟩
  · unfold splitV; rw [if_pos h]
  · unfold pairRV; rw [if_pos h]
  · unfold pairSV; rw [if_pos h]
theorem pairR_bd {n I : Nat} (h : n ≤ 8) : (pairR n I).length ≤ 9 ∧ ∀ x, x ∈ pairR n I → x.length ≤ 9 := ⟨by rw [pairR, tabOf_len]; omega, fun x hx => by rw [mem_tabOf hx]; omega⟩
theorem pairS_bd {m : List (List Int)} {I n : Nat} {P : List Int} (h : n ≤ 8) : (pairS m I P n).length ≤ 9 ∧ ∀ x, x ∈ pairS m I P n → x.length ≤ 9 := ⟨by rw [pairS, tabOf_len]; omega, fun x hx => by rw [mem_tabOf hx]; omega⟩
theorem pairRV_bd (m : List (List Int)) (i : Int) (P : List Int) : (pairRV m i P).length ≤ 9 ∧ ∀ x, x ∈ pairRV m i P → x.length ≤ 9 := by
  cases h : splitOk m i P with
  | false => rw [pairRV_no h]; exact ⟨by simp, fun x hx => by cases hx⟩
  | true =>
    obtain ⟨I, n, _, _, _, h8, _, _, e, _⟩ := splitOk_of h
    rw [e]; exact pairR_bd h8
theorem pairSV_bd (m : List (List Int)) (i : Int) (P : List Int) : (pairSV m i P).length ≤ 9 ∧ ∀ x, x ∈ pairSV m i P → x.length ≤ 9 := by
  cases h : splitOk m i P with
  | false => rw [pairSV_no h]; exact ⟨by simp, fun x hx => by cases hx⟩
  | true =>
    obtain ⟨I, n, _, _, _, h8, _, _, _, e⟩ := splitOk_of h
    rw [e]; exact pairS_bd h8

/-- A row as the program fills it. -/
theorem pairRow_other {n I k : Nat} (hk : k < n) (h : k ≠ I) : (List.replicate (n + 1) (0 : Int)).set k 1 = rowOf' (n + 1) (pairE n I k) := by
  rw [← rowOf_const (n + 1) 0, rowOf_set]
  refine rowOf_congr fun l hl => ?_
  unfold pairE
  by_cases e : l = k
  · rw [if_pos e, if_pos (Or.inl e)]
  · rw [if_neg e, if_neg (by omega)]
theorem pairRow_split {n I : Nat} (hk : I < n) : ((List.replicate (n + 1) (0 : Int)).set I 1).set n 1 = rowOf' (n + 1) (pairE n I I) := by
  rw [← rowOf_const (n + 1) 0, rowOf_set, rowOf_set]
  refine rowOf_congr fun l hl => ?_
  unfold pairE
  by_cases e : l = n
  · rw [if_pos e, if_pos (by omega)]
  · rw [if_neg e]
    by_cases e2 : l = I
    · rw [if_pos e2, if_pos (Or.inl e2)]
    · rw [if_neg e2, if_neg (by omega)]

/-- The reference's table when k ones are in. -/
def pairD (n k : Nat) : List (List Int) := tabOf n (n + 1) (fun i j => if j = i ∧ i < k then 1 else 0)
theorem pairD_start (n : Nat) : pairD n 0 = List.replicate n (List.replicate (n + 1) 0) := by
  rw [← tabOf_const]
  exact tabOf_congr fun i _ j _ => if_neg (by omega)
theorem pairD_row {n k i : Nat} (h : i < n) : (pairD n k)[i]? = some (rowOf' (n + 1) (fun j => if j = i ∧ i < k then 1 else 0)) := tabOf_at h
theorem pairD_set {n k : Nat} : (pairD n k).set k ((rowOf' (n + 1) (fun j => if j = k ∧ k < k then 1 else 0)).set k 1) = pairD n (k + 1) := by
  unfold pairD
  rw [tabOf_set2 n (n + 1) (fun i j => if j = i ∧ i < k then 1 else 0) k k]
  refine tabOf_congr fun i _ j _ => ?_
  show (if i = k ∧ j = k then (1 : Int) else if j = i ∧ i < k then 1 else 0) = if j = i ∧ i < k + 1 then 1 else 0
  by_cases h : i = k ∧ j = k
  · rw [if_pos h, if_pos (by omega)]
  · rw [if_neg h]
    by_cases h2 : j = i ∧ i < k
    · rw [if_pos h2, if_pos (by omega)]
    · rw [if_neg h2, if_neg (by omega)]
theorem pairD_last {n I : Nat} (h : I < n) : (pairD n n).set I ((rowOf' (n + 1) (fun j => if j = I ∧ I < n then 1 else 0)).set n 1) = pairR n I := by
  unfold pairD pairR
  rw [tabOf_set2 n (n + 1) (fun i j => if j = i ∧ i < n then 1 else 0) I n]
  refine tabOf_congr fun i hi j _ => ?_
  show (if i = I ∧ j = n then (1 : Int) else if j = i ∧ i < n then 1 else 0) = pairE n I i j
  unfold pairE
  by_cases h1 : i = I ∧ j = n
  · rw [if_pos h1, if_pos (Or.inr h1)]
  · rw [if_neg h1]
    by_cases h2 : j = i ∧ i < n
    · rw [if_pos h2, if_pos (Or.inl h2.1)]
    · rw [if_neg h2, if_neg (by omega)]
theorem ent_splitT {m : List (List Int)} {I n k l : Nat} {P : List Int} (hk : k < n + 1) (hl : l < n) : ent (splitT m I P n) k l = splitR m I P n k l := by
  have e : (splitT m I P n).getD k [] = rowOf' n (splitR m I P n k) ++ [splitR m I P n k I] := by rw [List.getD_eq_getElem?_getD, splitT_at hk]; rfl
  unfold ent
  rw [e, List.getD_eq_getElem?_getD, List.getElem?_append_left (by rw [rowOf_len]; exact hl), rowOf_at hl]
  rfl
end Go.Proofs.Ytiecliglmfampaa
