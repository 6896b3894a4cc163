/-
  FindStep's model: the tables with digits in base 3, the search.
-/
import Derived.Test.YtjgiobapdkdhpaaRows
import Derived.Test.YtjgiobapdkdhpaaBase
import Derived.Test.YtjgiobapdkdhpaaTabs
import Derived.Test.YtjgiobapdkdhpaaMat
import Derived.Test.YtjgiobapdkdhpaaTable
import Derived.Test.YtjgiobapdkdhpaaCount
import Derived.Test.YtjgiobapdkdhpaaStepH
import Derived.Test.YtjgiobapdkdhpaaIsStep
namespace Go.Proofs.Ytjgiobapdkdhpaa
open Go.RowKit Go.Deep Go.Sd

def dig (n m : Nat) : Int := ((n / 3 ^ m % 3 : Nat) : Int)
theorem dig_bd (n m : Nat) : 0 ≤ dig n m ∧ dig n m ≤ 2 := by unfold dig; omega
def tabN (n p r : Nat) : Tb := tabOf p r (fun i j => dig n (p * r - 1 - i * r - j))
def tabsN (p r : Nat) : List Tb := (List.range (3 ^ (p * r))).map fun n => tabN n p r
def findS (P : Tb × Tb → Bool) (r : Tb) : List Tb → Option (Tb × Tb)
  | [] => none
  | s :: l => if P (r, s) = true then some (r, s) else findS P r l
def findR (P : Tb × Tb → Bool) (ss : List Tb) : List Tb → Option (Tb × Tb)
  | [] => none
  | r :: l => match findS P r ss with
    | some x => some x
    | none => findR P ss l
def findOk (a b : Tb) : Bool := isMat a && (isMat b && (decide (a.length ≤ 2) && decide (b.length ≤ 2)))
def findV (a b : Tb) : Option (Tb × Tb) := if findOk a b = true then findR (stepM a b) (tabsN b.length a.length) (tabsN a.length b.length) else none
def found (o : Option (Tb × Tb)) : Tb × Tb := o.getD ([], [])

theorem tabN_len (n p r : Nat) : (tabN n p r).length = p := tabOf_len _ _ _
theorem tabN_row {n p r : Nat} {x : List Int} (h : x ∈ tabN n p r) : x.length = r := mem_tabOf h
theorem tabN_bd {n p r : Nat} {x : List Int} (h : x ∈ tabN n p r) {y : Int} (hy : y ∈ x) : 0 ≤ y ∧ y ≤ 2 := by
  obtain ⟨i, _, rfl⟩ := List.mem_map.1 h
  obtain ⟨j, _, rfl⟩ := List.mem_map.1 hy
  exact dig_bd _ _
theorem tabN_Bd (n p r : Nat) : Bd 1000000 (tabN n p r) := fun x hx y hy => by have := tabN_bd hx hy; omega
theorem tabN_head {n p r : Nat} (hp : 0 < p) : ((tabN n p r).headD []).length = r := by
  have hl := tabN_len n p r
  cases h : tabN n p r with
  | nil => rw [h] at hl; simp at hl; omega
  | cons x xs => exact tabN_row (n := n) (p := p) (by rw [h]; simp)
theorem tabN_count (n p r : Nat) : countM (tabN n p r) = true := by
  unfold countM
  simp only [List.all_eq_true]
  intro x hx y hy
  have := tabN_bd hx hy
  unfold nnOk
  exact decide_eq_true (by omega)
theorem tabN_tab {n p r : Nat} (hp : 0 < p) (hp9 : p ≤ 9) (hr : 0 < r) (hr9 : r ≤ 9) : isTab r (tabN n p r) = true := by
  unfold isTab
  rw [tabN_len]
  simp only [Bool.and_eq_true, decide_eq_true_eq, List.all_eq_true]
  refine ⟨by omega, fun x hx => ?_⟩
  rw [tabRow_yes (tabN_row hx)]
  simp only [List.all_eq_true]
  intro y hy
  have := tabN_bd hx hy
  unfold tabEnt
  exact decide_eq_true (by omega)
theorem tabN_ok {n m p r : Nat} (hp : 0 < p) (hp9 : p ≤ 9) (hr : 0 < r) (hr9 : r ≤ 9) : ttOk (tabN n p r) (tabN m r p) = true := by
  unfold ttOk
  rw [tabN_len m, tabN_head hr, tabN_tab hp hp9 hr hr9, tabN_tab hr hr9 hp hp9]
  simp; omega
theorem prodIs_N {n m p r : Nat} (c : Tb) (hp : 0 < p) (hp9 : p ≤ 9) (hr : 0 < r) (hr9 : r ≤ 9) : prodIs (tabN n p r) (tabN m r p) c = decide (prodT (tabN n p r) (tabN m r p) p r p = c) := by
  unfold prodIs ttV
  rw [tabN_ok hp hp9 hr hr9, if_pos rfl, tabN_head hr, tabN_len, tabN_len]
  rfl
theorem stepM_N {a b : Tb} {n m p r : Nat} (ha : isMat a = true) (hb : isMat b = true) (hp : 0 < p) (hp9 : p ≤ 9) (hr : 0 < r) (hr9 : r ≤ 9) :
    stepM a b (tabN n p r, tabN m r p) = (decide (prodT (tabN n p r) (tabN m r p) p r p = a) && decide (prodT (tabN m r p) (tabN n p r) r p r = b)) := by
  unfold stepM
  rw [ha, hb, tabN_count, tabN_count, prodIs_N a hp hp9 hr hr9, prodIs_N b hr hr9 hp hp9]
  rfl
theorem isMat_len {m : Tb} (h : isMat m = true) : 0 < m.length ∧ m.length ≤ 9 := by
  unfold isMat at h
  rw [Bool.and_eq_true, decide_eq_true_eq] at h
  omega
theorem findS_in {P : Tb × Tb → Bool} {r : Tb} : ∀ {l : List Tb} {x : Tb × Tb}, findS P r l = some x → x.1 = r ∧ x.2 ∈ l
  | [], x, h => by cases h
  | s :: l, x, h => by
    unfold findS at h
    by_cases hP : P (r, s) = true
    · rw [if_pos hP] at h
      cases h
      exact ⟨rfl, by simp⟩
    · rw [if_neg hP] at h
      have := findS_in h
      exact ⟨this.1, List.mem_cons_of_mem _ this.2⟩
theorem findR_in {P : Tb × Tb → Bool} {ss : List Tb} : ∀ {l : List Tb} {x : Tb × Tb}, findR P ss l = some x → x.1 ∈ l ∧ x.2 ∈ ss
  | [], x, h => by cases h
  | r :: l, x, h => by
    unfold findR at h
    cases hf : findS P r ss with
    | some y =>
      rw [hf] at h
      cases h
      have := findS_in hf
      exact ⟨by rw [this.1]; simp, this.2⟩
    | none =>
      rw [hf] at h
      have := findR_in h
      exact ⟨List.mem_cons_of_mem _ this.1, this.2⟩
theorem tabsN_mem {p r : Nat} {t : Tb} (h : t ∈ tabsN p r) : ∃ n, t = tabN n p r := by
  obtain ⟨n, _, rfl⟩ := List.mem_map.1 h
  exact ⟨n, rfl⟩
/-- What is found is small. -/
theorem found_bd (a b : Tb) : cntStp (found (findV a b)) ≤ 1048576 := by
  have h0 : cntStp (([], []) : Tb × Tb) ≤ 1048576 := by decide
  unfold found
  cases hf : findV a b with
  | none => exact h0
  | some x =>
    unfold findV at hf
    by_cases hok : findOk a b = true
    · rw [if_pos hok] at hf
      unfold findOk at hok
      simp only [Bool.and_eq_true, decide_eq_true_eq] at hok
      have h1 := findR_in hf
      obtain ⟨n, hn⟩ := tabsN_mem h1.1
      obtain ⟨m, hm⟩ := tabsN_mem h1.2
      have e1 : cntSS x.1 ≤ 1000 := by
        rw [hn]
        exact Int.le_trans (cntSS_bd (p := 9) (r := 9) (by rw [tabN_len]; omega) (fun r hr => by rw [tabN_row hr]; omega)) (by decide)
      have e2 : cntSS x.2 ≤ 1000 := by
        rw [hm]
        exact Int.le_trans (cntSS_bd (p := 9) (r := 9) (by rw [tabN_len]; omega) (fun r hr => by rw [tabN_row hr]; omega)) (by decide)
      unfold cntStp
      simp only [Option.getD_some]
      omega
    · rw [if_neg hok] at hf
      cases hf
/-! The reference fills a table from its end. -/
def tabS (n t p r : Nat) : Tb := tabOf p r (fun i j => if t ≤ i * r + j then dig n (p * r - 1 - i * r - j) else 0)
theorem idx_lt {p r i j : Nat} (hi : i < p) (hj : j < r) : i * r + j < p * r := by
  have : (i + 1) * r ≤ p * r := Nat.mul_le_mul_right r hi
  rw [Nat.add_mul] at this
  omega
theorem tabS_start (n p r : Nat) : tabS n (p * r) p r = List.replicate p (List.replicate r 0) := by
  rw [← tabOf_const]
  exact tabOf_congr fun i hi j hj => by rw [if_neg (by have := idx_lt hi hj; omega)]
theorem tabS_end (n p r : Nat) : tabS n 0 p r = tabN n p r := tabOf_congr fun i _ j _ => by rw [if_pos (Nat.zero_le _)]
theorem tabS_row {n t p r i : Nat} (hi : i < p) : (tabS n t p r)[i]? = some (rowOf' r (fun j => if t ≤ i * r + j then dig n (p * r - 1 - i * r - j) else 0)) := by
  unfold tabS; rw [tabOf_at hi]
theorem tabS_set {n t p r : Nat} (ht : t < p * r) (hr : 0 < r) :
    (tabS n (t + 1) p r).set (t / r) ((rowOf' r (fun j => if t + 1 ≤ t / r * r + j then dig n (p * r - 1 - t / r * r - j) else 0)).set (t % r) (dig n (p * r - 1 - t))) = tabS n t p r := by
  unfold tabS
  rw [tabOf_set2 p r (fun i j => if t + 1 ≤ i * r + j then dig n (p * r - 1 - i * r - j) else 0) (t / r) (t % r)]
  refine tabOf_congr fun i hi j hj => ?_
  have hd : t / r * r + t % r = t := by rw [Nat.mul_comm]; exact Nat.div_add_mod t r
  have hm := Nat.mod_lt t hr
  by_cases h : i = t / r ∧ j = t % r
  · obtain ⟨rfl, rfl⟩ := h
    rw [if_pos ⟨rfl, rfl⟩, if_pos (by omega)]
    congr 1
    omega
  · rw [if_neg h]
    by_cases h2 : t + 1 ≤ i * r + j
    · rw [if_pos h2, if_pos (by omega)]
    · rw [if_neg h2, if_neg ?_]
      intro h3
      have e : i * r + j = t := by omega
      apply h
      subst e
      constructor
      · rw [Nat.mul_comm, Nat.mul_add_div hr, Nat.div_eq_of_lt hj]; rfl
      · rw [Nat.mul_comm, Nat.mul_add_mod, Nat.mod_eq_of_lt hj]
end Go.Proofs.Ytjgiobapdkdhpaa
