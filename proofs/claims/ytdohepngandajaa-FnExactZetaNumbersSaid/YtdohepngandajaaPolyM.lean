/-
  Turned polynomials and zeta numbers: the plain model and its bounds.
-/
import Derived.Test.YtdohepngandajaaPoly
import Derived.Test.YtdohepngandajaaPower
namespace Go.Proofs.Ytdohepngandajaa
open Go.RowKit Go.Deep Go.Sd

/-- The numbers below i whose bit stands in s. -/
def subL (s : Nat) (i : Nat) : List Int := ((List.range i).filter fun k => s.testBit k).map Int.ofNat
theorem subL_zero (s : Nat) : subL s 0 = [] := rfl
theorem subL_yes {s i : Nat} (h : s.testBit i = true) : subL s (i + 1) = subL s i ++ [(i : Int)] := by
  unfold subL
  rw [List.range_succ, List.filter_append, List.map_append]
  simp [h]
theorem subL_no {s i : Nat} (h : s.testBit i = false) : subL s (i + 1) = subL s i := by
  unfold subL
  rw [List.range_succ, List.filter_append, List.map_append]
  simp [h]
theorem subL_len (s i : Nat) : (subL s i).length ≤ i := by
  unfold subL
  rw [List.length_map]
  exact Nat.le_trans (List.length_filter_le _ _) (by simp)
theorem subL_mem {s i : Nat} {x : Int} (h : x ∈ subL s i) : 0 ≤ x ∧ x < (i : Int) := by
  obtain ⟨k, hk, rfl⟩ := List.mem_map.1 h
  have := List.mem_range.1 (List.mem_filter.1 hk).1
  exact ⟨Int.natCast_nonneg _, Int.ofNat_lt.2 this⟩
def partT (m : List (List Int)) (l : List Int) : List (List Int) := tabOf l.length l.length (fun i j => ent m (l.getD i 0).toNat (l.getD j 0).toNat)
theorem partT_sq (m : List (List Int)) (l : List Int) : Sq l.length (partT m l) := ⟨tabOf_len _ _ _, fun _ h => mem_tabOf h⟩
theorem getD_lt {l : List Int} {n : Nat} (h : ∀ x, x ∈ l → 0 ≤ x ∧ x < (n : Int)) {i : Nat} (hi : i < l.length) : (l.getD i 0).toNat < n := by
  have e : l.getD i 0 = l[i] := by simp [List.getD, hi]
  have := h l[i] (List.getElem_mem hi)
  rw [e]
  omega
theorem partT_bd {m : List (List Int)} {n : Nat} {B : Int} {l : List Int} (hs : Sq n m) (h : Bd B m) (hl : ∀ x, x ∈ l → 0 ≤ x ∧ x < (n : Int)) : Bd B (partT m l) := by
  intro r hr x hx
  obtain ⟨k, hk, rfl⟩ := List.mem_map.1 hr
  obtain ⟨j, hj, rfl⟩ := List.mem_map.1 hx
  have hk2 := List.mem_range.1 hk
  have hj2 := List.mem_range.1 hj
  exact h.ent hs.2 (by rw [hs.1]; exact getD_lt hl hk2) (getD_lt hl hj2)
def detP (m : List (List Int)) (l : List Int) : Int := detR l.length (partT m l)
theorem detB_mono (k : Nat) : 0 ≤ detB k ∧ detB k ≤ 157464 := by
  match k with
  | 0 | 1 | 2 | 3 => decide
  | k + 4 => exact ⟨show (0 : Int) ≤ 157464 by decide, Int.le_refl _⟩
theorem detP_bd {m : List (List Int)} {n : Nat} {l : List Int} (hs : Sq n m) (hn : n ≤ 4) (h : Bd 9 m) (hl : ∀ x, x ∈ l → 0 ≤ x ∧ x < (n : Int)) (hln : l.length ≤ n) : -(detB l.length) ≤ detP m l ∧ detP m l ≤ detB l.length :=
  detR_bd _ _ (by omega) (partT_sq m l) (partT_bd hs h hl)
/-- The sum of the principal minors of a size over the first s sets. -/
def minS (m : List (List Int)) (n k : Nat) : Nat → Int
  | 0 => 0
  | s + 1 => if (subL s n).length = k then minS m n k s + detP m (subL s n) else minS m n k s
theorem minS_bd {m : List (List Int)} {n k : Nat} (hs : Sq n m) (hn : n ≤ 4) (h : Bd 9 m) : ∀ s : Nat, -((s : Int) * detB k) ≤ minS m n k s ∧ minS m n k s ≤ (s : Int) * detB k
  | 0 => by simp [minS]
  | s + 1 => by
    have h1 := minS_bd (k := k) hs hn h s
    have h3 : ((s + 1 : Nat) : Int) * detB k = (s : Int) * detB k + detB k := by rw [Int.natCast_add, Int.add_mul]; omega
    have h4 := (detB_mono k).1
    rw [h3]
    unfold minS
    split
    · rename_i he
      have h2 := detP_bd (l := subL s n) hs hn h (fun x hx => subL_mem hx) (subL_len s n)
      rw [he] at h2
      omega
    · omega
def coef (m : List (List Int)) (n k : Nat) : Int := sgn k * minS m n k (2 ^ n)
theorem pow16 {n : Nat} (h : n ≤ 4) : 2 ^ n ≤ 16 := by
  match n, h with
  | 0, _ | 1, _ | 2, _ | 3, _ | 4, _ => decide
theorem sgn_mul_bd (j : Nat) {x B : Int} (h : -B ≤ x ∧ x ≤ B) : -B ≤ sgn j * x ∧ sgn j * x ≤ B := by
  rcases sgn_bd j with e | e <;> rw [e] <;> omega
theorem minS_bd16 {m : List (List Int)} {n k : Nat} (hs : Sq n m) (hn : n ≤ 4) (h : Bd 9 m) {s : Nat} (hsn : s ≤ 2 ^ n) : -(16 * detB k) ≤ minS m n k s ∧ minS m n k s ≤ 16 * detB k := by
  have h1 := minS_bd (k := k) hs hn h s
  have h2 := pow16 hn
  have h3 : (s : Int) * detB k ≤ 16 * detB k := Int.mul_le_mul_of_nonneg_right (by omega) (detB_mono k).1
  omega
theorem coef_bd {m : List (List Int)} {n k : Nat} (hs : Sq n m) (hn : n ≤ 4) (h : Bd 9 m) : -(16 * detB k) ≤ coef m n k ∧ coef m n k ≤ 16 * detB k :=
  sgn_mul_bd k (minS_bd16 hs hn h (Nat.le_refl _))
/-- Zeros at the end go. -/
def cutN (p : List Int) : Nat → Nat
  | 0 => 0
  | n + 1 => if p.getD n 0 = 0 then cutN p n else n + 1
theorem cutN_le (p : List Int) : ∀ n, cutN p n ≤ n
  | 0 => Nat.le_refl _
  | n + 1 => by
    have := cutN_le p n
    unfold cutN
    split <;> omega
def cutL (p : List Int) : List Int := p.take (cutN p p.length)
theorem cutL_len (p : List Int) : (cutL p).length ≤ p.length := by unfold cutL; rw [List.length_take]; omega
def coefs (m : List (List Int)) (n : Nat) : List Int := (List.range (n + 1)).map (coef m n)
def turnedP (m : List (List Int)) : List Int := if smallM m = true then cutL (coefs m m.length) else []
theorem smallM_sq {m : List (List Int)} (h : smallM m = true) : isMat m = true ∧ m.length ≤ 4 ∧ Bd 9 m := by
  unfold smallM at h
  simp only [Bool.and_eq_true, decide_eq_true_eq] at h
  refine ⟨h.1, h.2.1, fun r hr x hx => ?_⟩
  have h1 := List.all_eq_true.1 (List.all_eq_true.1 h.2.2 r hr) x hx
  have h2 := isMat_bd h.1 r hr x hx
  unfold nineOk at h1
  simp at h1
  omega
theorem turnedP_at {m : List (List Int)} {k : Nat} {x : Int} (h : (turnedP m)[k]? = some x) : k ≤ 4 ∧ -(16 * detB k) ≤ x ∧ x ≤ 16 * detB k := by
  unfold turnedP at h
  split at h
  · rename_i hm
    obtain ⟨hm1, hm4, hb⟩ := smallM_sq hm
    unfold cutL at h
    rw [List.getElem?_take] at h
    split at h
    · unfold coefs at h
      rw [List.getElem?_map] at h
      obtain ⟨j, hj, rfl⟩ := Option.map_eq_some_iff.1 h
      have hj1 := List.getElem?_eq_some_iff.1 hj
      obtain ⟨hj2, hj3⟩ := hj1
      simp at hj2 hj3
      subst hj3
      exact ⟨by omega, coef_bd (isMat_sq hm1).1 hm4 hb⟩
    · cases h
  · simp at h
theorem turnedP_len (m : List (List Int)) : (turnedP m).length ≤ 5 := by
  unfold turnedP
  split
  · rename_i hm
    obtain ⟨-, hm4, -⟩ := smallM_sq hm
    have := cutL_len (coefs m m.length)
    have h2 : (coefs m m.length).length = m.length + 1 := by simp [coefs]
    omega
  · simp
/-! Zeta numbers. -/
def zSum (t out : List Int) (k : Nat) : Nat → Int
  | 0 => 0
  | i + 1 => zSum t out k i - t.getD (i + 1) 0 * out.getD (k - (i + 1)) 0
def zRnd (t : List Int) (k : Nat) : Nat := min k (t.length - 1)
def zetaL (t : List Int) : Nat → List Int
  | 0 => [1]
  | k + 1 => zetaL t k ++ [zSum t (zetaL t k) (k + 1) (zRnd t (k + 1))]
def zetaV (m : List (List Int)) (n : Int) : List Int := if smallM m = true ∧ 0 ≤ n ∧ n ≤ 8 then zetaL (turnedP m) n.toNat else []
theorem zetaL_len (t : List Int) : ∀ k, (zetaL t k).length = k + 1
  | 0 => rfl
  | k + 1 => by simp [zetaL, zetaL_len t k]
theorem zetaV_len (m : List (List Int)) (n : Int) : (zetaV m n).length ≤ 9 := by
  unfold zetaV
  split
  · rw [zetaL_len]; omega
  · simp
def P200 (k : Nat) : Int := 200 ^ k
theorem P200_succ (k : Nat) : P200 (k + 1) = 200 * P200 k := by unfold P200; rw [Int.pow_succ]; omega
theorem P200_pos (k : Nat) : 1 ≤ P200 k := by
  induction k with
  | zero => decide
  | succ k ih => rw [P200_succ]; omega
def wgt : Nat → Int
  | 1 => 72
  | _ => 7
theorem coef_wgt {i : Nat} {x y : Int} {k : Nat} (hi : 1 ≤ i) (hik : i ≤ k) (h4 : i ≤ 4) (hx : -(16 * detB i) ≤ x ∧ x ≤ 16 * detB i) (hy : -(P200 (k - i)) ≤ y ∧ y ≤ P200 (k - i)) : -(wgt i * P200 k) ≤ 100 * (x * y) ∧ 100 * (x * y) ≤ wgt i * P200 k := by
  have h := prod_bd hx hy
  obtain ⟨j, rfl⟩ : ∃ j, k = j + i := ⟨k - i, by omega⟩
  rw [Nat.add_sub_cancel] at h
  have hp := P200_pos j
  match i, hi, h4 with
  | 1, _, _ =>
    have e : P200 (j + 1) = 200 * P200 j := P200_succ j
    rw [e]
    have e1 : detB 1 = 9 := rfl
    have e2 : wgt 1 = 72 := rfl
    rw [e1] at h
    rw [e2]
    omega
  | 2, _, _ =>
    have e : P200 (j + 2) = 40000 * P200 j := by rw [P200_succ, P200_succ]; omega
    rw [e]
    have e1 : detB 2 = 162 := rfl
    have e2 : wgt 2 = 7 := rfl
    rw [e1] at h
    rw [e2]
    omega
  | 3, _, _ =>
    have e : P200 (j + 3) = 8000000 * P200 j := by rw [P200_succ, P200_succ, P200_succ]; omega
    rw [e]
    have e1 : detB 3 = 4374 := rfl
    have e2 : wgt 3 = 7 := rfl
    rw [e1] at h
    rw [e2]
    omega
  | 4, _, _ =>
    have e : P200 (j + 4) = 1600000000 * P200 j := by rw [P200_succ, P200_succ, P200_succ, P200_succ]; omega
    rw [e]
    have e1 : detB 4 = 157464 := rfl
    have e2 : wgt 4 = 7 := rfl
    rw [e1] at h
    rw [e2]
    omega
def TBd (t : List Int) : Prop := t.length ≤ 5 ∧ ∀ (k : Nat) (x : Int), t[k]? = some x → -(16 * detB k) ≤ x ∧ x ≤ 16 * detB k
theorem turnedP_tbd (m : List (List Int)) : TBd (turnedP m) := ⟨turnedP_len m, fun _ _ h => (turnedP_at h).2⟩
def ZBd (out : List Int) : Prop := ∀ (k : Nat) (x : Int), out[k]? = some x → -(P200 k) ≤ x ∧ x ≤ P200 k
theorem getD_at {l : List Int} {i : Nat} (h : i < l.length) : l[i]? = some (l.getD i 0) := by simp [List.getD, h]
theorem zTerm_bd {t out : List Int} {k i : Nat} (ht : TBd t) (ho : ZBd out) (hi : 1 ≤ i) (hik : i ≤ k) (hit : i < t.length) (hok : k - i < out.length) : -(wgt i * P200 k) ≤ 100 * (t.getD i 0 * out.getD (k - i) 0) ∧ 100 * (t.getD i 0 * out.getD (k - i) 0) ≤ wgt i * P200 k :=
  coef_wgt hi hik (by have := ht.1; omega) (ht.2 i _ (getD_at hit)) (ho _ _ (getD_at hok))
theorem zSum_bd {t out : List Int} {k : Nat} (ht : TBd t) (ho : ZBd out) (hl : out.length = k) : ∀ i, i ≤ zRnd t k → (-(100 * P200 k) ≤ 100 * zSum t out k i ∧ 100 * zSum t out k i ≤ 100 * P200 k) ∧ (i = 0 ∨ (-((65 + 7 * (i : Int)) * P200 k) ≤ 100 * zSum t out k i ∧ 100 * zSum t out k i ≤ (65 + 7 * (i : Int)) * P200 k))
  | 0, _ => by
    have := P200_pos k
    exact ⟨by simp only [zSum]; omega, Or.inl rfl⟩
  | i + 1, hi => by
    have h1 := (zSum_bd ht ho hl i (by omega)).2
    have h0 := ht.1
    unfold zRnd at hi
    have h2 := zTerm_bd (k := k) (i := i + 1) ht ho (by omega) (by omega) (by omega) (by omega)
    have hp := P200_pos k
    have e : zSum t out k (i + 1) = zSum t out k i - t.getD (i + 1) 0 * out.getD (k - (i + 1)) 0 := rfl
    rw [e]
    generalize t.getD (i + 1) 0 * out.getD (k - (i + 1)) 0 = y at *
    have h4 : i + 1 ≤ 4 := by omega
    generalize P200 k = q at *
    have key : -((65 + 7 * ((i + 1 : Nat) : Int)) * q) ≤ 100 * (zSum t out k i - y) ∧ 100 * (zSum t out k i - y) ≤ (65 + 7 * ((i + 1 : Nat) : Int)) * q := by
      match i, h4 with
      | 0, _ => simp only [zSum, wgt] at *; omega
      | 1, _ => simp only [wgt] at h2; generalize zSum t out k 1 = s at *; omega
      | 2, _ => simp only [wgt] at h2; generalize zSum t out k 2 = s at *; omega
      | 3, _ => simp only [wgt] at h2; generalize zSum t out k 3 = s at *; omega
    refine ⟨?_, Or.inr key⟩
    have h5 : (65 + 7 * ((i + 1 : Nat) : Int)) * q ≤ 100 * q := Int.mul_le_mul_of_nonneg_right (by omega) (by omega)
    omega
theorem zetaL_bd {t : List Int} (ht : TBd t) : ∀ k, ZBd (zetaL t k)
  | 0 => by
    intro k x h
    have h1 := (List.getElem?_eq_some_iff.1 h).1
    simp [zetaL] at h1
    subst h1
    simp [zetaL] at h
    subst h
    decide
  | k + 1 => by
    intro j x h
    unfold zetaL at h
    by_cases hj : j < k + 1
    · rw [List.getElem?_append_left (by rw [zetaL_len]; exact hj)] at h
      exact zetaL_bd ht k j x h
    · rw [List.getElem?_append_right (by rw [zetaL_len]; omega), zetaL_len] at h
      have h1 := (List.getElem?_eq_some_iff.1 h).1
      simp at h1
      obtain rfl : j = k + 1 := by omega
      simp at h
      subst h
      have h2 := (zSum_bd ht (zetaL_bd ht k) (zetaL_len t k) _ (Nat.le_refl (zRnd t (k + 1)))).1
      omega
theorem P200_le {k : Nat} (h : k ≤ 8) : P200 k ≤ 2560000000000000000 := by
  match k, h with
  | 0, _ | 1, _ | 2, _ | 3, _ | 4, _ | 5, _ | 6, _ | 7, _ | 8, _ => decide
end Go.Proofs.Ytdohepngandajaa
