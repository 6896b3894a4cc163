/-
  Texts of this claim joined: laws for its walks, contracts of the functions that the law reaches.
-/
import Derived.Test.YtlkgkfgpnnahdaaGreatRows
import Derived.Test.YtlkgkfgpnnahdaaGreatFnStepsM1
import Derived.Test.YtlkgkfgpnnahdaaGreatFnStepsM3
import Derived.Test.YtlkgkfgpnnahdaaGreatFnStepsM4
import Derived.OrdersHeld
import Derived.Deep.RegionHeld3
import Derived.Deep.DeepCutAuto
section
/-
  Determinants and turned polynomials: the plain model.
-/
namespace Go.Proofs.YtlkgkfgpnnahdaaGreat
open Go.RowKit Go.Deep Go.Sd

def nineOk (x : Int) : Bool := decide (x ≤ 9)
def smallM (m : List (List Int)) : Bool := isMat m && (decide (m.length ≤ 4) && m.all (fun r => r.all nineOk))

def sgn (j : Nat) : Int := if j % 2 = 0 then 1 else -1
theorem sgn_next (j : Nat) : sgn (j + 1) = -sgn j := by
  unfold sgn
  by_cases h : j % 2 = 0
  · rw [if_pos h, if_neg (by omega)]
  · rw [if_neg h, if_pos (by omega)]; rfl
theorem sgn_bd (j : Nat) : sgn j = 1 ∨ sgn j = -1 := by
  unfold sgn
  by_cases h : j % 2 = 0
  · rw [if_pos h]; exact Or.inl rfl
  · rw [if_neg h]; exact Or.inr rfl

/-- The sum of the first j terms of an expansion by the first row. -/
def detSum (t : List (List Int)) (f : Nat → Int) : Nat → Int
  | 0 => 0
  | j + 1 => if ent t 0 j ≠ 0 then detSum t f j + sgn j * ent t 0 j * f j else detSum t f j
def detR : Nat → List (List Int) → Int
  | 0, _ => 1
  | g + 1, t => detSum t (fun j => detR g (minorT t 0 j (g + 1))) (g + 1)

theorem minorT_sq (t : List (List Int)) (i j n : Nat) : Sq (n - 1) (minorT t i j n) := ⟨tabOf_len _ _ _, fun _ h => mem_tabOf h⟩
theorem minorT_bd {t : List (List Int)} {i j n : Nat} {B : Int} (hs : Sq n t) (h : Bd B t) : Bd B (minorT t i j n) := by
  intro r hr x hx
  obtain ⟨k, hk, rfl⟩ := List.mem_map.1 hr
  obtain ⟨l, hl, rfl⟩ := List.mem_map.1 hx
  have hk2 := List.mem_range.1 hk
  have hl2 := List.mem_range.1 hl
  exact h.ent hs.2 (by rw [hs.1]; exact skip_lt hk2) (skip_lt hl2)

def detB : Nat → Int
  | 0 => 1
  | 1 => 9
  | 2 => 162
  | 3 => 4374
  | _ => 157464
theorem prod_bd {x y X Y : Int} (hx : -X ≤ x ∧ x ≤ X) (hy : -Y ≤ y ∧ y ≤ Y) : -(X * Y) ≤ x * y ∧ x * y ≤ X * Y := by
  have hX : 0 ≤ X := by omega
  have hY : 0 ≤ Y := by omega
  have h1 : x.natAbs * y.natAbs ≤ X.toNat * Y.toNat := Nat.mul_le_mul (by omega) (by omega)
  have h2 : (x * y).natAbs = x.natAbs * y.natAbs := Int.natAbs_mul x y
  have h3 : ((X.toNat * Y.toNat : Nat) : Int) = X * Y := by rw [Int.natCast_mul, Int.toNat_of_nonneg hX, Int.toNat_of_nonneg hY]
  omega
theorem term_bd {j : Nat} {x y Y : Int} (hx : -9 ≤ x ∧ x ≤ 9) (hy : -Y ≤ y ∧ y ≤ Y) : -(9 * Y) ≤ sgn j * x * y ∧ sgn j * x * y ≤ 9 * Y := by
  refine prod_bd ?_ hy
  rcases sgn_bd j with h | h <;> rw [h] <;> omega
theorem detSum_bd {t : List (List Int)} {f : Nat → Int} {n : Nat} {Y : Int} (hs : Sq n t) (h0 : 0 < n) (h : Bd 9 t) (hf : ∀ j, j < n → -Y ≤ f j ∧ f j ≤ Y) (hY : 0 ≤ Y) : ∀ j, j ≤ n → -((j : Int) * (9 * Y)) ≤ detSum t f j ∧ detSum t f j ≤ (j : Int) * (9 * Y)
  | 0, _ => by simp [detSum]
  | j + 1, hj => by
    have h1 := detSum_bd hs h0 h hf hY j (by omega)
    have h2 := term_bd (j := j) (h.ent (i := 0) (j := j) hs.2 (by rw [hs.1]; exact h0) (by omega)) (hf j (by omega))
    have h3 : ((j + 1 : Nat) : Int) * (9 * Y) = (j : Int) * (9 * Y) + 9 * Y := by rw [Int.natCast_add, Int.add_mul]; omega
    rw [h3]
    unfold detSum
    by_cases hz : ent t 0 j ≠ 0
    · rw [if_pos hz]; omega
    · rw [if_neg hz]; omega
theorem detR_bd : ∀ (g : Nat) (t : List (List Int)), g ≤ 4 → Sq g t → Bd 9 t → -(detB g) ≤ detR g t ∧ detR g t ≤ detB g
  | 0, _, _, _, _ => by unfold detR; decide
  | g + 1, t, hg, hs, h => by
    have hf : ∀ j, j < g + 1 → -(detB g) ≤ detR g (minorT t 0 j (g + 1)) ∧ detR g (minorT t 0 j (g + 1)) ≤ detB g := fun j _ => detR_bd g _ (by omega) (minorT_sq t 0 j (g + 1)) (minorT_bd hs h)
    have hY : 0 ≤ detB g := by
      match g, hg with
      | 0, _ => decide
      | 1, _ => decide
      | 2, _ => decide
      | 3, _ => decide
    have h1 := detSum_bd hs (by omega) h hf hY (g + 1) (Nat.le_refl _)
    have h2 : ((g + 1 : Nat) : Int) * (9 * detB g) = detB (g + 1) := by
      match g, hg with
      | 0, _ => decide
      | 1, _ => decide
      | 2, _ => decide
      | 3, _ => decide
    rw [h2] at h1
    exact h1
end Go.Proofs.YtlkgkfgpnnahdaaGreat
end

section
/-
  Turned polynomials and zeta numbers: the plain model and its bounds.
-/
namespace Go.Proofs.YtlkgkfgpnnahdaaGreat
open Go.RowKit Go.Deep Go.Sd

/-- The numbers below i whose bit stands in s. -/
def subL (s : Nat) (i : Nat) : List Int := ((List.range i).filter fun k => s.testBit k).map Int.ofNat
theorem subL_zero (s : Nat) : subL s 0 = [] := rfl
theorem subL_yes {s i : Nat} (h : s.testBit i = true) : subL s (i + 1) = subL s i ++ [(i : Int)] := by
  unfold subL
  rw [List.range_succ, List.filter_append, List.map_append]
  simp [h]
theorem subL_no {s i : Nat} (h : s.testBit i = false) : subL s (i + 1) = subL s i := by
  unfold subL
  rw [List.range_succ, List.filter_append, List.map_append]
  simp [h]
theorem subL_len (s i : Nat) : (subL s i).length ≤ i := by
  unfold subL
  rw [List.length_map]
  exact Nat.le_trans (List.length_filter_le _ _) (by simp)
theorem subL_mem {s i : Nat} {x : Int} (h : x ∈ subL s i) : 0 ≤ x ∧ x < (i : Int) := by
  obtain ⟨k, hk, rfl⟩ := List.mem_map.1 h
  have := List.mem_range.1 (List.mem_filter.1 hk).1
  exact ⟨Int.natCast_nonneg _, Int.ofNat_lt.2 this⟩
def partT (m : List (List Int)) (l : List Int) : List (List Int) := tabOf l.length l.length (fun i j => ent m (l.getD i 0).toNat (l.getD j 0).toNat)
theorem partT_sq (m : List (List Int)) (l : List Int) : Sq l.length (partT m l) := ⟨tabOf_len _ _ _, fun _ h => mem_tabOf h⟩
theorem getD_lt {l : List Int} {n : Nat} (h : ∀ x, x ∈ l → 0 ≤ x ∧ x < (n : Int)) {i : Nat} (hi : i < l.length) : (l.getD i 0).toNat < n := by
  have e : l.getD i 0 = l[i] := by simp [List.getD, hi]
  have := h l[i] (List.getElem_mem hi)
  rw [e]
  omega
theorem partT_bd {m : List (List Int)} {n : Nat} {B : Int} {l : List Int} (hs : Sq n m) (h : Bd B m) (hl : ∀ x, x ∈ l → 0 ≤ x ∧ x < (n : Int)) : Bd B (partT m l) := by
  intro r hr x hx
  obtain ⟨k, hk, rfl⟩ := List.mem_map.1 hr
  obtain ⟨j, hj, rfl⟩ := List.mem_map.1 hx
  have hk2 := List.mem_range.1 hk
  have hj2 := List.mem_range.1 hj
  exact h.ent hs.2 (by rw [hs.1]; exact getD_lt hl hk2) (getD_lt hl hj2)
def detP (m : List (List Int)) (l : List Int) : Int := detR l.length (partT m l)
theorem detB_mono (k : Nat) : 0 ≤ detB k ∧ detB k ≤ 157464 := by
  match k with
  | 0 | 1 | 2 | 3 => decide
  | k + 4 => exact ⟨show (0 : Int) ≤ 157464 by decide, Int.le_refl _⟩
theorem detP_bd {m : List (List Int)} {n : Nat} {l : List Int} (hs : Sq n m) (hn : n ≤ 4) (h : Bd 9 m) (hl : ∀ x, x ∈ l → 0 ≤ x ∧ x < (n : Int)) (hln : l.length ≤ n) : -(detB l.length) ≤ detP m l ∧ detP m l ≤ detB l.length :=
  detR_bd _ _ (by omega) (partT_sq m l) (partT_bd hs h hl)
/-- The sum of the principal minors of a size over the first s sets. -/
def minS (m : List (List Int)) (n k : Nat) : Nat → Int
  | 0 => 0
  | s + 1 => if (subL s n).length = k then minS m n k s + detP m (subL s n) else minS m n k s
theorem minS_bd {m : List (List Int)} {n k : Nat} (hs : Sq n m) (hn : n ≤ 4) (h : Bd 9 m) : ∀ s : Nat, -((s : Int) * detB k) ≤ minS m n k s ∧ minS m n k s ≤ (s : Int) * detB k
  | 0 => by simp [minS]
  | s + 1 => by
    have h1 := minS_bd (k := k) hs hn h s
    have h3 : ((s + 1 : Nat) : Int) * detB k = (s : Int) * detB k + detB k := by rw [Int.natCast_add, Int.add_mul]; omega
    have h4 := (detB_mono k).1
    rw [h3]
    unfold minS
    split
    · rename_i he
      have h2 := detP_bd (l := subL s n) hs hn h (fun x hx => subL_mem hx) (subL_len s n)
      rw [he] at h2
      omega
    · omega
def coef (m : List (List Int)) (n k : Nat) : Int := sgn k * minS m n k (2 ^ n)
theorem pow16 {n : Nat} (h : n ≤ 4) : 2 ^ n ≤ 16 := by
  match n, h with
  | 0, _ | 1, _ | 2, _ | 3, _ | 4, _ => decide
theorem sgn_mul_bd (j : Nat) {x B : Int} (h : -B ≤ x ∧ x ≤ B) : -B ≤ sgn j * x ∧ sgn j * x ≤ B := by
  rcases sgn_bd j with e | e <;> rw [e] <;> omega
theorem minS_bd16 {m : List (List Int)} {n k : Nat} (hs : Sq n m) (hn : n ≤ 4) (h : Bd 9 m) {s : Nat} (hsn : s ≤ 2 ^ n) : -(16 * detB k) ≤ minS m n k s ∧ minS m n k s ≤ 16 * detB k := by
  have h1 := minS_bd (k := k) hs hn h s
  have h2 := pow16 hn
  have h3 : (s : Int) * detB k ≤ 16 * detB k := Int.mul_le_mul_of_nonneg_right (by omega) (detB_mono k).1
  omega
theorem coef_bd {m : List (List Int)} {n k : Nat} (hs : Sq n m) (hn : n ≤ 4) (h : Bd 9 m) : -(16 * detB k) ≤ coef m n k ∧ coef m n k ≤ 16 * detB k :=
  sgn_mul_bd k (minS_bd16 hs hn h (Nat.le_refl _))
/-- Zeros at the end go. -/
def cutN (p : List Int) : Nat → Nat
  | 0 => 0
  | n + 1 => if p.getD n 0 = 0 then cutN p n else n + 1
theorem cutN_le (p : List Int) : ∀ n, cutN p n ≤ n
  | 0 => Nat.le_refl _
  | n + 1 => by
    have := cutN_le p n
    unfold cutN
    split <;> omega
def cutL (p : List Int) : List Int := p.take (cutN p p.length)
theorem cutL_len (p : List Int) : (cutL p).length ≤ p.length := by unfold cutL; rw [List.length_take]; omega
def coefs (m : List (List Int)) (n : Nat) : List Int := (List.range (n + 1)).map (coef m n)
def turnedP (m : List (List Int)) : List Int := if smallM m = true then cutL (coefs m m.length) else []
theorem smallM_sq {m : List (List Int)} (h : smallM m = true) : isMat m = true ∧ m.length ≤ 4 ∧ Bd 9 m := by
  unfold smallM at h
  simp only [Bool.and_eq_true, decide_eq_true_eq] at h
  refine ⟨h.1, h.2.1, fun r hr x hx => ?_⟩
  have h1 := List.all_eq_true.1 (List.all_eq_true.1 h.2.2 r hr) x hx
  have h2 := isMat_bd h.1 r hr x hx
  unfold nineOk at h1
  simp at h1
  omega
theorem turnedP_at {m : List (List Int)} {k : Nat} {x : Int} (h : (turnedP m)[k]? = some x) : k ≤ 4 ∧ -(16 * detB k) ≤ x ∧ x ≤ 16 * detB k := by
  unfold turnedP at h
  split at h
  · rename_i hm
    obtain ⟨hm1, hm4, hb⟩ := smallM_sq hm
    unfold cutL at h
    rw [List.getElem?_take] at h
    split at h
    · unfold coefs at h
      rw [List.getElem?_map] at h
      obtain ⟨j, hj, rfl⟩ := Option.map_eq_some_iff.1 h
      have hj1 := List.getElem?_eq_some_iff.1 hj
      obtain ⟨hj2, hj3⟩ := hj1
      simp at hj2 hj3
      subst hj3
      exact ⟨by omega, coef_bd (isMat_sq hm1).1 hm4 hb⟩
    · cases h
  · simp at h
theorem turnedP_len (m : List (List Int)) : (turnedP m).length ≤ 5 := by
  unfold turnedP
  split
  · rename_i hm
    obtain ⟨-, hm4, -⟩ := smallM_sq hm
    have := cutL_len (coefs m m.length)
    have h2 : (coefs m m.length).length = m.length + 1 := by simp [coefs]
    omega
  · simp
/-! Zeta numbers. -/
def zSum (t out : List Int) (k : Nat) : Nat → Int
  | 0 => 0
  | i + 1 => zSum t out k i - t.getD (i + 1) 0 * out.getD (k - (i + 1)) 0
def zRnd (t : List Int) (k : Nat) : Nat := min k (t.length - 1)
def zetaL (t : List Int) : Nat → List Int
  | 0 => [1]
  | k + 1 => zetaL t k ++ [zSum t (zetaL t k) (k + 1) (zRnd t (k + 1))]
def zetaV (m : List (List Int)) (n : Int) : List Int := if smallM m = true ∧ 0 ≤ n ∧ n ≤ 8 then zetaL (turnedP m) n.toNat else []
theorem zetaL_len (t : List Int) : ∀ k, (zetaL t k).length = k + 1
  | 0 => rfl
  | k + 1 => by simp [zetaL, zetaL_len t k]
theorem zetaV_len (m : List (List Int)) (n : Int) : (zetaV m n).length ≤ 9 := by
  unfold zetaV
  split
  · rw [zetaL_len]; omega
  · simp
def P200 (k : Nat) : Int := 200 ^ k
theorem P200_succ (k : Nat) : P200 (k + 1) = 200 * P200 k := by unfold P200; rw [Int.pow_succ]; omega
theorem P200_pos (k : Nat) : 1 ≤ P200 k := by
  induction k with
  | zero => decide
  | succ k ih => rw [P200_succ]; omega
def wgt : Nat → Int
  | 1 => 72
  | _ => 7
theorem coef_wgt {i : Nat} {x y : Int} {k : Nat} (hi : 1 ≤ i) (hik : i ≤ k) (h4 : i ≤ 4) (hx : -(16 * detB i) ≤ x ∧ x ≤ 16 * detB i) (hy : -(P200 (k - i)) ≤ y ∧ y ≤ P200 (k - i)) : -(wgt i * P200 k) ≤ 100 * (x * y) ∧ 100 * (x * y) ≤ wgt i * P200 k := by
  have h := prod_bd hx hy
  obtain ⟨j, rfl⟩ : ∃ j, k = j + i := ⟨k - i, by omega⟩
  rw [Nat.add_sub_cancel] at h
  have hp := P200_pos j
  match i, hi, h4 with
  | 1, _, _ =>
    have e : P200 (j + 1) = 200 * P200 j := P200_succ j
    rw [e]
    have e1 : detB 1 = 9 := rfl
    have e2 : wgt 1 = 72 := rfl
    rw [e1] at h
    rw [e2]
    omega
  | 2, _, _ =>
    have e : P200 (j + 2) = 40000 * P200 j := by rw [P200_succ, P200_succ]; omega
    rw [e]
    have e1 : detB 2 = 162 := rfl
    have e2 : wgt 2 = 7 := rfl
    rw [e1] at h
    rw [e2]
    omega
  | 3, _, _ =>
    have e : P200 (j + 3) = 8000000 * P200 j := by rw [P200_succ, P200_succ, P200_succ]; omega
    rw [e]
    have e1 : detB 3 = 4374 := rfl
    have e2 : wgt 3 = 7 := rfl
    rw [e1] at h
    rw [e2]
    omega
  | 4, _, _ =>
    have e : P200 (j + 4) = 1600000000 * P200 j := by rw [P200_succ, P200_succ, P200_succ, P200_succ]; omega
    rw [e]
    have e1 : detB 4 = 157464 := rfl
    have e2 : wgt 4 = 7 := rfl
    rw [e1] at h
    rw [e2]
    omega
def TBd (t : List Int) : Prop := t.length ≤ 5 ∧ ∀ (k : Nat) (x : Int), t[k]? = some x → -(16 * detB k) ≤ x ∧ x ≤ 16 * detB k
theorem turnedP_tbd (m : List (List Int)) : TBd (turnedP m) := ⟨turnedP_len m, fun _ _ h => (turnedP_at h).2⟩
def ZBd (out : List Int) : Prop := ∀ (k : Nat) (x : Int), out[k]? = some x → -(P200 k) ≤ x ∧ x ≤ P200 k
theorem getD_at {l : List Int} {i : Nat} (h : i < l.length) : l[i]? = some (l.getD i 0) := by simp [List.getD, h]
theorem zTerm_bd {t out : List Int} {k i : Nat} (ht : TBd t) (ho : ZBd out) (hi : 1 ≤ i) (hik : i ≤ k) (hit : i < t.length) (hok : k - i < out.length) : -(wgt i * P200 k) ≤ 100 * (t.getD i 0 * out.getD (k - i) 0) ∧ 100 * (t.getD i 0 * out.getD (k - i) 0) ≤ wgt i * P200 k :=
  coef_wgt hi hik (by have := ht.1; omega) (ht.2 i _ (getD_at hit)) (ho _ _ (getD_at hok))
theorem zSum_bd {t out : List Int} {k : Nat} (ht : TBd t) (ho : ZBd out) (hl : out.length = k) : ∀ i, i ≤ zRnd t k → (-(100 * P200 k) ≤ 100 * zSum t out k i ∧ 100 * zSum t out k i ≤ 100 * P200 k) ∧ (i = 0 ∨ (-((65 + 7 * (i : Int)) * P200 k) ≤ 100 * zSum t out k i ∧ 100 * zSum t out k i ≤ (65 + 7 * (i : Int)) * P200 k))
  | 0, _ => by
    have := P200_pos k
    exact ⟨by simp only [zSum]; omega, Or.inl rfl⟩
  | i + 1, hi => by
    have h1 := (zSum_bd ht ho hl i (by omega)).2
    have h0 := ht.1
    unfold zRnd at hi
    have h2 := zTerm_bd (k := k) (i := i + 1) ht ho (by omega) (by omega) (by omega) (by omega)
    have hp := P200_pos k
    have e : zSum t out k (i + 1) = zSum t out k i - t.getD (i + 1) 0 * out.getD (k - (i + 1)) 0 := rfl
    rw [e]
    generalize t.getD (i + 1) 0 * out.getD (k - (i + 1)) 0 = y at *
    have h4 : i + 1 ≤ 4 := by omega
    generalize P200 k = q at *
    have key : -((65 + 7 * ((i + 1 : Nat) : Int)) * q) ≤ 100 * (zSum t out k i - y) ∧ 100 * (zSum t out k i - y) ≤ (65 + 7 * ((i + 1 : Nat) : Int)) * q := by
      match i, h4 with
      | 0, _ => simp only [zSum, wgt] at *; omega
      | 1, _ => simp only [wgt] at h2; generalize zSum t out k 1 = s at *; omega
      | 2, _ => simp only [wgt] at h2; generalize zSum t out k 2 = s at *; omega
      | 3, _ => simp only [wgt] at h2; generalize zSum t out k 3 = s at *; omega
    refine ⟨?_, Or.inr key⟩
    have h5 : (65 + 7 * ((i + 1 : Nat) : Int)) * q ≤ 100 * q := Int.mul_le_mul_of_nonneg_right (by omega) (by omega)
    omega
theorem zetaL_bd {t : List Int} (ht : TBd t) : ∀ k, ZBd (zetaL t k)
  | 0 => by
    intro k x h
    have h1 := (List.getElem?_eq_some_iff.1 h).1
    simp [zetaL] at h1
    subst h1
    simp [zetaL] at h
    subst h
    decide
  | k + 1 => by
    intro j x h
    unfold zetaL at h
    by_cases hj : j < k + 1
    · rw [List.getElem?_append_left (by rw [zetaL_len]; exact hj)] at h
      exact zetaL_bd ht k j x h
    · rw [List.getElem?_append_right (by rw [zetaL_len]; omega), zetaL_len] at h
      have h1 := (List.getElem?_eq_some_iff.1 h).1
      simp at h1
      obtain rfl : j = k + 1 := by omega
      simp at h
      subst h
      have h2 := (zSum_bd ht (zetaL_bd ht k) (zetaL_len t k) _ (Nat.le_refl (zRnd t (k + 1)))).1
      omega
theorem P200_le {k : Nat} (h : k ≤ 8) : P200 k ≤ 2560000000000000000 := by
  match k, h with
  | 0, _ | 1, _ | 2, _ | 3, _ | 4, _ | 5, _ | 6, _ | 7, _ | 8, _ => decide
end Go.Proofs.YtlkgkfgpnnahdaaGreat
end

section
/-
  The runs of append, told ahead of a walk: one own element, a slice of plain values.
-/
namespace Go.Sd
open Go.RowKit Go.Deep
section
variable {P : Program} {w : World}
theorem run_push {α : Type} {R : OwnRel α} (hR : Kept R) (t ty : TypeId)
    (e : TypeId) (z : Value) (bytes : Nat) (ht : P.underlying t = some (.slice e)) (hinfo : (P.info? e).map (fun i => (i.zero, i.size, i.bytes)) = some (some z, 1, bytes)) (hz1 : z.cells = #[z])
    {w0 : World} {lo : Nat} {v : Value} {xs : List α} (h0 : New (OwnOf e R) lo w0 v xs) (hlo : lo ≤ w0.heap.size) (hb : Below w0.heap.size w0 w)
    {u : Value} {y : α} (hu : New R w0.heap.size w u y) {bb : Nat} {c : Nat} (hcell : w.cell? ⟨bb, 0, none⟩ = some u)
    (hbytes : (xs.length + 1) * bytes ≤ 140737488355328) (h63 : xs.length + 1 ≤ 9223372036854775807) :
    ∃ v' w', (Builtin.append_ #[t, t] ty #[v, .slice (some ⟨bb, 0, none⟩) 1 c]).run P w = .ok v' w' ∧ New (OwnOf e R) lo w' v' (xs ++ [y]) ∧ w.grownBy w' v.ownBlock ∧ Below lo w0 w' := by
  obtain ⟨i, hi, hzz⟩ := Option.map_eq_some_iff.1 hinfo
  simp only [Prod.mk.injEq] at hzz
  obtain ⟨hz, hsz, hby⟩ := hzz
  obtain ⟨F, ⟨us, Fs, how, hl, hr, rfl⟩, hnd, hge⟩ := h0
  obtain ⟨G, hG, hGn, hGe⟩ := hu
  have hul : us.length = xs.length := by simpa using how.1
  have hvlt : ∀ k, v.ownBlock = some k → lo ≤ k ∧ k < w0.heap.size := fun k hk => ⟨hge k (by simp [hk]), (how.lt k hk).2⟩
  have how1 : w.ownsRow 0 e 1 v xs.length us := ownsRow_keep how fun b hb' => hb.block b (hvlt b hb').2
  obtain ⟨v', w', hrun, how', hg, _, hat⟩ := run_append_own_at (P := P) w 0 t ty e i z 1 bytes ht hi hz hsz hby (by rw [hz1]; rfl) (by decide) v xs.length us how1 ⟨bb, 0, none⟩ 1 c [u] (by simp)
    (by
      intro j u' hj
      match j, hj with
      | 0, hj =>
        simp at hj
        subst hj
        simpa [Addr.add] using hcell)
    (by
      intro u' hu'
      simp at hu'
      subst hu'
      exact hR.one _ _ _ _ hG) h63 hbytes (Nat.zero_le _)
  have hlt0 : ∀ b, b ∈ Fs.flatten → b < w0.heap.size := fun b hb' => by
    obtain ⟨H, hH, hb2⟩ := List.mem_flatten.1 hb'
    obtain ⟨j, hj⟩ := List.getElem?_of_mem hH
    have hj1 : j < Fs.length := (List.getElem?_eq_some_iff.1 hj).1
    exact hR.lt _ _ _ _ (hr j us[j] xs[j] H (List.getElem?_eq_getElem (by omega)) (List.getElem?_eq_getElem (by omega)) hj) b hb2
  have hsize := hb.size
  have hGlt : ∀ b, b ∈ G → b < w.heap.size := hR.lt _ _ _ _ hG
  have hnd' := List.nodup_append.1 hnd
  have hnv : ∀ k, v.ownBlock = some k → k ∉ Fs.flatten := fun k hk hm => hnd'.2.2 k (by simp [hk]) k hm rfl
  refine ⟨v', w', hrun, ⟨v'.ownBlock.toList ++ (Fs ++ [G]).flatten, ⟨us ++ [u], Fs ++ [G], by simpa using how', by simp [hl], ?_, rfl⟩, ?_, ?_⟩, hg, ?_⟩
  · intro j u' x' G' hu' hx' hG'
    by_cases hj : j < xs.length
    · rw [List.getElem?_append_left (by omega)] at hu' hx' hG'
      refine hR.keep _ _ _ _ _ (hr j u' x' G' hu' hx' hG') fun b hb' => ?_
      have hm : b ∈ Fs.flatten := List.mem_flatten_of_mem (List.mem_of_getElem? hG') hb'
      have h1 := hlt0 b hm
      rw [hg.block b (by omega) (fun e => hnv b e.symm hm), hb.block b h1]
    · have hj2 : j = xs.length := by
        have := (List.getElem?_eq_some_iff.1 hx').1
        simp at this; omega
      subst hj2
      rw [List.getElem?_append_right (by omega)] at hu' hx' hG'
      simp [hul, hl] at hu' hx' hG'
      subst hu' hx' hG'
      refine hR.keep _ _ _ _ _ hG fun b hb' => hg.block b (hGlt b hb') fun e => ?_
      have := hvlt b e.symm
      have := hGe b hb'
      omega
  · simp only [List.flatten_append, List.flatten_cons, List.flatten_nil, List.append_nil]
    refine List.nodup_append.2 ⟨by cases v'.ownBlock <;> simp, List.nodup_append.2 ⟨hnd'.2.1, hGn, ?_⟩, ?_⟩
    · intro p hp q hq e
      subst e
      have := hlt0 p hp
      have := hGe p hq
      omega
    · intro p hp q hq e
      subst e
      simp at hp
      rcases hat with hat | hat
      · rw [hat] at hp
        rcases List.mem_append.1 hq with hq | hq
        · exact hnv p hp hq
        · have := hvlt p hp
          have := hGe p hq
          omega
      · rw [hat] at hp
        simp at hp
        rcases List.mem_append.1 hq with hq | hq
        · have := hlt0 p hq; omega
        · have := hGlt p hq; omega
  · intro b hb'
    rcases List.mem_append.1 hb' with hb' | hb'
    · simp at hb'
      rcases hat with hat | hat
      · rw [hat] at hb'; exact (hvlt b hb').1
      · rw [hat] at hb'; simp at hb'; omega
    · simp at hb'
      rcases hb' with ⟨H, hH, hb'⟩ | hb'
      · exact hge b (by simp; exact Or.inr ⟨H, hH, hb'⟩)
      · have := hGe b hb'; omega
  · exact (hb.mono hlo).grown hg (by omega) (fun k hk => (hvlt k hk).1)
theorem run_vals {α : Type} {f : α → Value} (hf : ∀ x, (f x).oneCell' = true) (t ty : TypeId)
    (e : TypeId) (z : Value) (bytes : Nat) (ht : P.underlying t = some (.slice e)) (hinfo : (P.info? e).map (fun i => (i.zero, i.size, i.bytes)) = some (some z, 1, bytes)) (hz1 : z.cells = #[z])
    {lo : Nat} {v : Value} {ys : List α} (h0 : New (OwnOf e (OValR f)) lo w v ys) (hlo : lo ≤ w.heap.size)
    {v2 : Value} {xs : List α} (h2 : SlOf (ValR f) w v2 xs)
    (hbytes : (ys.length + xs.length) * bytes ≤ 140737488355328) (h63 : ys.length + xs.length ≤ 9223372036854775807) :
    ∃ v' w', (Builtin.append_ #[t, t] ty #[v, v2]).run P w = .ok v' w' ∧ New (OwnOf e (OValR f)) lo w' v' (ys ++ xs) ∧ w.grownBy w' v.ownBlock ∧ Below lo w w' := by
  obtain ⟨i, hi, hzz⟩ := Option.map_eq_some_iff.1 hinfo
  simp only [Prod.mk.injEq] at hzz
  obtain ⟨hz, hsz, hby⟩ := hzz
  have h0' := h0
  obtain ⟨F, ⟨us, Fs, how, hl, hr, rfl⟩, hnd, hge⟩ := h0
  have hul : us.length = ys.length := by simpa using how.1
  have hvlt : ∀ k, v.ownBlock = some k → lo ≤ k ∧ k < w.heap.size := fun k hk => ⟨hge k (by simp [hk]), (how.lt k hk).2⟩
  obtain ⟨vs, hsl, hvl, hvr⟩ := h2
  have hvs : vs = xs.map f := by
    apply List.ext_getElem?
    intro j
    by_cases hj : j < xs.length
    · rw [List.getElem?_map, List.getElem?_eq_getElem hj, List.getElem?_eq_getElem (by omega)]
      exact congrArg some (hvr j _ _ (List.getElem?_eq_getElem (by omega)) (List.getElem?_eq_getElem hj))
    · rw [List.getElem?_eq_none (by omega), List.getElem?_eq_none (by simp; omega)]
  subst hvs
  obtain ⟨_, ad, c, hv2, _, _, hn, hcells⟩ := hsl
  simp only [List.length_map] at hv2
  have key : ∀ (ad : Addr), (∀ (j : Nat) (u : Value), (xs.map f)[j]? = some u → w.cell? (ad.add j) = some u) → v2 = .slice (some ad) xs.length c → ∃ v' w', (Builtin.append_ #[t, t] ty #[v, v2]).run P w = .ok v' w' ∧ New (OwnOf e (OValR f)) lo w' v' (ys ++ xs) ∧ w.grownBy w' v.ownBlock ∧ Below lo w w' := by
    intro ad had hv2'
    obtain ⟨v', w', hrun, how', hg, _, hat⟩ := run_append_own_at (P := P) w 0 t ty e i z 1 bytes ht hi hz hsz hby (by rw [hz1]; rfl) (by decide) v ys.length us how ad xs.length c (xs.map f) (by simp) had
      (by
        intro u hu
        obtain ⟨y, _, rfl⟩ := List.mem_map.1 hu
        exact hf y) h63 hbytes (Nat.zero_le _)
    have hFs : ∀ G, G ∈ Fs → G = [] := fun G hG => by
      obtain ⟨j, hj⟩ := List.getElem?_of_mem hG
      have hj1 : j < Fs.length := (List.getElem?_eq_some_iff.1 hj).1
      exact (hr j us[j] ys[j] G (List.getElem?_eq_getElem (by omega)) (List.getElem?_eq_getElem (by omega)) hj).2
    have hfl : (Fs ++ List.replicate xs.length []).flatten = [] := by
      rw [List.flatten_eq_nil_iff]
      intro G hG
      rcases List.mem_append.1 hG with hG | hG
      · exact hFs G hG
      · exact (List.mem_replicate.1 hG).2
    refine ⟨v', w', by rw [hv2']; exact hrun, ⟨_, ⟨us ++ xs.map f, Fs ++ List.replicate xs.length [], by simpa using how', by simp [hl], ?_, rfl⟩, ?_, ?_⟩, hg, (Below.of_grown hg hlo fun k hk => (hvlt k hk).1)⟩
    · intro j u' x' G' hu' hx' hG'
      by_cases hj : j < ys.length
      · rw [List.getElem?_append_left (by omega)] at hu' hx' hG'
        exact hr j u' x' G' hu' hx' hG'
      · rw [List.getElem?_append_right (by omega)] at hu' hx' hG'
        rw [hul, List.getElem?_map, hx'] at hu'
        simp at hu'
        exact ⟨hu'.symm, (List.mem_replicate.1 (List.mem_of_getElem? hG')).2⟩
    · rw [hfl]
      cases v'.ownBlock <;> simp
    · intro b hb
      rw [hfl] at hb
      simp at hb
      rcases hat with hat | hat
      · rw [hat] at hb; exact (hvlt b hb).1
      · rw [hat] at hb; simp at hb; omega
  cases ad with
  | none =>
    have hx0 : xs = [] := by
      rcases hcells with h | ⟨b, o, h, _⟩
      · simpa using h
      · cases h
    subst hx0
    have := hn rfl
    subst this
    refine ⟨v, w, ?_, by rw [List.append_nil]; exact h0', ⟨rfl, rfl, rfl, Nat.le_refl _, fun _ _ _ => rfl⟩, Below.refl _ _⟩
    rw [hv2]
    exact run_append_owned_none (P := P) w 0 t ty e i 1 ht hi v _ us how
  | some ad =>
    rcases hcells with hnil | ⟨b, o, had, _, hc⟩
    · exact key ad (by rw [hnil]; simp) hv2
    · cases had
      refine key _ (fun j u hj => ?_) hv2
      have := hc j u hj
      cases j <;> simpa [Addr.add] using this
end
end Go.Sd
end

section
/-
  A region that draws its order and whose last operation writes a cell that the region reads: the condition on the world is asked only while operations are left.
-/
namespace Go.Sd
open Go.RowKit Go.Deep
section
variable {P : Program} {ops : Array Oper} {Q : Exit → Act → World → Prop} {md : Region.Mode} {S : World → Prop}
/-- Some operation is left. -/
def Rem (listed : Array Bool) : Prop := ∃ k : Nat, listed[k]? = some false
/-- Some operation that is left waits for number i. -/
def waited (md : Region.Mode) (ops : Array Oper) (listed : Array Bool) (i : Nat) : Bool := (List.range ops.size).any fun m => (listed[m]? == some false) && (decide (m ≠ i) && (match ops[m]? with | some om => om.after.any (fun e => Region.binds md e && decide (e.on = i)) | none => false))
def wpAnyL (P : Program) (md : Region.Mode) (ops : Array Oper) (Q : Exit → Act → World → Prop) (S : World → Prop) : Nat → Array Bool → Act → World → Prop
  | 0, listed, a, w => Region.ready md ops listed = [] ∧ Q .normal a w
  | fuel + 1, listed, a, w =>
    (Region.ready md ops listed = [] → Q .normal a w) ∧
    ∀ i ∈ Region.ready md ops listed, wpOp P ops Q i (fun a' w' => (Rem (listed.setIfInBounds i true) → S w') ∧ wpAnyL P md ops Q S fuel (listed.setIfInBounds i true) a' w') a w
theorem wpAny_of_L : ∀ (fuel : Nat) (listed : Array Bool) (a : Act) (w : World), wpAnyL P md ops Q S fuel listed a w → wpAny P md ops Q fuel listed a w
  | 0, _, _, _, h => h
  | fuel + 1, _, _, _, h => ⟨h.1, fun i hi => wpOp_mono (fun _ _ h' => wpAny_of_L fuel _ _ _ h'.2) (h.2 i hi)⟩
theorem wpAnyL_first {i : Nat} {oi : Oper} {v : Value} (hi : ops[i]? = some oi) (hsel : ∀ (j : Nat) (o : Oper) cs b, ops[j]? = some o → o.op ≠ .select cs b)
    (hQ : ∀ c a w, Q (.panic c) (a.put oi.dst v) w → Q (.panic c) a w) :
    ∀ (fuel : Nat) (listed : Array Bool) (a : Act) (w : World),
      (∀ j oj, ops[j]? = some oj → j ≠ i → listed.getD j true = false → (∀ e ∈ oj.after, Region.binds md e = true → e.on ≠ i) → oi.apart ops oj = true) →
      i ∈ Region.ready md ops listed → (∃ m om, ops[m]? = some om ∧ listed[m]? = some false ∧ m ≠ i ∧ ∃ e ∈ om.after, Region.binds md e = true ∧ e.on = i) → YieldsIf P ops S oi v a → S w →
      wpAnyL P md ops Q S fuel (listed.setIfInBounds i true) (a.put oi.dst v) w → wpAnyL P md ops Q S (fuel + 1) listed a w := by
  intro fuel
  induction fuel with
  | zero =>
    intro listed a w _ hr _ hy hS H
    refine ⟨fun h => (by rw [h] at hr; cases hr), fun j hj => ?_⟩
    by_cases e : j = i
    · subst e; exact hy.wpOp hi hS ⟨fun _ => hS, H⟩
    · have h1 := ready_mono hj e
      rw [H.1] at h1
      cases h1
  | succ fuel ih =>
    intro listed a w hfree hr hm hy hS H
    refine ⟨fun h => (by rw [h] at hr; cases hr), fun j hj => ?_⟩
    by_cases e : j = i
    · subst e; exact hy.wpOp hi hS ⟨fun _ => hS, H⟩
    · have hn := H.2 j (ready_mono hj e)
      obtain ⟨hju, oj, hoj, hall⟩ := mem_ready.1 hj
      have hnot : ∀ f ∈ oj.after, Region.binds md f = true → f.on ≠ i := fun f hf hb he => by
        have g1 := hall f hf hb
        have g0 := (mem_ready.1 hr).1
        rw [he] at g1
        by_cases hl : i < listed.size
        · simp [hl] at g0 g1; rw [g0] at g1; cases g1
        · simp [Array.getElem?_eq_none (Nat.le_of_not_lt hl)] at g1
      have hp := wpOp_putIf hoj (hfree j oj hoj e hju hnot) (fun cs b => hsel i oi cs b hi) (fun cs b => hsel j oj cs b hoj) hQ hy hn
      have hir : i ∈ Region.ready md ops (listed.setIfInBounds j true) := ready_mono hr (fun h => e h.symm)
      have hfr : ∀ k ok, ops[k]? = some ok → k ≠ i → (listed.setIfInBounds j true).getD k true = false → (∀ f ∈ ok.after, Region.binds md f = true → f.on ≠ i) → oi.apart ops ok = true := fun k ok hk hki hun hno => by
        refine hfree k ok hk hki ?_ hno
        by_cases hjk : j = k
        · subst hjk; exact hju
        · rw [getD_set_ne true hjk] at hun; exact hun
      refine wpOp_mono (fun a' w' h => ?_) hp
      obtain ⟨m, om, h1, h2, h3, f, hf, hb, he⟩ := hm
      have hjm : j ≠ m := fun h0 => by
        subst h0
        rw [hoj] at h1
        obtain rfl := Option.some.inj h1
        exact hnot f hf hb he
      have hSw : S w' := h.2.1 ⟨m, by rw [Array.getElem?_setIfInBounds_ne hjm, Array.getElem?_setIfInBounds_ne (Ne.symm h3)]; exact h2⟩
      refine ⟨fun _ => hSw, ih _ a' w' hfr hir ⟨m, om, h1, by rw [Array.getElem?_setIfInBounds_ne hjm]; exact h2, h3, f, hf, hb, he⟩ h.1 hSw ?_⟩
      rw [Array.setIfInBounds_comm _ _ e]
      exact h.2.2
theorem waited_spec {listed : Array Bool} {i : Nat} (h : waited md ops listed i = true) : ∃ m om, ops[m]? = some om ∧ listed[m]? = some false ∧ m ≠ i ∧ ∃ e ∈ om.after, Region.binds md e = true ∧ e.on = i := by
  unfold waited at h
  obtain ⟨m, _, h⟩ := List.any_eq_true.1 h
  simp only [Bool.and_eq_true, beq_iff_eq, decide_eq_true_eq] at h
  obtain ⟨h1, h2, h3⟩ := h
  cases hm : ops[m]? with
  | none => rw [hm] at h3; cases h3
  | some om =>
    rw [hm] at h3
    obtain ⟨k, hk, he⟩ := Array.any_eq_true.1 h3
    simp only [Bool.and_eq_true, decide_eq_true_eq] at he
    exact ⟨m, om, hm, h1, h2, _, Array.getElem_mem hk, he⟩
theorem wpAnyL_take (i : Nat) {oi : Oper} {v : Value} {fuel : Nat} {listed : Array Bool} {a : Act} {w : World} (hi : ops[i]? = some oi)
    (hs : Region.noSelect ops = true) (hf : Region.free md ops listed i = true) (hr : (Region.ready md ops listed).contains i = true) (hw : waited md ops listed i = true)
    (hQ : ∀ c a w, Q (.panic c) (a.put oi.dst v) w → Q (.panic c) a w) (hy : YieldsIf P ops S oi v a) (hS : S w)
    (h : wpAnyL P md ops Q S fuel (listed.setIfInBounds i true) (a.put oi.dst v) w) : wpAnyL P md ops Q S (fuel + 1) listed a w :=
  wpAnyL_first hi (Region.noSelect_spec hs) hQ fuel listed a w (Region.free_spec hi hf) (by simpa using hr) (waited_spec hw) hy hS h
/-- One alone may come up. -/
theorem wpAnyL_one (i : Nat) {o : Oper} {fuel : Nat} {listed : Array Bool} {a : Act} {w : World} (hr : Region.ready md ops listed = [i]) (ho : ops[i]? = some o)
    (h : ∀ K' : Act → World → Prop, Shut (∀ a w, (Rem (listed.setIfInBounds i true) → S w) → wpAnyL P md ops Q S fuel (listed.setIfInBounds i true) a w → K' a w) → if Region.wanted o (yielded ops a.tmps) = true then Oper.wp P o a w K' Q else K' (a.put o.dst undef) w) : wpAnyL P md ops Q S (fuel + 1) listed a w :=
  ⟨fun h0 => (by rw [hr] at h0; cases h0), fun j hj => by
    rw [hr] at hj
    obtain rfl := List.mem_singleton.1 hj
    exact wpOp_step ho fun K' hK => h K' fun a w hS hW => hK a w ⟨hS, hW⟩⟩
theorem wpAnyL_done {listed : Array Bool} {a : Act} {w : World} (hr : Region.ready md ops listed = []) (h : Q .normal a w) : ∀ fuel, wpAnyL P md ops Q S fuel listed a w
  | 0 => ⟨hr, h⟩
  | _ + 1 => ⟨fun _ => h, by rw [hr]; simp⟩
theorem wp_region_L (S : World → Prop) {id : Nat} {a : Act} {w : World} (hm : P.follows .mixedOrders = true) (h : wpAnyL P .any ops Q S ops.size (Array.replicate ops.size false) a w.drew) : (Code.region id ops true).wp P Q a w :=
  wp_region_any hm (wpAny_of_L _ _ _ _ h)
/-- All of the listed have come up. -/
def allUp (listed : Array Bool) : Bool := listed.all id
theorem not_rem {listed : Array Bool} (h : allUp listed = true) : ¬ Rem listed := by
  rintro ⟨k, hk⟩
  unfold allUp at h
  have hl := (Array.getElem?_eq_some_iff.1 hk)
  have := Array.all_eq_true.1 h k hl.1
  rw [hl.2] at this
  cases this
end
end Go.Sd
end

section
/-
  IsSmall, both sides; a table without a row and a column (the program's).
-/
namespace Go.Sd
open Go.RowKit Go.Deep
theorem Tab.rowOf {w : World} {v : Value} {m : List (List Int)} (h : Tab w v m) {i : Nat} {r : List Int} (hr : m[i]? = some r) : ∃ b o c a' c', v = .slice (some ⟨b, o, none⟩) m.length c ∧ b < w.heap.size ∧ w.cell? ⟨b, o + i, none⟩ = some (.slice a' r.length c') ∧ Ints w (.slice a' r.length c') r := by
  obtain ⟨a, c, rfl, -, -, hc⟩ := h.shape
  have hi := (List.getElem?_eq_some_iff.1 hr).1
  obtain ⟨b, o, rfl, hb, hx⟩ := hc (by omega)
  obtain ⟨u, hu, hru⟩ := hx i r hr
  obtain ⟨a', c', rfl, -⟩ := hru.shape
  exact ⟨b, o, c, a', c', rfl, hb, hu, hru⟩
theorem Ints.elOf {w : World} {v : Value} {xs : List Int} (h : Ints w v xs) {j : Nat} {x : Int} (hx : xs[j]? = some x) : ∃ b o c, v = .slice (some ⟨b, o, none⟩) xs.length c ∧ b < w.heap.size ∧ w.cell? ⟨b, o + j, none⟩ = some (.int .i64 x) := by
  obtain ⟨a, c, rfl, -, -, hc⟩ := h.shape
  have hi := (List.getElem?_eq_some_iff.1 hx).1
  obtain ⟨b, o, rfl, hb, hx'⟩ := hc (by omega)
  obtain ⟨u, hu, hru⟩ := hx' j x hx
  exact ⟨b, o, c, rfl, hb, by rw [hu, show u = .int .i64 x from hru]⟩
end Go.Sd
namespace Go.Proofs.YtlkgkfgpnnahdaaGreat
open Go.RowKit Go.Deep Go.Sd
set_option linter.unusedSimpArgs false
theorem all_drop {α : Type} {p : α → Bool} {xs : List α} {k : Nat} {x : α} (h : xs[k]? = some x) : (xs.drop k).all p = (p x && (xs.drop (k + 1)).all p) := by
  obtain ⟨h1, h2⟩ := List.getElem?_eq_some_iff.1 h
  rw [List.drop_eq_getElem_cons h1, h2, List.all_cons]
def nines (m : List (List Int)) : Bool := m.all fun r => r.all nineOk
set_option maxHeartbeats 1000000 in
set_option maxRecDepth 100000 in
theorem spec_IsSmall_c {w : World} {v : Value} {m : List (List Int)} (h : Tab w v m) :
    Calls Tryz.prog 25 #[v] w fun e w' => e = .returned (.bool (smallM m)) ∧ w' = w := by
  have HI := Lib.hid (spec_IsMatrix_c h)
  have HT := Lib.hid h
  obtain ⟨va, vc, rfl, -⟩ := h.shape
  have hlen := h.len
  have HM := Lib.hid (show smallM m = (isMat m && (decide (m.length ≤ 4) && nines m)) from rfl)
  generalize smallM m = R at HM ⊢
  obtain ⟨N, hN⟩ : ∃ N, N = nines m := ⟨_, rfl⟩
  rw [← hN] at HM
  have HR := Lib.hid (show N = (m.drop 0).all (fun r => r.all nineOk) from hN)
  clear h hN
  obtain ⟨n, hn⟩ : ∃ n, n = m.length := ⟨_, rfl⟩
  have Hn := Lib.hid hn
  have HT' := Lib.hid (show Tab w (.slice va n vc) m from by rw [hn]; exact HT.out)
  generalize isMat m = im at HI HM
  rw [← hn] at hlen HI HM ⊢
  clear HT hn
  go_enter Tryz.func25, Tryz.ntmps25
  go_wp2
  go_loopg [3] n (fun g i wr => ∃ (k : Nat), i = .int .i64 k ∧ k + g = n ∧ Hid (N = (m.drop k).all (fun r => r.all nineOk)) ∧ wr = w)
  case atStart => exact ⟨0, rfl, by omega, HR, rfl⟩
  case round =>
    clear HR
    obtain ⟨k, rfl, hk, HR, rfl⟩ := hrel
    by_cases hkn : k < n
    · have hki : (k : Int) < (n : Int) := by omega
      obtain ⟨g, rfl⟩ : ∃ x, gk = x + 1 := ⟨gk - 1, by omega⟩
      obtain ⟨row, hrow, -⟩ := at_lt (xs := m) (k := k) (by have := Hn.out; omega)
      obtain ⟨b, o, c, ra, rc, hv, -, g1, hri⟩ := HT'.out.rowOf hrow
      simp only [Value.slice.injEq] at hv
      obtain ⟨rfl, -, rfl⟩ := hv
      have HR1 := Lib.hid (show N = ((row.drop 0).all nineOk && (m.drop (k + 1)).all (fun r => r.all nineOk)) from by rw [HR.out, all_drop hrow]; rfl)
      have hrl := hri.len
      obtain ⟨rn, hrn⟩ : ∃ n, n = row.length := ⟨_, rfl⟩
      have Hrn := Lib.hid hrn
      rw [← hrn] at g1 hri hrl
      have Hri := Lib.hid hri
      clear hrow hri HR hrn
      go_wp2
      go_loopg [4] rn (fun g2 i wr2 => ∃ (j : Nat), i = .int .i64 j ∧ j + g2 = rn ∧ Hid (N = ((row.drop j).all nineOk && (m.drop (k + 1)).all (fun r => r.all nineOk))) ∧ wr2 = wr)
      case atStart => exact ⟨0, rfl, by omega, HR1, rfl⟩
      case round =>
        clear HR1
        obtain ⟨j, rfl, hj, HR, rfl⟩ := hrel
        by_cases hjn : j < rn
        · have hji : (j : Int) < (rn : Int) := by omega
          obtain ⟨g2, rfl⟩ : ∃ x, gk = x + 1 := ⟨gk - 1, by omega⟩
          obtain ⟨x, hx, -⟩ := at_lt (xs := row) (k := j) (by have := Hrn.out; omega)
          obtain ⟨b2, o2, c2, hv, -, g2'⟩ := Hri.out.elOf hx
          simp only [Value.slice.injEq] at hv
          obtain ⟨rfl, -, rfl⟩ := hv
          have HR1 := Lib.hid (show N = ((nineOk x && (row.drop (j + 1)).all nineOk) && (m.drop (k + 1)).all (fun r => r.all nineOk)) from by rw [HR.out, all_drop hx])
          clear hx HR
          by_cases h9 : 9 < x
          · have HF := Lib.hid (show R = false from by rw [HM.out, HR1.out, show nineOk x = false from decide_eq_false (by omega)]; simp)
            clear HR1 HM HI
            go_wp2
            go_ret
            exact ⟨by rw [HF.out]; rfl, rfl⟩
          · have HF := Lib.hid (show N = ((row.drop (j + 1)).all nineOk && (m.drop (k + 1)).all (fun r => r.all nineOk)) from by rw [HR1.out, show nineOk x = true from decide_eq_true (by omega)]; rfl)
            clear HR1
            go_wp2
            go_roundg g2
            case measure => omega
            case rel => exact ⟨j + 1, by go_num, by omega, HF, rfl⟩
        · have hji : ¬ ((j : Int) < (rn : Int)) := by omega
          have HF := Lib.hid (show N = (m.drop (k + 1)).all (fun r => r.all nineOk) from by rw [HR.out, drop_len (by have := Hrn.out; omega)]; rfl)
          clear HR
          go_wp2
          go_roundg g
          case measure => omega
          case rel => exact ⟨k + 1, by go_num, by omega, HF, rfl⟩
    · have hki : ¬ ((k : Int) < (n : Int)) := by omega
      have HF := Lib.hid (show R = (im && decide (n ≤ 4)) from by rw [HM.out, HR.out, drop_len (by have := Hn.out; omega)]; simp)
      clear HR HM
      go_wp2_with fail
      (with_reducible refine HI.out.mono ?_)
      rintro e w0 ⟨rfl, rfl⟩
      cases im with
      | false =>
        go_wp2
        go_ret
        exact ⟨by rw [HF.out]; rfl, rfl⟩
      | true =>
        go_wp2
        go_ret
        exact ⟨by rw [HF.out, show (true && decide (n ≤ 4)) = decide ((n : Int) ≤ 4) from by rw [Bool.true_and]; exact decide_eq_decide.2 (by omega)]; rfl, rfl⟩
end Go.Proofs.YtlkgkfgpnnahdaaGreat
end

section
/-
  The laws of append as steps of a region that draws its order.
-/
namespace Go.Sd
open Go.RowKit Go.Deep

section
variable {P : Program} {w : World} {ops : Array Oper} {o : Oper} {a : Act} {Q : Exit → Act → World → Prop} {K : Act → World → Prop} {E : Prop}

theorem step_append_run (hw : Region.wanted o (yielded ops a.tmps) = true) (s x : Operand) (t : TypeId)
    (ho : o.op = .call { callee := .builtin .append, args := #[s, x], argTypes := #[t, t] }) {v v2 v' : Value} {w' : World} (hs : a.eval s = v) (hx : a.eval x = v2)
    (hr : (Builtin.append_ #[t, t] o.type #[v, v2]).run P w = .ok v' w') (h : K (a.put o.dst v') w') : if Region.wanted o (yielded ops a.tmps) = true then Oper.wp P o a w K Q else E := by
  rw [if_pos hw]
  unfold Oper.wp execOp
  simp only [ho, resolve, invoke, builtin, Sem.run_bind, Sem.run_pure, Result.andThen_ok, List.map_toArray, List.map_cons, List.map_nil, hs, hx, hr]
  exact h

/-- 'append(v, u)' where v is a slice of the call's own, as it stood in an earlier world w0, and u is an element made since. -/
theorem step_push {α : Type} {R : OwnRel α} (hR : Kept R) (hgd : Region.wanted o (yielded ops a.tmps) = true) (s x : Operand) (t : TypeId)
    (ho : o.op = .call { callee := .builtin .append, args := #[s, x], argTypes := #[t, t] })
    (e : TypeId) (z : Value) (bytes : Nat) (ht : P.underlying t = some (.slice e)) (hinfo : (P.info? e).map (fun i => (i.zero, i.size, i.bytes)) = some (some z, 1, bytes)) (hz1 : z.cells = #[z])
    {w0 : World} {lo : Nat} {v : Value} {xs : List α} (h0 : New (OwnOf e R) lo w0 v xs) (hlo : lo ≤ w0.heap.size) (hb : Below w0.heap.size w0 w)
    {u : Value} {y : α} (hu : New R w0.heap.size w u y) {bb : Nat} {c : Nat} (hcell : w.cell? ⟨bb, 0, none⟩ = some u)
    (hs : a.eval s = v) (hx : a.eval x = .slice (some ⟨bb, 0, none⟩) 1 c)
    (hbytes : (xs.length + 1) * bytes ≤ 140737488355328) (h63 : xs.length + 1 ≤ 9223372036854775807)
    (h : ∀ v' w', New (OwnOf e R) lo w' v' (xs ++ [y]) → w.grownBy w' v.ownBlock → (∀ k, v.ownBlock = some k → lo ≤ k ∧ k < w0.heap.size) → Below lo w0 w' → K (a.put o.dst v') w') :
    if Region.wanted o (yielded ops a.tmps) = true then Oper.wp P o a w K Q else E := by
  obtain ⟨i, hi, hzz⟩ := Option.map_eq_some_iff.1 hinfo
  simp only [Prod.mk.injEq] at hzz
  obtain ⟨hz, hsz, hby⟩ := hzz
  obtain ⟨F, ⟨us, Fs, how, hl, hr, rfl⟩, hnd, hge⟩ := h0
  obtain ⟨G, hG, hGn, hGe⟩ := hu
  have hul : us.length = xs.length := by simpa using how.1
  have hvlt : ∀ k, v.ownBlock = some k → lo ≤ k ∧ k < w0.heap.size := fun k hk => ⟨hge k (by simp [hk]), (how.lt k hk).2⟩
  have how1 : w.ownsRow 0 e 1 v xs.length us := ownsRow_keep how fun b hb' => hb.block b (hvlt b hb').2
  obtain ⟨v', w', hrun, how', hg, _, hat⟩ := run_append_own_at (P := P) w 0 t o.type e i z 1 bytes ht hi hz hsz hby (by rw [hz1]; rfl) (by decide) v xs.length us how1 ⟨bb, 0, none⟩ 1 c [u] (by simp)
    (by
      intro j u' hj
      match j, hj with
      | 0, hj =>
        simp at hj
        subst hj
        simpa [Addr.add] using hcell)
    (by
      intro u' hu'
      simp at hu'
      subst hu'
      exact hR.one _ _ _ _ hG) h63 hbytes (Nat.zero_le _)
  refine step_append_run hgd s x t ho hs hx hrun ?_
  have hlt0 : ∀ b, b ∈ Fs.flatten → b < w0.heap.size := fun b hb' => by
    obtain ⟨H, hH, hb2⟩ := List.mem_flatten.1 hb'
    obtain ⟨j, hj⟩ := List.getElem?_of_mem hH
    have hj1 : j < Fs.length := (List.getElem?_eq_some_iff.1 hj).1
    exact hR.lt _ _ _ _ (hr j us[j] xs[j] H (List.getElem?_eq_getElem (by omega)) (List.getElem?_eq_getElem (by omega)) hj) b hb2
  have hsize := hb.size
  have hGlt : ∀ b, b ∈ G → b < w.heap.size := hR.lt _ _ _ _ hG
  have hnd' := List.nodup_append.1 hnd
  have hnv : ∀ k, v.ownBlock = some k → k ∉ Fs.flatten := fun k hk hm => hnd'.2.2 k (by simp [hk]) k hm rfl
  refine h v' w' ⟨v'.ownBlock.toList ++ (Fs ++ [G]).flatten, ⟨us ++ [u], Fs ++ [G], by simpa using how', by simp [hl], ?_, rfl⟩, ?_, ?_⟩ hg hvlt ?_
  · intro j u' x' G' hu' hx' hG'
    by_cases hj : j < xs.length
    · rw [List.getElem?_append_left (by omega)] at hu' hx' hG'
      refine hR.keep _ _ _ _ _ (hr j u' x' G' hu' hx' hG') fun b hb' => ?_
      have hm : b ∈ Fs.flatten := List.mem_flatten_of_mem (List.mem_of_getElem? hG') hb'
      have h1 := hlt0 b hm
      rw [hg.block b (by omega) (fun e => hnv b e.symm hm), hb.block b h1]
    · have hj2 : j = xs.length := by
        have := (List.getElem?_eq_some_iff.1 hx').1
        simp at this; omega
      subst hj2
      rw [List.getElem?_append_right (by omega)] at hu' hx' hG'
      simp [hul, hl] at hu' hx' hG'
      subst hu' hx' hG'
      refine hR.keep _ _ _ _ _ hG fun b hb' => hg.block b (hGlt b hb') fun e => ?_
      have := hvlt b e.symm
      have := hGe b hb'
      omega
  · simp only [List.flatten_append, List.flatten_cons, List.flatten_nil, List.append_nil]
    refine List.nodup_append.2 ⟨by cases v'.ownBlock <;> simp, List.nodup_append.2 ⟨hnd'.2.1, hGn, ?_⟩, ?_⟩
    · intro p hp q hq e
      subst e
      have := hlt0 p hp
      have := hGe p hq
      omega
    · intro p hp q hq e
      subst e
      simp at hp
      rcases hat with hat | hat
      · rw [hat] at hp
        rcases List.mem_append.1 hq with hq | hq
        · exact hnv p hp hq
        · have := hvlt p hp
          have := hGe p hq
          omega
      · rw [hat] at hp
        simp at hp
        rcases List.mem_append.1 hq with hq | hq
        · have := hlt0 p hq; omega
        · have := hGlt p hq; omega
  · intro b hb'
    rcases List.mem_append.1 hb' with hb' | hb'
    · simp at hb'
      rcases hat with hat | hat
      · rw [hat] at hb'; exact (hvlt b hb').1
      · rw [hat] at hb'; simp at hb'; omega
    · simp at hb'
      rcases hb' with ⟨H, hH, hb'⟩ | hb'
      · exact hge b (by simp; exact Or.inr ⟨H, hH, hb'⟩)
      · have := hGe b hb'; omega
  · exact (hb.mono hlo).grown hg (by omega) (fun k hk => (hvlt k hk).1)

theorem step_append_none (hgd : Region.wanted o (yielded ops a.tmps) = true) (s x : Operand) (t : TypeId)
    (ho : o.op = .call { callee := .builtin .append, args := #[s, x], argTypes := #[t, t] })
    (base : Nat) (e : TypeId) (i : TypeInfo) (size : Nat) (ht : P.underlying t = some (.slice e)) (hi : P.info? e = some i)
    (v : Value) (n : Nat) (xs : List Value) (hs : a.eval s = v) (hown : w.ownsRow base e size v n xs) (hx : a.eval x = .slice none 0 0)
    (h : K (a.put o.dst v) w) : if Region.wanted o (yielded ops a.tmps) = true then Oper.wp P o a w K Q else E :=
  step_append_run hgd s x t ho hs hx (run_append_owned_none (P := P) w base t o.type e i size ht hi v n xs hown) h

theorem step_append_vals {α : Type} {f : α → Value} (hf : ∀ x, (f x).oneCell' = true) (hgd : Region.wanted o (yielded ops a.tmps) = true) (s x : Operand) (t : TypeId)
    (ho : o.op = .call { callee := .builtin .append, args := #[s, x], argTypes := #[t, t] })
    (e : TypeId) (z : Value) (bytes : Nat) (ht : P.underlying t = some (.slice e)) (hinfo : (P.info? e).map (fun i => (i.zero, i.size, i.bytes)) = some (some z, 1, bytes)) (hz1 : z.cells = #[z])
    {lo : Nat} {v : Value} {ys : List α} (h0 : New (OwnOf e (OValR f)) lo w v ys) (hlo : lo ≤ w.heap.size)
    {v2 : Value} {xs : List α} (h2 : SlOf (ValR f) w v2 xs)
    (hs : a.eval s = v) (hx : a.eval x = v2)
    (hbytes : (ys.length + xs.length) * bytes ≤ 140737488355328) (h63 : ys.length + xs.length ≤ 9223372036854775807)
    (h : ∀ v' w', New (OwnOf e (OValR f)) lo w' v' (ys ++ xs) → w.grownBy w' v.ownBlock → (∀ k, v.ownBlock = some k → lo ≤ k ∧ k < w.heap.size) → Below lo w w' → K (a.put o.dst v') w') :
    if Region.wanted o (yielded ops a.tmps) = true then Oper.wp P o a w K Q else E := by
  obtain ⟨i, hi, hzz⟩ := Option.map_eq_some_iff.1 hinfo
  simp only [Prod.mk.injEq] at hzz
  obtain ⟨hz, hsz, hby⟩ := hzz
  have h0' := h0
  obtain ⟨F, ⟨us, Fs, how, hl, hr, rfl⟩, hnd, hge⟩ := h0
  have hul : us.length = ys.length := by simpa using how.1
  have hvlt : ∀ k, v.ownBlock = some k → lo ≤ k ∧ k < w.heap.size := fun k hk => ⟨hge k (by simp [hk]), (how.lt k hk).2⟩
  obtain ⟨vs, hsl, hvl, hvr⟩ := h2
  have hvs : vs = xs.map f := by
    apply List.ext_getElem?
    intro j
    by_cases hj : j < xs.length
    · rw [List.getElem?_map, List.getElem?_eq_getElem hj, List.getElem?_eq_getElem (by omega)]
      exact congrArg some (hvr j _ _ (List.getElem?_eq_getElem (by omega)) (List.getElem?_eq_getElem hj))
    · rw [List.getElem?_eq_none (by omega), List.getElem?_eq_none (by simp; omega)]
  subst hvs
  obtain ⟨_, ad, c, hv2, _, _, hn, hcells⟩ := hsl
  simp only [List.length_map] at hv2
  have key : ∀ (ad : Addr), (∀ (j : Nat) (u : Value), (xs.map f)[j]? = some u → w.cell? (ad.add j) = some u) → v2 = .slice (some ad) xs.length c → (if Region.wanted o (yielded ops a.tmps) = true then Oper.wp P o a w K Q else E) := by
    intro ad had hv2'
    obtain ⟨v', w', hrun, how', hg, _, hat⟩ := run_append_own_at (P := P) w 0 t o.type e i z 1 bytes ht hi hz hsz hby (by rw [hz1]; rfl) (by decide) v ys.length us how ad xs.length c (xs.map f) (by simp) had
      (by
        intro u hu
        obtain ⟨y, _, rfl⟩ := List.mem_map.1 hu
        exact hf y) h63 hbytes (Nat.zero_le _)
    refine step_append_run hgd s x t ho hs (by rw [hx, hv2']) hrun ?_
    have hFs : ∀ G, G ∈ Fs → G = [] := fun G hG => by
      obtain ⟨j, hj⟩ := List.getElem?_of_mem hG
      have hj1 : j < Fs.length := (List.getElem?_eq_some_iff.1 hj).1
      exact (hr j us[j] ys[j] G (List.getElem?_eq_getElem (by omega)) (List.getElem?_eq_getElem (by omega)) hj).2
    have hfl : (Fs ++ List.replicate xs.length []).flatten = [] := by
      rw [List.flatten_eq_nil_iff]
      intro G hG
      rcases List.mem_append.1 hG with hG | hG
      · exact hFs G hG
      · exact (List.mem_replicate.1 hG).2
    refine h v' w' ⟨_, ⟨us ++ xs.map f, Fs ++ List.replicate xs.length [], by simpa using how', by simp [hl], ?_, rfl⟩, ?_, ?_⟩ hg hvlt (Below.of_grown hg hlo fun k hk => (hvlt k hk).1)
    · intro j u' x' G' hu' hx' hG'
      by_cases hj : j < ys.length
      · rw [List.getElem?_append_left (by omega)] at hu' hx' hG'
        exact hr j u' x' G' hu' hx' hG'
      · rw [List.getElem?_append_right (by omega)] at hu' hx' hG'
        rw [hul, List.getElem?_map, hx'] at hu'
        simp at hu'
        exact ⟨hu'.symm, (List.mem_replicate.1 (List.mem_of_getElem? hG')).2⟩
    · rw [hfl]
      cases v'.ownBlock <;> simp
    · intro b hb
      rw [hfl] at hb
      simp at hb
      rcases hat with hat | hat
      · rw [hat] at hb; exact (hvlt b hb).1
      · rw [hat] at hb; simp at hb; omega
  cases ad with
  | none =>
    have hx0 : xs = [] := by
      rcases hcells with h | ⟨b, o, h, _⟩
      · simpa using h
      · cases h
    subst hx0
    have := hn rfl
    subst this
    refine step_append_none hgd s x t ho 0 e i 1 ht hi v _ us hs how (by rw [hx, hv2]; rfl) ?_
    exact h v w (by rw [List.append_nil]; exact h0') ⟨rfl, rfl, rfl, Nat.le_refl _, fun _ _ _ => rfl⟩ hvlt (Below.refl _ _)
  | some ad =>
    rcases hcells with hnil | ⟨b, o, had, _, hc⟩
    · exact key ad (by rw [hnil]; simp) hv2
    · cases had
      refine key _ (fun j u hj => ?_) hv2
      have := hc j u hj
      cases j <;> simpa [Addr.add] using this
end
end Go.Sd
end

section
/-
  A table without a row and a column: the program's.
-/
namespace Go.Proofs.YtlkgkfgpnnahdaaGreat
open Go.RowKit Go.Deep Go.Sd
set_option linter.unusedSimpArgs false
end Go.Proofs.YtlkgkfgpnnahdaaGreat
end

section
/-
  Determinants, both sides.
-/
namespace Go.Proofs.YtlkgkfgpnnahdaaGreat
open Go.RowKit Go.Deep Go.Sd
set_option linter.unusedSimpArgs false
def minF (n : Nat) (m : List (List Int)) (j : Nat) : Int := detR n (minorT m 0 j (n + 1))
theorem detR_succ (n : Nat) (m : List (List Int)) : detR (n + 1) m = detSum m (minF n m) (n + 1) := rfl
theorem detSum_zero (m : List (List Int)) (f : Nat → Int) {j : Nat} (h : ent m 0 j = 0) : detSum m f (j + 1) = detSum m f j := by
  rw [detSum, if_neg (by simp [h])]
theorem detSum_next (m : List (List Int)) (f : Nat → Int) {j : Nat} (h : ent m 0 j ≠ 0) : detSum m f (j + 1) = detSum m f j + sgn j * ent m 0 j * f j := by
  rw [detSum, if_pos h]
theorem minF_bd {n : Nat} {m : List (List Int)} (hn : n ≤ 3) (hs : Sq (n + 1) m) (h : Bd 9 m) (j : Nat) : -4374 ≤ minF n m j ∧ minF n m j ≤ 4374 := by
  have h1 := detR_bd n (minorT m 0 j (n + 1)) (by omega) (minorT_sq m 0 j (n + 1)) (minorT_bd hs h)
  have h2 : detB n ≤ 4374 := by
    match n, hn with
    | 0, _ | 1, _ | 2, _ | 3, _ => decide
  unfold minF
  omega
theorem detSum_lim {n : Nat} {m : List (List Int)} (hn : n ≤ 3) (hs : Sq (n + 1) m) (h : Bd 9 m) {j : Nat} (hj : j ≤ n + 1) : -157464 ≤ detSum m (minF n m) j ∧ detSum m (minF n m) j ≤ 157464 := by
  have h1 := detSum_bd (f := minF n m) (Y := 4374) hs (by omega) h (fun j _ => minF_bd hn hs h j) (by decide) j hj
  omega
set_option maxHeartbeats 2000000 in
set_option maxRecDepth 100000 in
theorem spec_det_c : ∀ (n : Nat), n ≤ 4 → ∀ {w : World} {va : Value} {m : List (List Int)}, Tab w va m → Sq n m → Bd 9 m →
    Calls Tryz.prog 113 #[va] w fun e w' => e = .returned (.int .i64 (detR n m)) ∧ Below w.heap.size w w'
  | 0, _, w, va, m, h, hs, _ => by
    obtain ⟨a, c, rfl, -⟩ := h.shape
    have hl : m.length = 0 := hs.1
    rw [hl]
    go_enter Tryz.func113, Tryz.ntmps113
    go_wp2
    go_ret
    exact ⟨rfl, Below.refl _ _⟩
  | n + 1, hn, w, va, m, h, hs, hbd => by
    have IH := Lib.hid (fun (w : World) (va : Value) (m : List (List Int)) => spec_det_c n (by omega) (w := w) (va := va) (m := m))
    have Hb1 := Lib.hid (fun (j : Nat) => minorT_bd (i := 0) (j := j) hs hbd)
    have Hlim := Lib.hid (fun (j : Nat) (hj : j ≤ n + 1) => detSum_lim (by omega) hs hbd hj)
    have HmF := Lib.hid (fun (j : Nat) => minF_bd (by omega) hs hbd j)
    have Hent := Lib.hid (fun (j : Nat) (hj : j < n + 1) => hbd.ent (i := 0) (j := j) hs.2 (by rw [hs.1]; omega) hj)
    have HC := Lib.hid (fun (w1 : World) (hb : Below w.heap.size w w1) (j : Nat) (hj : j < n + 1) => (show Calls Tryz.prog 109 #[va, .int .i64 0, .int .i64 j] w1 (Makes (OTab 3 46) w1 (minorT m 0 j (n + 1))) from l7Minor_c (I := 0) (Tab.frame _ _ _ _ h hb) hs (by omega) hj (by omega)))
    have HD := Lib.hid (fun (w1 : World) (v : Value) (j : Nat) (h1 : Tab w1 v (minorT m 0 j (n + 1))) => (show Calls Tryz.prog 113 #[v] w1 (fun e w' => e = .returned (.int .i64 (minF n m j)) ∧ Below w1.heap.size w1 w') from IH.out _ _ _ h1 (minorT_sq m 0 j (n + 1)) (Hb1.out j)))
    have HS0 := Lib.hid (fun (j : Nat) (h : ent m 0 j = 0) => detSum_zero m (minF n m) h)
    have HS1 := Lib.hid (fun (j : Nat) (h : ent m 0 j ≠ 0) => detSum_next m (minF n m) h)
    have HR := Lib.hid (detR_succ n m)
    generalize detR (n + 1) m = R at HR ⊢
    obtain ⟨ab, ao, ac, rfl, hab, hae⟩ := h.entAt hs.1 hs.2 (by omega)
    obtain ⟨rb, ro, rc, g0, hrb, hri, hA⟩ := hae.at (i := 0) (by omega) (by omega)
    rw [Nat.add_zero] at g0
    clear h hs hbd hae hri IH Hb1
    obtain ⟨n1, hn1⟩ : ∃ x, x = n + 1 := ⟨_, rfl⟩
    rw [← hn1] at HR g0 hA Hlim Hent HC ⊢
    have Hn1 := Lib.hid hn1
    have hn4 : n1 ≤ 4 := by omega
    have hn0 : 0 < n1 := by omega
    have hz0 : ((n1 : Int) == 0) = false := by simp; omega
    clear hn1 hn
    go_enter Tryz.func113, Tryz.ntmps113
    go_wp2
    go_loopg [3, 4, 5] n1 (fun g vs sg i wr => ∃ (j : Nat) (S s : Int), vs = .int .i64 S ∧ sg = .int .i64 s ∧ i = .int .i64 j ∧ j + g = n1 ∧ Hid (S = detSum m (minF n m) j ∧ s = sgn j) ∧ Hid (Below w.heap.size w wr))
    case atStart => exact ⟨0, 0, 1, rfl, rfl, rfl, by omega, Lib.hid ⟨rfl, rfl⟩, Lib.hid (Below.refl _ _)⟩
    case round =>
      obtain ⟨j, S, s, rfl, rfl, rfl, hj, HX, HB⟩ := hrel
      obtain ⟨wj, rfl⟩ : ∃ x, x = wr := ⟨_, rfl⟩
      by_cases hjn : j < n1
      · have hji : (j : Int) < (n1 : Int) := by omega
        obtain ⟨g, rfl⟩ : ∃ x, gk = x + 1 := ⟨gk - 1, by omega⟩
        have hSb := Hlim.out j (by omega)
        rw [← HX.out.1] at hSb
        have hsb : s = 1 ∨ s = -1 := by rw [HX.out.2]; exact sgn_bd j
        have hxb := Hent.out j hjn
        have hfb := HmF.out j
        have HZ := Lib.hid (HS0.out j)
        have HY := Lib.hid (HS1.out j)
        have HCj := Lib.hid (fun w1 hb => HC.out w1 hb j hjn)
        have HDj := Lib.hid (fun w1 v h => HD.out w1 v j h)
        have hneg : IntKind.i64.wrap (-s) = -s := IntWalk.i64_in _ (by omega)
        have hsb2 : -1 ≤ s ∧ s ≤ 1 := by omega
        have gA := (HB.out.cell (p := ⟨rb, ro + j, none⟩) hrb).trans (hA j hjn)
        have gB := (HB.out.cell (p := ⟨ab, ao, none⟩) hab).trans g0
        have hrbj : rb < wj.heap.size := Nat.lt_of_lt_of_le hrb HB.out.size
        have habj : ab < wj.heap.size := Nat.lt_of_lt_of_le hab HB.out.size
        obtain ⟨x, hx⟩ : ∃ x, x = ent m 0 j := ⟨_, rfl⟩
        rw [← hx] at hxb gA
        have Hx := Lib.hid hx
        have HSg := Lib.hid (show -s = sgn (j + 1) from by rw [sgn_next, HX.out.2])
        clear HC HD HS0 HS1 hx hsb
        by_cases hx0 : x = 0
        · have hne : (x != 0) = false := by simp [hx0]
          have HS2 := Lib.hid (show S = detSum m (minF n m) (j + 1) from by rw [HZ.out (by rw [← Hx.out]; exact hx0)]; exact HX.out.1)
          clear hx0 HX HCj HDj HZ HY hSb hfb
          go_wp2
          go_roundg g
          case measure => omega
          case rel => exact ⟨j + 1, S, -s, rfl, by rfl, by go_num, by omega, Lib.hid ⟨HS2.out, HSg.out⟩, HB⟩
        · have hne : (x != 0) = true := by simp [hx0]
          obtain ⟨D, hD⟩ : ∃ D, D = minF n m j := ⟨_, rfl⟩
          have HS2 := Lib.hid (show S + s * x * D = detSum m (minF n m) (j + 1) from by rw [HY.out (by rw [← Hx.out]; exact hx0), HX.out.1, HX.out.2, Hx.out, hD])
          rw [← hD] at hfb
          have HDk := Lib.hid (fun w1 v (h : Tab w1 v (minorT m 0 j n1)) => (show Calls Tryz.prog 113 #[v] w1 (fun e w' => e = .returned (.int .i64 D) ∧ Below w1.heap.size w1 w') from by rw [hD]; exact HDj.out w1 v (by rw [← Hn1.out]; exact h)))
          have hp1 : -9 ≤ s * x ∧ s * x ≤ 9 := by
            have := prod_bd (X := 1) (Y := 9) hsb2 hxb
            omega
          have hp2 : -39366 ≤ s * x * D ∧ s * x * D ≤ 39366 := by
            have := prod_bd (X := 9) (Y := 4374) hp1 hfb
            omega
          have hw1 : IntKind.i64.wrap (s * x) = s * x := IntWalk.i64_in _ (by omega)
          have hw2 : IntKind.i64.wrap (s * x * D) = s * x * D := IntWalk.i64_in _ (by omega)
          have hw3 : IntKind.i64.wrap (S + s * x * D) = S + s * x * D := IntWalk.i64_in _ (by omega)
          have hfb2 := hfb
          clear hx0 HX HDj HZ HY hSb hfb hp1 hp2 hD
          go_wp2
          have hS0 : wj.cell? ⟨ab, ao, none⟩ = some (.slice (some ⟨rb, ro, none⟩) n1 rc) ∧ wj.cell? ⟨rb, ro + j, none⟩ = some (.int .i64 x) := ⟨gB, gA⟩
          have hSd : wj.drew.cell? ⟨ab, ao, none⟩ = some (.slice (some ⟨rb, ro, none⟩) n1 rc) ∧ wj.drew.cell? ⟨rb, ro + j, none⟩ = some (.int .i64 x) := hS0
          have HS := Lib.hid (fun (wz : World) (hb3 : Below wj.heap.size wj wz) => (show wz.cell? ⟨ab, ao, none⟩ = some (.slice (some ⟨rb, ro, none⟩) n1 rc) ∧ wz.cell? ⟨rb, ro + j, none⟩ = some (.int .i64 x) from ⟨(hb3.cell (p := ⟨ab, ao, none⟩) habj).trans gB, (hb3.cell (p := ⟨rb, ro + j, none⟩) hrbj).trans gA⟩))
          have HC1 := Lib.hid (HCj.out _ HB.out.drew)
          have B1 := (Below.refl wj.heap.size wj).drew
          clear HCj
          go_region_held3 (fun w' => w'.cell? ⟨ab, ao, none⟩ = some (.slice (some ⟨rb, ro, none⟩) n1 rc) ∧ w'.cell? ⟨rb, ro + j, none⟩ = some (.int .i64 x))
            (first | with_reducible exact hS2 | with_reducible exact hS1 | with_reducible exact hSd | with_reducible exact hS0 | go_keep)
            ((first
              | (go_at_call 113; (with_reducible refine (HDk.out _ _ hn1.tab).mono ?_); rintro e w2 ⟨rfl, hb⟩; have B3 := B2.trans (hb.mono B2.size); have hS2 := HS.out _ B3; clear hb)
              | (go_at_call 109; (with_reducible refine HC1.out.mono ?_); rintro e w1 ⟨v1, rfl, hn1, hb⟩; have B2 := B1.trans (hb.mono B1.size); have hS1 := HS.out _ B2; clear hb)
              | fail))
          have HB2 := Lib.hid (HB.out.trans (B3.mono HB.out.size))
          clear hS0 hSd HS HC1 B1 B2 B3 hS1 hS2 hn1 HB HDk
          go_wp2
          go_roundg g
          case measure => omega
          case rel => exact ⟨j + 1, _, -s, rfl, by rfl, by go_num, by omega, Lib.hid ⟨HS2.out, HSg.out⟩, HB2⟩
      · have hji : ¬ ((j : Int) < (n1 : Int)) := by omega
        have HF := Lib.hid (show R = S from by rw [HR.out, HX.out.1, show n1 = j from by omega])
        clear HX HR
        go_wp2
        go_ret
        exact ⟨by rw [HF.out]; rfl, HB.out⟩
end Go.Proofs.YtlkgkfgpnnahdaaGreat
end
