/-
  Texts of this claim joined: laws for its walks, contracts of the functions that the law reaches.
-/
import Derived.Test.YtlkgkfgpnnahdaaFnLagsM17
import Derived.Test.YtlkgkfgpnnahdaaFnLagsM6
import Derived.Test.YtlkgkfgpnnahdaaRows
import Derived.Test.YtlkgkfgpnnahdaaFnLagsM1
import Derived.Test.YtlkgkfgpnnahdaaFnLagsM3
import Derived.Test.YtlkgkfgpnnahdaaFnLagsM4
import Derived.StillTailTactics
import Derived.Test.YtlkgkfgpnnahdaaFnLagsM14
import Derived.Test.YtlkgkfgpnnahdaaFnLagsM15
import Derived.Test.YtlkgkfgpnnahdaaFnLagsM16
import Derived.Test.YtlkgkfgpnnahdaaFnLagsM13
import Derived.Test.YtlkgkfgpnnahdaaFnLagsM12
section
/-
  The turned polynomial of a small matrix by the coefficients of four rows; equal traces of greater powers give equal turned polynomials.
-/
namespace Go.Sd
/-- A matrix of n rows, filled up with zeros. -/
def padF (n : Nat) (A : MF) : MF := fun i j => if i < n ∧ j < n then A i j else 0
theorem sumN_long {n N : Nat} (h : n ≤ N) {f : Nat → Int} (hz : ∀ i, n ≤ i → i < N → f i = 0) : sumN N f = sumN n f := by
  induction N with
  | zero => rw [show n = 0 by omega]
  | succ N ih =>
    by_cases e : n = N + 1
    · rw [e]
    · rw [sumN, hz N (by omega) (by omega), ih (by omega) fun i h1 h2 => hz i h1 (by omega), Int.add_zero]
theorem pow_pad {n N : Nat} (h : n ≤ N) (A : MF) : ∀ m, ∀ i j, i < N → powF N (padF n A) (m + 1) i j = if i < n ∧ j < n then powF n A (m + 1) i j else 0
  | 0, i, j, hi => by
    have h1 : powF N (padF n A) 1 i j = padF n A i j := one_mulF (n := N) (k := j + 1) (padF n A) i j hi (by omega)
    show powF N (padF n A) 1 i j = if i < n ∧ j < n then powF n A 1 i j else 0
    rw [h1]
    unfold padF
    by_cases e : i < n ∧ j < n
    · rw [if_pos e, if_pos e]
      exact (one_mulF (n := n) (k := n) A i j e.1 e.2).symm
    · rw [if_neg e, if_neg e]
  | m + 1, i, j, hi => by
    show sumN N (fun x => powF N (padF n A) (m + 1) i x * padF n A x j) = if i < n ∧ j < n then sumN n (fun x => powF n A (m + 1) i x * A x j) else 0
    have e1 : ∀ x, x < N → powF N (padF n A) (m + 1) i x * padF n A x j = (if i < n ∧ x < n then powF n A (m + 1) i x else 0) * padF n A x j := fun x _ => by rw [pow_pad h A m i x hi]
    rw [sumN_congr e1, sumN_long h fun x hx _ => by rw [if_neg (by omega), Int.zero_mul]]
    by_cases e : i < n ∧ j < n
    · rw [if_pos e]
      refine sumN_congr fun x hx => ?_
      unfold padF
      rw [if_pos ⟨e.1, hx⟩, if_pos ⟨hx, e.2⟩]
    · rw [if_neg e]
      refine sumN_zero fun x hx => ?_
      unfold padF
      by_cases e2 : i < n
      · rw [if_neg (c := x < n ∧ j < n) (by omega), Int.mul_zero]
      · rw [if_neg (c := i < n ∧ x < n) (by omega), Int.zero_mul]
theorem tr_pad {n N : Nat} (h : n ≤ N) (A : MF) (m : Nat) : trF N (powF N (padF n A) (m + 1)) = trF n (powF n A (m + 1)) := by
  show sumN N (fun i => powF N (padF n A) (m + 1) i i) = sumN n (fun i => powF n A (m + 1) i i)
  have e1 : ∀ i, i < N → powF N (padF n A) (m + 1) i i = if i < n ∧ i < n then powF n A (m + 1) i i else 0 := fun i hi => pow_pad h A m i i hi
  rw [sumN_congr e1, sumN_long h fun i hi _ => by rw [if_neg (by omega)]]
  exact sumN_congr fun i hi => by rw [if_pos ⟨hi, hi⟩]
end Go.Sd
namespace Go.Proofs.Ytlkgkfgpnnahdaa
open Go.RowKit Go.Deep Go.Sd
/-- A determinant by its entries. -/
def dF : Nat → MF → Int
  | 0, _ => 1
  | g + 1, A => sumN (g + 1) fun j => sgn j * A 0 j * dF g (fun a b => A (a + 1) (skip j b))
theorem dF_congr : ∀ {g : Nat} {A B : MF}, EqF g g A B → dF g A = dF g B
  | 0, _, _, _ => rfl
  | g + 1, A, B, h => sumN_congr fun j hj => by
    rw [h 0 j (by omega) hj, dF_congr (g := g) (A := fun a b => A (a + 1) (skip j b)) (B := fun a b => B (a + 1) (skip j b)) fun a b ha hb => h _ _ (by omega) (skip_lt (n := g + 1) (by omega))]
theorem detSum_sum (t : List (List Int)) (f : Nat → Int) : ∀ n, detSum t f n = sumN n fun j => sgn j * ent t 0 j * f j
  | 0 => rfl
  | n + 1 => by
    unfold detSum
    rw [sumN, detSum_sum t f n]
    by_cases h : ent t 0 n ≠ 0
    · rw [if_pos h]
    · have h0 : ent t 0 n = 0 := Classical.not_not.1 h
      rw [if_neg h, h0, Int.mul_zero, Int.zero_mul, Int.add_zero]
theorem detR_dF : ∀ (g : Nat) (t : List (List Int)), detR g t = dF g (ent t)
  | 0, _ => rfl
  | g + 1, t => by
    unfold detR dF
    rw [detSum_sum]
    refine sumN_congr fun j hj => ?_
    rw [detR_dF g]
    congr 1
    refine dF_congr fun a b ha hb => ?_
    show ent (tabOf (g + 1 - 1) (g + 1 - 1) fun k l => ent t (skip 0 k) (skip j l)) a b = ent t (a + 1) (skip j b)
    rw [ent_tabOf (by omega) (by omega)]
    unfold skip
    rw [if_neg (by omega)]
theorem detP_dF (m : List (List Int)) (l : List Int) : detP m l = dF l.length (fun a b => ent m (l.getD a 0).toNat (l.getD b 0).toNat) := by
  unfold detP
  rw [detR_dF]
  exact dF_congr fun a b ha hb => ent_tabOf ha hb
theorem subL1 : subL 0 1 = [] ∧ subL 1 1 = [0] := by decide +kernel
theorem subL2 : subL 0 2 = [] ∧ subL 1 2 = [0] ∧ subL 2 2 = [1] ∧ subL 3 2 = [0, 1] := by decide +kernel
theorem subL3 : subL 0 3 = [] ∧ subL 1 3 = [0] ∧ subL 2 3 = [1] ∧ subL 3 3 = [0, 1] ∧ subL 4 3 = [2] ∧ subL 5 3 = [0, 2] ∧ subL 6 3 = [1, 2] ∧ subL 7 3 = [0, 1, 2] := by decide +kernel
theorem subL4 : subL 0 4 = [] ∧ subL 1 4 = [0] ∧ subL 2 4 = [1] ∧ subL 3 4 = [0, 1] ∧ subL 4 4 = [2] ∧ subL 5 4 = [0, 2] ∧ subL 6 4 = [1, 2] ∧ subL 7 4 = [0, 1, 2] ∧
    subL 8 4 = [3] ∧ subL 9 4 = [0, 3] ∧ subL 10 4 = [1, 3] ∧ subL 11 4 = [0, 1, 3] ∧ subL 12 4 = [2, 3] ∧ subL 13 4 = [0, 2, 3] ∧ subL 14 4 = [1, 2, 3] ∧ subL 15 4 = [0, 1, 2, 3] := by decide +kernel
/-- The coefficient by four rows. -/
def coefP (m : List (List Int)) (k : Nat) : Int := if k ≤ m.length then coef m m.length k else 0
set_option maxRecDepth 100000 in
set_option maxHeartbeats 0 in
theorem coef_one (m : List (List Int)) : coef m 1 0 = cfs (padF 1 (ent m)) 0 ∧ coef m 1 1 = cfs (padF 1 (ent m)) 1 ∧ cfs (padF 1 (ent m)) 2 = 0 ∧ cfs (padF 1 (ent m)) 3 = 0 ∧ cfs (padF 1 (ent m)) 4 = 0 := by
  obtain ⟨h0, h1⟩ := subL1
  refine ⟨?_, ?_, ?_, ?_, ?_⟩
  all_goals simp [coef, minS, h0, h1, detP_dF, dF, sumN, sgn, skip, cfs, D2, M3, D4, padF]
set_option maxRecDepth 100000 in
set_option maxHeartbeats 0 in
theorem coef_two (m : List (List Int)) : coef m 2 0 = cfs (padF 2 (ent m)) 0 ∧ coef m 2 1 = cfs (padF 2 (ent m)) 1 ∧ coef m 2 2 = cfs (padF 2 (ent m)) 2 ∧ cfs (padF 2 (ent m)) 3 = 0 ∧ cfs (padF 2 (ent m)) 4 = 0 := by
  obtain ⟨h0, h1, h2, h3⟩ := subL2
  refine ⟨?_, ?_, ?_, ?_, ?_⟩
  all_goals (simp [coef, minS, h0, h1, h2, h3, detP_dF, dF, sumN, sgn, skip, cfs, D2, M3, D4, padF]; try grind)
set_option maxRecDepth 100000 in
set_option maxHeartbeats 0 in
theorem coef_three (m : List (List Int)) : coef m 3 0 = cfs (padF 3 (ent m)) 0 ∧ coef m 3 1 = cfs (padF 3 (ent m)) 1 ∧ coef m 3 2 = cfs (padF 3 (ent m)) 2 ∧ coef m 3 3 = cfs (padF 3 (ent m)) 3 ∧ cfs (padF 3 (ent m)) 4 = 0 := by
  obtain ⟨h0, h1, h2, h3, h4, h5, h6, h7⟩ := subL3
  refine ⟨?_, ?_, ?_, ?_, ?_⟩
  all_goals (simp [coef, minS, h0, h1, h2, h3, h4, h5, h6, h7, detP_dF, dF, sumN, sgn, skip, cfs, D2, M3, D4, padF]; try grind)
set_option maxRecDepth 100000 in
set_option maxHeartbeats 0 in
theorem coef_four (m : List (List Int)) : coef m 4 0 = cfs (padF 4 (ent m)) 0 ∧ coef m 4 1 = cfs (padF 4 (ent m)) 1 ∧ coef m 4 2 = cfs (padF 4 (ent m)) 2 ∧ coef m 4 3 = cfs (padF 4 (ent m)) 3 ∧ coef m 4 4 = cfs (padF 4 (ent m)) 4 := by
  obtain ⟨h0, h1, h2, h3, h4, h5, h6, h7, h8, h9, ha, hb, hc, hd, he, hf⟩ := subL4
  refine ⟨?_, ?_, ?_, ?_, ?_⟩
  all_goals (simp [coef, minS, h0, h1, h2, h3, h4, h5, h6, h7, h8, h9, ha, hb, hc, hd, he, hf, detP_dF, dF, sumN, sgn, skip, cfs, D2, M3, D4, padF]; try grind)
theorem coefP_cfs (m : List (List Int)) (h1 : 1 ≤ m.length) (h4 : m.length ≤ 4) (k : Nat) : coefP m k = cfs (padF m.length (ent m)) k := by
  unfold coefP
  generalize m.length = n at h1 h4
  by_cases hk : 4 < k
  · obtain ⟨j, rfl⟩ : ∃ j, k = j + 5 := ⟨k - 5, by omega⟩
    rw [if_neg (by omega)]
    rfl
  match n, h1, h4 with
  | 1, _, _ =>
    obtain ⟨a0, a1, a2, a3, a4⟩ := coef_one m
    match k, hk with
    | 0, _ => rw [if_pos (by omega)]; exact a0
    | 1, _ => rw [if_pos (by omega)]; exact a1
    | 2, _ => rw [if_neg (by omega)]; exact a2.symm
    | 3, _ => rw [if_neg (by omega)]; exact a3.symm
    | 4, _ => rw [if_neg (by omega)]; exact a4.symm
    | k + 5, h => exact absurd (show 4 < k + 5 by omega) h
  | 2, _, _ =>
    obtain ⟨a0, a1, a2, a3, a4⟩ := coef_two m
    match k, hk with
    | 0, _ => rw [if_pos (by omega)]; exact a0
    | 1, _ => rw [if_pos (by omega)]; exact a1
    | 2, _ => rw [if_pos (by omega)]; exact a2
    | 3, _ => rw [if_neg (by omega)]; exact a3.symm
    | 4, _ => rw [if_neg (by omega)]; exact a4.symm
    | k + 5, h => exact absurd (show 4 < k + 5 by omega) h
  | 3, _, _ =>
    obtain ⟨a0, a1, a2, a3, a4⟩ := coef_three m
    match k, hk with
    | 0, _ => rw [if_pos (by omega)]; exact a0
    | 1, _ => rw [if_pos (by omega)]; exact a1
    | 2, _ => rw [if_pos (by omega)]; exact a2
    | 3, _ => rw [if_pos (by omega)]; exact a3
    | 4, _ => rw [if_neg (by omega)]; exact a4.symm
    | k + 5, h => exact absurd (show 4 < k + 5 by omega) h
  | 4, _, _ =>
    obtain ⟨a0, a1, a2, a3, a4⟩ := coef_four m
    match k, hk with
    | 0, _ => rw [if_pos (by omega)]; exact a0
    | 1, _ => rw [if_pos (by omega)]; exact a1
    | 2, _ => rw [if_pos (by omega)]; exact a2
    | 3, _ => rw [if_pos (by omega)]; exact a3
    | 4, _ => rw [if_pos (by omega)]; exact a4
    | k + 5, h => exact absurd (show 4 < k + 5 by omega) h
  | n + 5, _, h => exact absurd h (by omega)
/-! Lists that agree but for zeros at the end. -/
theorem cutN_zero (p : List Int) : ∀ n k, cutN p n ≤ k → k < n → p.getD k 0 = 0
  | 0, _, _, h => absurd h (by omega)
  | n + 1, k, h1, h2 => by
    unfold cutN at h1
    split at h1
    · rename_i e
      by_cases hk : k = n
      · rw [hk]; exact e
      · exact cutN_zero p n k h1 (by omega)
    · omega
theorem cutN_last (p : List Int) : ∀ n, cutN p n = 0 ∨ p.getD (cutN p n - 1) 0 ≠ 0
  | 0 => Or.inl rfl
  | n + 1 => by
    unfold cutN
    split
    · exact cutN_last p n
    · rename_i h
      exact Or.inr (by rw [Nat.add_sub_cancel]; exact h)
theorem cutN_all (p : List Int) (k : Nat) (h : cutN p p.length ≤ k) : p.getD k 0 = 0 := by
  by_cases hk : k < p.length
  · exact cutN_zero p p.length k h hk
  · simp [List.getD, List.getElem?_eq_none (show p.length ≤ k by omega)]
theorem cutL_same {p q : List Int} (h : ∀ k, p.getD k 0 = q.getD k 0) : cutL p = cutL q := by
  have key : ∀ p q : List Int, (∀ k, p.getD k 0 = q.getD k 0) → cutN p p.length ≤ cutN q q.length := fun p q h => by
    rcases cutN_last p p.length with h1 | h1
    · omega
    · apply Classical.byContradiction
      intro hlt
      exact h1 (by rw [h, cutN_all q _ (by omega)])
  have e : cutN p p.length = cutN q q.length := Nat.le_antisymm (key p q h) (key q p fun k => (h k).symm)
  unfold cutL
  have h1 := cutN_le p p.length
  have h2 := cutN_le q q.length
  rw [← e] at h2 ⊢
  generalize cutN p p.length = c at h1 h2
  apply List.ext_getElem?
  intro k
  rw [List.getElem?_take, List.getElem?_take]
  by_cases hk : k < c
  · rw [if_pos hk, if_pos hk, getD_at (show k < p.length by omega), getD_at (show k < q.length by omega), h]
  · rw [if_neg hk, if_neg hk]
theorem coefs_atP (m : List (List Int)) (k : Nat) : (coefs m m.length).getD k 0 = coefP m k := by
  unfold coefs coefP
  by_cases h : k ≤ m.length
  · rw [if_pos h]
    simp [List.getD, show k < m.length + 1 by omega]
  · rw [if_neg h]
    simp [List.getD, show ¬ k < m.length + 1 by omega]
/-- The trace of a power. -/
def trP (a : List (List Int)) (m : Nat) : Int := Go.Sd.trF a.length (powF a.length (ent a) m)
/-- The greater powers have the same traces. -/
def SameTr (a b : List (List Int)) : Prop := ∃ l : Nat, ∀ m, l < m → trP a m = trP b m
theorem turned_same {a b : List (List Int)} (ha : smallM a = true) (hb : smallM b = true) (h : SameTr a b) : turnedP a = turnedP b := by
  obtain ⟨l, hl⟩ := h
  obtain ⟨ha1, ha4, -⟩ := smallM_sq ha
  obtain ⟨hb1, hb4, -⟩ := smallM_sq hb
  have ha0 := (isMat_sq ha1).2.1
  have hb0 := (isMat_sq hb1).2.1
  unfold turnedP
  rw [if_pos ha, if_pos hb]
  refine cutL_same fun k => ?_
  rw [coefs_atP, coefs_atP, coefP_cfs a ha0 ha4, coefP_cfs b hb0 hb4]
  refine cfs_same (l := l) (fun m hm => ?_) k
  obtain ⟨j, rfl⟩ : ∃ j, m = j + 1 := ⟨m - 1, by omega⟩
  rw [tr_pad ha4, tr_pad hb4]
  exact hl (j + 1) hm
end Go.Proofs.Ytlkgkfgpnnahdaa
end

section
/-
  Rows and columns exchanged: pure part.
-/
namespace Go.Proofs.Ytlkgkfgpnnahdaa
open Go.RowKit Go.Deep Go.Sd

def turnT (m : List (List Int)) (n : Nat) : List (List Int) := tabOf n n (fun i j => ent m j i)
def turnV (m : List (List Int)) : List (List Int) := if isMat m = true then turnT m m.length else []
theorem turnT_sq (m : List (List Int)) (n : Nat) : Sq n (turnT m n) := ⟨tabOf_len _ _ _, fun _ h => mem_tabOf h⟩
theorem turnT_bd {m : List (List Int)} {n : Nat} (h : n ≤ 9) : (turnT m n).length ≤ 9 ∧ ∀ x, x ∈ turnT m n → x.length ≤ 9 := ⟨by rw [(turnT_sq m n).1]; exact h, fun x hx => by rw [(turnT_sq m n).2 x hx]; exact h⟩

/-- The table being turned row by row: rows before i are in. -/
def turnF (m : List (List Int)) (n i k : Nat) : List (List Int) := tabOf n n (fun r c => if c < i ∨ (c = i ∧ r < k) then ent m c r else 0)
theorem turnF_start (m : List (List Int)) (n : Nat) : turnF m n 0 0 = List.replicate n (List.replicate n 0) := by
  rw [← tabOf_const]
  exact tabOf_congr fun i _ j _ => if_neg (by omega)
theorem turnF_row {m : List (List Int)} {n i k : Nat} (hk : k < n) : (turnF m n i k)[k]? = some (rowOf' n (fun c => if c < i ∨ (c = i ∧ k < k) then ent m c k else 0)) := tabOf_at hk
theorem turnF_at {m : List (List Int)} {n i k : Nat} (hi : i < n) : (rowOf' n (fun c => if c < i ∨ (c = i ∧ k < k) then ent m c k else 0))[i]? = some 0 := by
  rw [rowOf_at hi, if_neg (by omega)]
theorem turnF_set {m : List (List Int)} {n i k : Nat} :
    (turnF m n i k).set k ((rowOf' n (fun c => if c < i ∨ (c = i ∧ k < k) then ent m c k else 0)).set i (ent m i k)) = turnF m n i (k + 1) := by
  unfold turnF
  rw [tabOf_set2 n n (fun r c => if c < i ∨ (c = i ∧ r < k) then ent m c r else 0) k i]
  refine tabOf_congr fun r _ c _ => ?_
  show (if r = k ∧ c = i then ent m i k else if c < i ∨ (c = i ∧ r < k) then ent m c r else 0) = if c < i ∨ (c = i ∧ r < k + 1) then ent m c r else 0
  by_cases h : r = k ∧ c = i
  · obtain ⟨rfl, rfl⟩ := h
    rw [if_pos ⟨rfl, rfl⟩, if_pos (by omega)]
  · rw [if_neg h]
    by_cases h2 : c < i ∨ (c = i ∧ r < k)
    · rw [if_pos h2, if_pos (by omega)]
    · rw [if_neg h2, if_neg (by omega)]
theorem turnF_next {m : List (List Int)} {n i : Nat} : turnF m n i n = turnF m n (i + 1) 0 := tabOf_congr fun r _ c _ => by
  by_cases h : c < i ∨ (c = i ∧ r < n)
  · rw [if_pos h, if_pos (by omega)]
  · rw [if_neg h, if_neg (by omega)]
theorem turnF_end {m : List (List Int)} {n : Nat} : turnF m n n 0 = turnT m n := tabOf_congr fun r _ c _ => by rw [if_pos (by omega)]
end Go.Proofs.Ytlkgkfgpnnahdaa
end

section
/-
  Rows and columns exchanged, both sides.
-/
namespace Go.Proofs.Ytlkgkfgpnnahdaa
open Go.RowKit Go.Deep Go.Sd

set_option maxHeartbeats 1000000 in
theorem turned_c {w : World} {va : Value} {m : List (List Int)} {n : Nat} (h1 : Tab w va m) (hm : Sq n m) (hn0 : 0 < n) (hn : n ≤ 9) :
    Calls Try.prog 85 #[va] w (Makes (OTab 3 33) w (turnT m n)) := by
  obtain ⟨ab, ao, ac, rfl, hab, hae⟩ := h1.entAt hm.1 hm.2 hn0
  obtain ⟨zb, zo, zc, hz1, hzb, _, _⟩ := hae.at hn0 hn0
  rw [Nat.add_zero] at hz1
  have hn1 : (0 : Int) < (n : Int) := by omega
  clear h1 hm
  go_enter Try.func85, Try.ntmps85
  go_wp2
  clear hz1 hn1
  go_loopg [3, 12] n (fun g v jj wr => ∃ (j : Nat), jj = .int .i64 j ∧ j + g = n ∧ New (OTab 3 33) w.heap.size wr v ((turnT m n).take j) ∧ Below w.heap.size w wr)
  case atStart => exact ⟨0, rfl, by omega, New.empty w (Nat.le_refl _), (Below.refl _ _).alloc (Nat.le_refl _) _⟩
  case round =>
    obtain ⟨j, rfl, hj, hnew, hbel⟩ := hrel
    by_cases hlt : j < n
    · obtain ⟨wo, rfl⟩ : ∃ wo : World, wo = wr := ⟨_, rfl⟩
      have hle := hbel.size
      have Hn := Lib.hid hnew
      have Hb := Lib.hid hbel
      have Hlk := Lib.hid (show ((turnT m n).take j).length ≤ n from by rw [List.length_take]; omega)
      clear hnew hbel
      go_wp2
      go_loopg [5, 18] n (fun g lv ii wr => ∃ (i : Nat), ii = .int .i64 i ∧ i + g = n ∧ New (OInts 3) wo.heap.size wr lv ((rowOf' n (fun i => ent m i j)).take i) ∧ Below wo.heap.size wo wr)
      case atStart => exact ⟨0, rfl, by omega, New.empty wo (Nat.le_refl _), (Below.refl _ _).alloc (Nat.le_refl _) _⟩
      case round =>
        obtain ⟨i, rfl, hi, hnew, hbel⟩ := hrel
        obtain ⟨wi, rfl⟩ : ∃ wi : World, wi = wr := ⟨_, rfl⟩
        have hle2 := hbel.size
        have hrule2 : ∀ b o, b < w.heap.size → wi.cell? ⟨b, o, none⟩ = w.cell? ⟨b, o, none⟩ := fun b o hb => (hbel.rule b o (by omega)).trans (Hb.out.rule b o hb)
        have Hn2 := Lib.hid hnew
        have Hb2 := Lib.hid hbel
        have Hll := Lib.hid (show ((rowOf' n (fun i => ent m i j)).take i).length ≤ n from by rw [List.length_take]; omega)
        clear hnew hbel
        by_cases hlt2 : i < n
        · obtain ⟨rb, ro, rc, hA1, hrb, _, hA2⟩ := hae.at hlt2 hn0
          have hA3 := hA2 j hlt
          have Hs := Lib.hid (show _ = _ from take_snoc' (show (rowOf' n (fun i => ent m i j))[i]? = some (ent m i j) from rowOf_at hlt2))
          have hi1 : (i : Int) < (n : Int) := by omega
          have hi2 : (j : Int) < (n : Int) := by omega
          generalize ent m i j = X at *
          clear hA2 hae
          go_wp2_with (at_builtin; refine wpl_push (w0 := wi) (lo := wo.heap.size) (y := X) OIntR.kept rfl (.tmp 21) (.tmp 29) 33 rfl 3 (.int .i64 0) 8 Try.underlying33 infoI rfl Hn2.out hle2 ((Below.refl _ _).alloc (Nat.le_refl _) _) ⟨[], ⟨rfl, rfl⟩, by simp [Fresh]⟩ (bb := wi.heap.size) (c := 1) (by simp) rfl rfl (by have := Hll.out; omega) (by have := Hll.out; omega) ?_; intro v1 w1 hn1 _ _ hb1)
          go_roundg (n - (i + 1))
          case measure => omega
          case rel => exact ⟨i + 1, by go_num, by omega, by rw [← Hs.out]; exact hn1, Hb2.out.trans hb1⟩
        · have e : i = n := by omega
          subst e
          have hr := Hn2.out
          rw [rowOf_full] at hr
          obtain ⟨xa, xn, xc, rfl⟩ := hr.slice
          have Hr := Lib.hid hr
          have Hs := Lib.hid (show _ = _ from take_snoc' (show (turnT m i)[j]? = some (rowOf' i (fun k => ent m k j)) from tabOf_at hlt))
          clear hr hae
          go_wp2_with (at_builtin; refine wpl_push (w0 := wo) (lo := w.heap.size) (OInts.kept _) rfl (.tmp 32) (.tmp 34) 24 rfl 33 (.slice none 0 0) 24 Try.underlying24 infoR rfl Hn.out hle (Hb2.out.alloc hle2 _) (New.keep (OInts.kept _) Hr.out ((Below.refl wi.heap.size _).alloc (Nat.le_refl _) _) (Nat.le_refl _)) (bb := wi.heap.size) (c := 1) (by simp) rfl rfl (by have := Hlk.out; omega) (by have := Hlk.out; omega) ?_; intro v1 w1 hn1 _ _ hb1)
          go_roundg (i - (j + 1))
          case measure => omega
          case rel => exact ⟨j + 1, by go_num, by omega, by rw [← Hs.out]; exact hn1, Hb.out.trans hb1⟩
    · have e : j = n := by omega
      subst e
      have Hr := Lib.hid (show New (OTab 3 33) w.heap.size wr _ (turnT m j) from by have h := hnew; rw [show turnT m j = tabOf j j (fun i k => ent m k i) from rfl, tabOf_full] at h; exact h)
      clear hnew hae
      go_wp2
      go_ret
      exact ⟨_, rfl, Hr.out, hbel⟩

set_option maxHeartbeats 1000000 in
set_option maxRecDepth 100000 in
theorem l4Turn_c {w : World} {va : Value} {m : List (List Int)} {n : Nat} (h1 : Tab w va m) (hm : Sq n m) (hn0 : 0 < n) (hn : n ≤ 9) :
    Calls Try.prog 83 #[va] w (Makes (OTab 3 33) w (turnT m n)) := by
  obtain ⟨ab, ao, ac, rfl, hab, hae⟩ := h1.entAt hm.1 hm.2 hn0
  have Hz := Lib.hid (l4Zero_c (w := w) (p := n) (r := n) (by omega) (by omega))
  clear h1 hm
  go_enter Try.func83, Try.ntmps83
  go_wp2_with fail
  refine Hz.out.mono ?_
  rintro e w1 ⟨v1, rfl, hn1, hb1⟩
  rw [← turnF_start m n] at hn1
  obtain ⟨gb, gc, _, _, rfl, _, hgb, hgb2, _⟩ := hn1.tab_at (turnF_row hn0) (turnF_at hn0)
  rw [show (turnF m n 0 0).length = n from tabOf_len _ _ _] at hn1 ⊢
  have Hn1 := Lib.hid hn1
  have Hb1 := Lib.hid hb1
  clear hn1 hb1 Hz
  go_wp2
  go_loopg [4] n (fun g ii wr => ∃ (i : Nat), ii = .int .i64 i ∧ i + g = n ∧ New (OTab 3 33) w.heap.size wr (.slice (some ⟨gb, 0, none⟩) n gc) (turnF m n i 0) ∧ Below w.heap.size w wr)
  case atStart => exact ⟨0, rfl, by omega, Hn1.out, Hb1.out⟩
  case round =>
    obtain ⟨i, rfl, hi, hnew, hbel⟩ := hrel
    have Hn := Lib.hid hnew
    have Hb := Lib.hid hbel
    clear hnew hbel
    by_cases hlt : i < n
    · go_wp2
      go_loopg [5] n (fun g jj wr => ∃ (j : Nat), jj = .int .i64 j ∧ j + g = n ∧ New (OTab 3 33) w.heap.size wr (.slice (some ⟨gb, 0, none⟩) n gc) (turnF m n i j) ∧ Below w.heap.size w wr)
      case atStart => exact ⟨0, rfl, by omega, Hn.out, Hb.out⟩
      case round =>
        clear Hn Hb
        obtain ⟨j, rfl, hj, hnew, hbel⟩ := hrel
        by_cases hlt2 : j < n
        · obtain ⟨rb, ro, rc, hA1, hrb, _, hA2⟩ := hae.at hlt hn0
          have hA3 := hA2 j hlt2
          obtain ⟨b', c', sb, sc, hv, _, _, _, hcl1, _, hsb, _, hcl2, hfr, hst⟩ := hnew.tab_at (turnF_row hlt2) (turnF_at hlt)
          obtain rfl : b' = gb := by simp at hv; exact hv.1.symm
          rw [rowOf_len] at hcl1
          have Hst := Lib.hid (by have := hst (ent m i j); rw [turnF_set] at this; exact this)
          have Hb3 := Lib.hid (hbel.setCell (p := ⟨sb, i, none⟩) hsb (.int .i64 (ent m i j)))
          have hrule := hbel.rule
          have hi1 : (i : Int) < (n : Int) := by omega
          have hi2 : (j : Int) < (n : Int) := by omega
          generalize ent m i j = X at *
          clear hv hst hnew hA2 hbel
          go_wp2
          go_still_tail 13, (by kernel_rfl)
          go_wp2
          go_roundg (n - (j + 1))
          case measure => omega
          case rel => exact ⟨j + 1, by go_num, by omega, New.heap (OTab.kept _ _) Hst.out rfl, Hb3.out.drew⟩
        · have e : j = n := by omega
          subst e
          rw [turnF_next] at hnew
          go_wp2
          go_roundg (j - (i + 1))
          case measure => omega
          case rel => exact ⟨i + 1, by go_num, by omega, hnew, hbel⟩
    · have e : i = n := by omega
      subst e
      have Hn2 := Hn.out
      rw [turnF_end] at Hn2
      have Hn3 := Lib.hid Hn2
      clear Hn2
      go_wp2
      go_ret
      exact ⟨_, rfl, Hn3.out, Hb.out⟩

set_option maxHeartbeats 400000 in
theorem impl_TurnMatrix_c {w : World} {va : Value} {m : List (List Int)} (h1 : Tab w va m) :
    Calls Try.prog 84 #[va] w (Makes (OTab 3 33) w (turnV m)) := by
  have Hc := Lib.hid (impl_IsMatrix_c h1)
  cases hm : isMat m with
  | false =>
    have HV := Lib.hid (show turnV m = [] from by unfold turnV; rw [if_neg (by rw [hm]; simp)])
    rw [hm] at Hc
    obtain ⟨aa, ac, rfl, _, _, _⟩ := h1.shape
    clear h1 hm
    go_enter Try.func84, Try.ntmps84
    go_wp2_with fail
    refine Hc.out.mono ?_
    rintro e w' ⟨rfl, rfl⟩
    go_wp2
    go_ret
    exact ⟨_, rfl, by rw [HV.out]; exact New.nil _ _, Below.refl _ _⟩
  | true =>
    have HV := Lib.hid (show turnV m = turnT m m.length from by unfold turnV; rw [if_pos hm])
    rw [hm] at Hc
    have sm := isMat_sq hm
    have Ht := Lib.hid (turned_c h1 sm.1 (by omega) sm.2.2)
    obtain ⟨aa, ac, rfl, _, _, _⟩ := h1.shape
    clear h1 hm sm
    go_enter Try.func84, Try.ntmps84
    go_wp2_with fail
    refine Hc.out.mono ?_
    rintro e w' ⟨rfl, rfl⟩
    go_wp2_with fail
    refine Ht.out.mono ?_
    rintro e w1 ⟨v1, rfl, hn1, hb1⟩
    have Hn1 := Lib.hid hn1
    have Hb1 := Lib.hid hb1
    clear hn1 hb1
    go_wp2
    go_ret
    exact ⟨_, rfl, by rw [HV.out]; exact Hn1.out, Hb1.out⟩
set_option maxHeartbeats 400000 in
theorem spec_TurnMatrix_c {w : World} {va : Value} {m : List (List Int)} (h1 : Tab w va m) :
    Calls Try.prog 86 #[va] w (Makes (OTab 3 33) w (turnV m)) := by
  have Hc := Lib.hid (spec_IsMatrix_c h1)
  cases hm : isMat m with
  | false =>
    have HV := Lib.hid (show turnV m = [] from by unfold turnV; rw [if_neg (by rw [hm]; simp)])
    rw [hm] at Hc
    obtain ⟨aa, ac, rfl, _, _, _⟩ := h1.shape
    clear h1 hm
    go_enter Try.func86, Try.ntmps86
    go_wp2_with fail
    refine Hc.out.mono ?_
    rintro e w' ⟨rfl, rfl⟩
    go_wp2
    go_ret
    exact ⟨_, rfl, by rw [HV.out]; exact New.empty _ (Nat.le_refl _), (Below.refl _ _).alloc (Nat.le_refl _) _⟩
  | true =>
    have HV := Lib.hid (show turnV m = turnT m m.length from by unfold turnV; rw [if_pos hm])
    rw [hm] at Hc
    have sm := isMat_sq hm
    have Ht := Lib.hid (l4Turn_c h1 sm.1 (by omega) sm.2.2)
    obtain ⟨aa, ac, rfl, _, _, _⟩ := h1.shape
    clear h1 hm sm
    go_enter Try.func86, Try.ntmps86
    go_wp2_with fail
    refine Hc.out.mono ?_
    rintro e w' ⟨rfl, rfl⟩
    go_wp2_with fail
    refine Ht.out.mono ?_
    rintro e w1 ⟨v1, rfl, hn1, hb1⟩
    have Hn1 := Lib.hid hn1
    have Hb1 := Lib.hid hb1
    clear hn1 hb1
    go_wp2
    go_ret
    exact ⟨_, rfl, by rw [HV.out]; exact Hn1.out, Hb1.out⟩
end Go.Proofs.Ytlkgkfgpnnahdaa
end

section
/-
  SplitIn, both sides.
-/
namespace Go.Proofs.Ytlkgkfgpnnahdaa
open Go.RowKit Go.Deep Go.Sd

def splitInOk (m : List (List Int)) (i : Int) (P : List Int) : Bool := splitOk (turnV m) i P
def splitInV (m : List (List Int)) (i : Int) (P : List Int) : List (List Int) := if splitOk (turnV m) i P = true then turnT (splitV (turnV m) i P) (splitV (turnV m) i P).length else []
theorem splitInV_bd (m : List (List Int)) (i : Int) (P : List Int) : (splitInV m i P).length ≤ 9 ∧ ∀ x, x ∈ splitInV m i P → x.length ≤ 9 := by
  unfold splitInV
  by_cases h : splitOk (turnV m) i P = true
  · rw [if_pos h]
    obtain ⟨n, hs, h0, h9⟩ := splitOk_sq h
    rw [hs.1]
    exact turnT_bd h9
  · rw [if_neg h]
    exact ⟨by simp, fun x hx => by cases hx⟩

end Go.Proofs.Ytlkgkfgpnnahdaa
end

section
/-
  JoinIn, both sides.
-/
namespace Go.Proofs.Ytlkgkfgpnnahdaa
open Go.RowKit Go.Deep Go.Sd

def joinInOk (m : List (List Int)) (i j : Int) : Bool := joinOk (turnV m) i j
def joinInV (m : List (List Int)) (i j : Int) : List (List Int) := if joinOk (turnV m) i j = true then turnT (joinV (turnV m) i j) (joinV (turnV m) i j).length else []
theorem joinOk_sq {m : List (List Int)} {i j : Int} (h : joinOk m i j = true) : ∃ n, Sq n (joinV m i j) ∧ 0 < n ∧ n ≤ 9 := by
  have hs := joinV_sq h
  unfold joinOk at h
  simp only [Bool.and_eq_true] at h
  have h3 := (isMat_sq h.2).2.1
  rw [show (joinT m i.toNat j.toNat m.length).length = m.length - 1 from tabOf_len _ _ _] at h3
  exact ⟨_, hs.1, by omega, by omega⟩
theorem joinInV_bd (m : List (List Int)) (i j : Int) : (joinInV m i j).length ≤ 9 ∧ ∀ x, x ∈ joinInV m i j → x.length ≤ 9 := by
  unfold joinInV
  by_cases h : joinOk (turnV m) i j = true
  · rw [if_pos h]
    obtain ⟨n, hs, h0, h9⟩ := joinOk_sq h
    rw [hs.1]
    exact turnT_bd h9
  · rw [if_neg h]
    exact ⟨by simp, fun x hx => by cases hx⟩

set_option maxHeartbeats 400000 in
theorem impl_JoinIn_c {w : World} {va : Value} {m : List (List Int)} {i j : Int} (h1 : Tab w va m) :
    Calls Try.prog 14 #[va, .int .i64 i, .int .i64 j] w (Makes2 (OTab 3 33) w (joinInV m i j) (joinInOk m i j)) := by
  have Ht := Lib.hid (impl_TurnMatrix_c h1)
  obtain ⟨aa, ac, rfl, _, _, _⟩ := h1.shape


  have HO := Lib.hid (show joinInOk m i j = joinOk (turnV m) i j from rfl)
  have HV := Lib.hid (show joinInV m i j = if joinOk (turnV m) i j = true then turnT (joinV (turnV m) i j) (joinV (turnV m) i j).length else [] from rfl)
  have Hl := Lib.hid (fun w1 v1 (h : Tab w1 v1 (turnV m)) => impl_JoinOut_c (i := i) (j := j) h)
  have Hs := Lib.hid (fun h : joinOk (turnV m) i j = true => joinOk_sq h)
  have Hr := Lib.hid (fun (n : Nat) w1 v1 (h : Tab w1 v1 (joinV (turnV m) i j)) (hs : Sq n (joinV (turnV m) i j)) (h0 : 0 < n) (h9 : n ≤ 9) => turned_c h hs h0 h9)
  clear h1
  generalize joinInOk m i j = ok at HO ⊢
  generalize joinInV m i j = rv at HV ⊢
  generalize joinOk (turnV m) i j = b at *
  generalize joinV (turnV m) i j = t at *
  cases b with
  | false =>
    have HV2 := Lib.hid (show rv = [] from HV.out)
    go_enter Try.func14, Try.ntmps14
    go_wp2_with fail
    refine Ht.out.mono ?_
    rintro e w1 ⟨v1, rfl, hn1, hb1⟩
    go_wp2_with fail
    refine (Hl.out w1 v1 hn1.tab).mono ?_
    rintro e w2 ⟨v2, rfl, hn2, hb2⟩
    have Hb2 := Lib.hid (hb1.trans (hb2.mono hb1.size))
    clear hn1 hb1 hn2 hb2
    go_wp2
    go_ret2
    exact ⟨_, by rw [HO.out]; rfl, by rw [HV2.out]; exact New.nil _ _, Hb2.out⟩
  | true =>
    obtain ⟨n, hs, hn0, hn9⟩ := Hs.out rfl
    have HV2 := Lib.hid (show rv = turnT t n from by rw [HV.out, if_pos rfl, hs.1])
    have Hr2 := Lib.hid (fun w1 v1 (h : Tab w1 v1 t) => Hr.out n w1 v1 h hs hn0 hn9)
    clear hs hn0 hn9 Hr Hs HV
    go_enter Try.func14, Try.ntmps14
    go_wp2_with fail
    refine Ht.out.mono ?_
    rintro e w1 ⟨v1, rfl, hn1, hb1⟩
    go_wp2_with fail
    refine (Hl.out w1 v1 hn1.tab).mono ?_
    rintro e w2 ⟨v2, rfl, hn2, hb2⟩
    have Hb2 := Lib.hid (hb1.trans (hb2.mono hb1.size))
    have Hc := Lib.hid (Hr2.out w2 v2 hn2.tab)
    clear hn1 hb1 hn2 hb2 Hr2 Hl
    go_wp2_with fail
    refine Hc.out.mono ?_
    rintro e w3 ⟨v3, rfl, hn3, hb3⟩
    have Hn3 := Lib.hid (hn3.mono Hb2.out.size)
    have Hb3 := Lib.hid (Hb2.out.trans (hb3.mono Hb2.out.size))
    clear hn3 hb3
    go_wp2
    go_ret2
    exact ⟨_, by rw [HO.out]; rfl, by rw [HV2.out]; exact Hn3.out, Hb3.out⟩
set_option maxHeartbeats 400000 in
theorem spec_JoinIn_c {w : World} {va : Value} {m : List (List Int)} {i j : Int} (h1 : Tab w va m) :
    Calls Try.prog 15 #[va, .int .i64 i, .int .i64 j] w (Makes2 (OTab 3 33) w (joinInV m i j) (joinInOk m i j)) := by
  have Ht := Lib.hid (spec_TurnMatrix_c h1)
  obtain ⟨aa, ac, rfl, _, _, _⟩ := h1.shape


  have HO := Lib.hid (show joinInOk m i j = joinOk (turnV m) i j from rfl)
  have HV := Lib.hid (show joinInV m i j = if joinOk (turnV m) i j = true then turnT (joinV (turnV m) i j) (joinV (turnV m) i j).length else [] from rfl)
  have Hl := Lib.hid (fun w1 v1 (h : Tab w1 v1 (turnV m)) => spec_JoinOut_c (i := i) (j := j) h)
  have Hs := Lib.hid (fun h : joinOk (turnV m) i j = true => joinOk_sq h)
  have Hr := Lib.hid (fun (n : Nat) w1 v1 (h : Tab w1 v1 (joinV (turnV m) i j)) (hs : Sq n (joinV (turnV m) i j)) (h0 : 0 < n) (h9 : n ≤ 9) => l4Turn_c h hs h0 h9)
  clear h1
  generalize joinInOk m i j = ok at HO ⊢
  generalize joinInV m i j = rv at HV ⊢
  generalize joinOk (turnV m) i j = b at *
  generalize joinV (turnV m) i j = t at *
  cases b with
  | false =>
    have HV2 := Lib.hid (show rv = [] from HV.out)
    go_enter Try.func15, Try.ntmps15
    go_wp2_with fail
    refine Ht.out.mono ?_
    rintro e w1 ⟨v1, rfl, hn1, hb1⟩
    go_wp2_with fail
    refine (Hl.out w1 v1 hn1.tab).mono ?_
    rintro e w2 ⟨v2, rfl, hn2, hb2⟩
    have Hb2 := Lib.hid (hb1.trans (hb2.mono hb1.size))
    clear hn1 hb1 hn2 hb2
    go_wp2
    go_ret2
    exact ⟨_, by rw [HO.out]; rfl, by rw [HV2.out]; exact New.empty _ Hb2.out.size, Hb2.out.alloc Hb2.out.size _⟩
  | true =>
    obtain ⟨n, hs, hn0, hn9⟩ := Hs.out rfl
    have HV2 := Lib.hid (show rv = turnT t n from by rw [HV.out, if_pos rfl, hs.1])
    have Hr2 := Lib.hid (fun w1 v1 (h : Tab w1 v1 t) => Hr.out n w1 v1 h hs hn0 hn9)
    clear hs hn0 hn9 Hr Hs HV
    go_enter Try.func15, Try.ntmps15
    go_wp2_with fail
    refine Ht.out.mono ?_
    rintro e w1 ⟨v1, rfl, hn1, hb1⟩
    go_wp2_with fail
    refine (Hl.out w1 v1 hn1.tab).mono ?_
    rintro e w2 ⟨v2, rfl, hn2, hb2⟩
    have Hb2 := Lib.hid (hb1.trans (hb2.mono hb1.size))
    have Hc := Lib.hid (Hr2.out w2 v2 hn2.tab)
    clear hn1 hb1 hn2 hb2 Hr2 Hl
    go_wp2_with fail
    refine Hc.out.mono ?_
    rintro e w3 ⟨v3, rfl, hn3, hb3⟩
    have Hn3 := Lib.hid (hn3.mono Hb2.out.size)
    have Hb3 := Lib.hid (Hb2.out.trans (hb3.mono Hb2.out.size))
    clear hn3 hb3
    go_wp2
    go_ret2
    exact ⟨_, by rw [HO.out]; rfl, by rw [HV2.out]; exact Hn3.out, Hb3.out⟩
end Go.Proofs.Ytlkgkfgpnnahdaa
end

section
/-
  Alike: the search for a numbering finds one just where there is one.
-/
namespace Go.Proofs.Ytlkgkfgpnnahdaa
open Go.RowKit Go.Deep Go.Sd
theorem okL_iff {a b : Mx} {k p : Nat} : ∀ {ps : List Nat} {i : Nat}, okL a b k p ps i = true ↔ ∀ t q, ps[t]? = some q → q ≠ p ∧ ent a k (i + t) = ent b p q ∧ ent a (i + t) k = ent b q p
  | [], i => by simp [okL]
  | q :: qs, i => by
    unfold okL
    rw [Bool.and_eq_true, Bool.and_eq_true, Bool.and_eq_true, decide_eq_true_eq, decide_eq_true_eq, decide_eq_true_eq, okL_iff]
    constructor
    · rintro ⟨⟨⟨h1, h2⟩, h3⟩, h4⟩ t r ht
      cases t with
      | zero =>
        simp at ht
        subst ht
        exact ⟨h1, h2, h3⟩
      | succ t =>
        have := h4 t r (by simpa using ht)
        rw [show i + 1 + t = i + (t + 1) by omega] at this
        exact this
    · intro h
      have h0 := h 0 q rfl
      refine ⟨⟨⟨h0.1, h0.2.1⟩, h0.2.2⟩, fun t r ht => ?_⟩
      have := h (t + 1) r (by simpa using ht)
      rw [show i + (t + 1) = i + 1 + t by omega] at this
      exact this
theorem anyF_of {h : Nat → Bool} : ∀ {g p : Nat} {q : Nat}, p ≤ q → q < p + g → h q = true → anyF h g p = true
  | 0, _, _, h1, h2, _ => by omega
  | g + 1, p, q, h1, h2, h3 => by
    unfold anyF
    by_cases e : h p = true
    · rw [if_pos e]
    · rw [if_neg e]
      exact anyF_of (by by_cases e2 : q = p; · rw [e2] at h3; exact absurd h3 e
                        · omega) (by omega) h3
theorem anyF_get {h : Nat → Bool} : ∀ {g p : Nat}, anyF h g p = true → ∃ q, p ≤ q ∧ q < p + g ∧ h q = true
  | 0, _, h1 => by cases h1
  | g + 1, p, h1 => by
    unfold anyF at h1
    by_cases e : h p = true
    · exact ⟨p, Nat.le_refl _, by omega, e⟩
    · rw [if_neg e] at h1
      obtain ⟨q, h2, h3, h4⟩ := anyF_get h1
      exact ⟨q, by omega, by omega, h4⟩
theorem fitM_of {a b : Mx} {n : Nat} {p q : Nat → Nat} (hi : Inv n p q) (he : ∀ i j, i < n → j < n → ent a i j = ent b (p i) (p j)) : ∀ (f k : Nat), k + f = n → fitM a b n f ((List.range k).map p) = true
  | 0, _, _ => rfl
  | f + 1, k, hk => by
    unfold fitM
    refine anyF_of (q := p k) (Nat.zero_le _) (by have := (hi.1 k (by omega)).1; omega) ?_
    rw [Bool.and_eq_true]
    constructor
    · unfold okAt
      have hl : ((List.range k).map p).length = k := by simp
      rw [hl, Bool.and_eq_true]
      refine ⟨decide_eq_true (he k k (by omega) (by omega)), okL_iff.2 fun t r ht => ?_⟩
      have ht2 : t < k := by have := (List.getElem?_eq_some_iff.1 ht).1; omega
      have hr : r = p t := by rw [List.getElem?_map, List.getElem?_range ht2] at ht; exact (Option.some.inj ht).symm
      subst hr
      rw [Nat.zero_add]
      refine ⟨fun e => ?_, he k t (by omega) (by omega), he t k (by omega) (by omega)⟩
      have h1 := (hi.1 t (by omega)).2
      rw [e, (hi.1 k (by omega)).2] at h1
      omega
    · have h1 := fitM_of hi he f (k + 1) (by omega)
      rw [List.range_succ, List.map_append] at h1
      exact h1
theorem fitM_get {a b : Mx} {n : Nat} : ∀ (f : Nat) (ps : List Nat), fitM a b n f ps = true → ∃ qs : List Nat, qs.length = f ∧ ∀ t r, (ps ++ qs)[ps.length + t]? = some r → r < n ∧ okAt a b ((ps ++ qs).take (ps.length + t)) r = true
  | 0, ps, _ => ⟨[], rfl, fun t r h => by
      rw [List.append_nil] at h
      have := (List.getElem?_eq_some_iff.1 h).1
      omega⟩
  | f + 1, ps, h => by
    unfold fitM at h
    obtain ⟨p, _, h2, h3⟩ := anyF_get h
    rw [Bool.and_eq_true] at h3
    obtain ⟨qs, h4, h5⟩ := fitM_get f (ps ++ [p]) h3.2
    refine ⟨p :: qs, by simp [h4], fun t r ht => ?_⟩
    rw [show ps ++ p :: qs = (ps ++ [p]) ++ qs by simp] at ht ⊢
    cases t with
    | zero =>
      rw [Nat.add_zero, List.append_assoc, List.getElem?_append_right (Nat.le_refl _), Nat.sub_self] at ht
      have hr : p = r := by simpa using ht
      subst hr
      refine ⟨by omega, ?_⟩
      rw [Nat.add_zero, List.append_assoc, List.take_left]
      exact h3.1
    | succ t =>
      have h6 := h5 t r (by rw [List.length_append]; rw [show ps.length + [p].length + t = ps.length + (t + 1) by simp; omega]; exact ht)
      rw [List.length_append, show ps.length + [p].length + t = ps.length + (t + 1) by simp; omega] at h6
      exact h6
theorem alikeM_iff {a b : Mx} : alikeM a b = true ↔ isMat a = true ∧ isMat b = true ∧ a.length ≤ 6 ∧ Alk a.length a b.length b := by
  unfold alikeM
  simp only [Bool.and_eq_true, decide_eq_true_eq]
  constructor
  · rintro ⟨⟨⟨⟨h1, h2⟩, h3⟩, h4⟩, h5⟩
    refine ⟨h1, h2, h4, h3, ?_⟩
    obtain ⟨L, h6, h7⟩ := fitM_get a.length [] h5
    simp only [List.nil_append, List.length_nil, Nat.zero_add] at h7
    have hat : ∀ i, i < a.length → ∃ r, L[i]? = some r := fun i hi => ⟨L[i]'(by omega), List.getElem?_eq_getElem (by omega)⟩
    have hget : ∀ i r, L[i]? = some r → L.getD i 0 = r := fun i r h => by simp [List.getD, h]
    have hlt : ∀ i, i < a.length → L.getD i 0 < a.length := fun i hi => by
      obtain ⟨r, hr⟩ := hat i hi
      rw [hget i r hr]
      exact (h7 i r hr).1
    have hpair : ∀ i j, i < j → j < a.length → L.getD i 0 ≠ L.getD j 0 ∧ ent a j i = ent b (L.getD j 0) (L.getD i 0) ∧ ent a i j = ent b (L.getD i 0) (L.getD j 0) := fun i j hij hj => by
      obtain ⟨r, hr⟩ := hat j hj
      obtain ⟨s, hs⟩ := hat i (by omega)
      have h8 := (h7 j r hr).2
      unfold okAt at h8
      rw [Bool.and_eq_true] at h8
      have hl : (L.take j).length = j := by rw [List.length_take]; omega
      have h9 := okL_iff.1 h8.2 i s (by rw [List.getElem?_take, if_pos hij]; exact hs)
      rw [hl, Nat.zero_add] at h9
      rw [hget i s hs, hget j r hr]
      exact h9
    have hdiag : ∀ j, j < a.length → ent a j j = ent b (L.getD j 0) (L.getD j 0) := fun j hj => by
      obtain ⟨r, hr⟩ := hat j hj
      have h8 := (h7 j r hr).2
      unfold okAt at h8
      rw [Bool.and_eq_true] at h8
      have hl : (L.take j).length = j := by rw [List.length_take]; omega
      have h9 := of_decide_eq_true h8.1
      rw [hl] at h9
      rw [hget j r hr]
      exact h9
    obtain ⟨q, hq⟩ := inj_inv (f := fun i => L.getD i 0) hlt (fun i j hi hj e => by
      have e' : L.getD i 0 = L.getD j 0 := e
      rcases Nat.lt_trichotomy i j with h | h | h
      · exact absurd e' (hpair i j h hj).1
      · exact h
      · exact absurd e'.symm (hpair j i h hi).1)
    refine ⟨fun i => L.getD i 0, q, hq, fun A B hA hB => ?_⟩
    rcases Nat.lt_trichotomy A B with h | h | h
    · exact (hpair A B h hB).2.2
    · subst h; exact hdiag A hA
    · exact (hpair B A h hA).2.1
  · rintro ⟨h1, h2, h3, h4, p, q, hi, he⟩
    refine ⟨⟨⟨⟨h1, h2⟩, h4⟩, h3⟩, ?_⟩
    have := fitM_of hi he a.length 0 (by omega)
    simpa using this
end Go.Proofs.Ytlkgkfgpnnahdaa
end

section
/-
  Elementary steps, lags, splits, joins and numberings keep the traces of the powers.
-/
namespace Go.Sd
/-- A = R S and B = S R. -/
def StepF (n k : Nat) (A B : MF) : Prop := ∃ R S : MF, EqF n n A (mulF k R S) ∧ EqF k k B (mulF n S R)
def tpF (A : MF) : MF := fun i j => A j i
theorem mulF_tp (k : Nat) (A B : MF) : tpF (mulF k A B) = mulF k (tpF B) (tpF A) := by
  funext i j
  exact sumN_congr fun x _ => Int.mul_comm _ _
theorem StepF.tp {n k : Nat} {A B : MF} (h : StepF n k A B) : StepF n k (tpF A) (tpF B) := by
  obtain ⟨R, S, h1, h2⟩ := h
  refine ⟨tpF S, tpF R, fun i j hi hj => ?_, fun i j hi hj => ?_⟩
  · rw [← mulF_tp]; exact h1 j i hj hi
  · rw [← mulF_tp]; exact h2 j i hj hi
theorem StepF.congr {n k : Nat} {A B A' B' : MF} (h : StepF n k A B) (ha : EqF n n A' A) (hb : EqF k k B' B) : StepF n k A' B' := by
  obtain ⟨R, S, h1, h2⟩ := h
  exact ⟨R, S, ha.trans h1, hb.trans h2⟩
theorem StepF.tr {n k : Nat} {A B : MF} (h : StepF n k A B) (m : Nat) : trF n (powF n A (m + 1)) = trF k (powF k B (m + 1)) := by
  obtain ⟨R, S, h1, h2⟩ := h
  refine lag_tr (l := 1) (R := R) (S := S) ?_ ((one_mulF A).trans h1) ((one_mulF B).trans h2) m
  have e1 : EqF n k (mulF n A R) (mulF n (mulF k R S) R) := h1.mul (EqF.refl _ _ _)
  have e2 : EqF n k (mulF k R (mulF n S R)) (mulF k R B) := (EqF.refl _ _ _).mul h2.symm
  rw [mulF_assoc] at e1
  exact e1.trans e2
end Go.Sd
namespace Go.Proofs.Ytlkgkfgpnnahdaa
open Go.RowKit Go.Deep Go.Sd
/-- All powers have the same traces. -/
def Tr1 (a b : List (List Int)) : Prop := ∀ m : Nat, trP a (m + 1) = trP b (m + 1)
theorem Tr1.refl (a : List (List Int)) : Tr1 a a := fun _ => rfl
theorem Tr1.symm {a b : List (List Int)} (h : Tr1 a b) : Tr1 b a := fun m => (h m).symm
theorem Tr1.trans {a b c : List (List Int)} (h : Tr1 a b) (g : Tr1 b c) : Tr1 a c := fun m => (h m).trans (g m)
theorem Tr1.same {a b : List (List Int)} (h : Tr1 a b) : SameTr a b := ⟨0, fun m hm => by
  obtain ⟨j, rfl⟩ : ∃ j, m = j + 1 := ⟨m - 1, by omega⟩
  exact h j⟩
theorem Tr1.of {a b : List (List Int)} {n k : Nat} (ha : a.length = n) (hb : b.length = k) (h : StepF n k (ent a) (ent b)) : Tr1 a b := fun m => by
  unfold trP
  rw [ha, hb]
  exact h.tr m
theorem dotU_mulF (a b : List (List Int)) (i j : Nat) : ∀ k, dotU a b i j k = mulF k (ent a) (ent b) i j
  | 0 => rfl
  | k + 1 => by
    show dotU a b i j k + ent a i k * ent b k j = mulF k (ent a) (ent b) i j + ent a i k * ent b k j
    rw [dotU_mulF a b i j k]
theorem prodT_ent (a b : List (List Int)) (p q r : Nat) : EqF p r (ent (prodT a b p q r)) (mulF q (ent a) (ent b)) := fun i j hi hj => by
  unfold prodT
  rw [ent_tabOf hi hj, dotU_mulF]
/-- What is told by TableTimes. -/
theorem ttOk_get {a b : List (List Int)} (h : ttOk a b = true) : (∀ r, r ∈ a → r.length = b.length) ∧ 1 ≤ a.length ∧ 1 ≤ b.length ∧ ∃ k, (∀ r, r ∈ b → r.length = k) ∧ (b.headD []).length = k ∧ ttV a b = prodT a b a.length b.length k := by
  have h0 := h
  unfold ttOk at h
  simp only [Bool.and_eq_true] at h
  have h1 := isTab_sq h.1.2
  have h2 := isTab_sq h.2
  exact ⟨h1.1, h1.2.2.1, h2.2.2.1, _, h2.1, rfl, by unfold ttV; rw [if_pos h0]⟩
theorem prodIs_get {R S c : List (List Int)} (h : prodIs R S c = true) : ttOk R S = true ∧ ttV R S = c := by
  unfold prodIs at h
  simpa using h
theorem row_ex {a : List (List Int)} (h : 1 ≤ a.length) : ∃ r, r ∈ a := ⟨a[0], List.getElem_mem h⟩
theorem step_of {a b R S : List (List Int)} (_ha : isMat a = true) (_hb : isMat b = true) (h1 : prodIs R S a = true) (h2 : prodIs S R b = true) : StepF a.length b.length (ent a) (ent b) := by
  obtain ⟨o1, e1⟩ := prodIs_get h1
  obtain ⟨o2, e2⟩ := prodIs_get h2
  obtain ⟨r1, p1, -, k, c1, -, e3⟩ := ttOk_get o1
  obtain ⟨r2, p2, -, l, c2, -, e4⟩ := ttOk_get o2
  obtain ⟨x, hx⟩ := row_ex p1
  obtain ⟨y, hy⟩ := row_ex p2
  have hk : k = R.length := by rw [← c1 y hy, r2 y hy]
  have hl : l = S.length := by rw [← c2 x hx, r1 x hx]
  rw [e1, hk] at e3
  rw [e2, hl] at e4
  have la : a.length = R.length := by rw [e3]; exact tabOf_len _ _ _
  have lb : b.length = S.length := by rw [e4]; exact tabOf_len _ _ _
  refine ⟨ent R, ent S, ?_, ?_⟩
  · rw [la, lb]
    have h := prodT_ent R S R.length S.length R.length
    rw [← e3] at h
    exact h
  · rw [la, lb]
    have h := prodT_ent S R S.length R.length S.length
    rw [← e4] at h
    exact h
theorem stepM_tr {a b : List (List Int)} {x : Tb × Tb} (h : stepM a b x = true) : Tr1 a b := by
  unfold stepM at h
  simp only [Bool.and_eq_true] at h
  exact Tr1.of rfl rfl (step_of h.1 h.2.1 h.2.2.2.2.1 h.2.2.2.2.2)
theorem stepM_turn (a b : List (List Int)) (x : Tb × Tb) : stepM a b x = stepM b a (x.2, x.1) := by
  unfold stepM
  show (isMat a && (isMat b && (countM x.1 && (countM x.2 && (prodIs x.1 x.2 a && prodIs x.2 x.1 b))))) = (isMat b && (isMat a && (countM x.2 && (countM x.1 && (prodIs x.2 x.1 b && prodIs x.1 x.2 a)))))
  generalize isMat a = p1
  generalize isMat b = p2
  generalize countM x.1 = p3
  generalize countM x.2 = p4
  generalize prodIs x.1 x.2 a = p5
  generalize prodIs x.2 x.1 b = p6
  ac_rfl
theorem stepM_small {a b : List (List Int)} {x : Tb × Tb} (h : stepM a b x = true) (ha : smallM a = true) (hb : smallM b = true) : turnedP a = turnedP b := turned_same ha hb (stepM_tr h).same
/-! Powers. -/
theorem unit_ent (n : Nat) : EqF n n (ent (unitT n)) (fun i j => if i = j then 1 else 0) := fun i j hi hj => by
  show ent (unitT n) i j = if i = j then 1 else 0
  unfold unitT unitF
  rw [ent_tabOf hi hj]
  by_cases e : i = j
  · rw [if_pos ⟨e, hi⟩, if_pos e]
  · rw [if_neg fun h => e h.1, if_neg e]
theorem mulV_ent {o m : List (List Int)} {L : Nat} (ho : o.length = L) (h : mulOk o m = true) : EqF L L (ent (mulV o m)) (mulF L (ent o) (ent m)) ∧ (mulV o m).length = L := by
  unfold mulV
  rw [if_pos h, ho]
  exact ⟨prodT_ent _ _ _ _ _, tabOf_len _ _ _⟩
theorem powR_ent {m : List (List Int)} {L : Nat} (hm : m.length = L) : ∀ (k : Nat) (o : List (List Int)), o.length = L → (powR m k o).2 = true → EqF L L (ent (powR m k o).1) (mulF L (ent o) (powF L (ent m) k)) ∧ (powR m k o).1.length = L
  | 0, o, ho, _ => ⟨(mulF_one (ent o)).symm, ho⟩
  | k + 1, o, ho, h => by
    unfold powR at h ⊢
    split at h
    · rename_i hok
      rw [if_pos hok]
      obtain ⟨e1, l1⟩ := mulV_ent ho hok
      obtain ⟨e2, l2⟩ := powR_ent hm k (mulV o m) l1 h
      refine ⟨e2.trans ((e1.mul (EqF.refl L L _)).trans ?_), l2⟩
      rw [mulF_assoc]
      refine (EqF.refl L L _).mul ?_
      have e3 := powF_add (n := L) (ent m) 1 k
      rw [show 1 + k = k + 1 by omega] at e3
      exact ((one_mulF (ent m)).symm.mul (EqF.refl L L _)).trans e3.symm
    · cases h
theorem pwV_ent {m : List (List Int)} {n : Int} (h : pwOk m n = true) : EqF m.length m.length (ent (pwV m n)) (powF m.length (ent m) n.toNat) ∧ (pwV m n).length = m.length := by
  have h0 := h
  unfold pwOk at h
  simp only [Bool.and_eq_true] at h
  unfold pwV
  rw [if_pos h0]
  obtain ⟨e1, l1⟩ := powR_ent (L := m.length) rfl n.toNat (unitT m.length) (tabOf_len _ _ _) h.2
  exact ⟨e1.trans (((unit_ent m.length).mul (EqF.refl m.length m.length _)).trans (one_mulF _)), l1⟩
/-! Lags. -/
structure LagP (a b : List (List Int)) (x : Tb × Tb) (n : Int) : Prop where
  ma : isMat a = true
  mb : isMat b = true
  n1 : 1 ≤ n ∧ n ≤ 5
  r0 : countM x.1 = true
  s0 : countM x.2 = true
  pa : pwOk a n = true
  pb : pwOk b n = true
  ar : ttOk a x.1 = true
  rb : ttOk x.1 b = true
  sa : ttOk x.2 a = true
  bs : ttOk b x.2 = true
  rs : ttOk x.1 x.2 = true
  sr : ttOk x.2 x.1 = true
  e1 : ttV a x.1 = ttV x.1 b
  e2 : ttV x.2 a = ttV b x.2
  e3 : ttV x.1 x.2 = pwV a n
  e4 : ttV x.2 x.1 = pwV b n
theorem lagM_iff {a b : List (List Int)} {x : Tb × Tb} {n : Int} : lagM a b x n = true ↔ LagP a b x n := by
  rw [lagM_spec]
  simp only [Bool.and_eq_true, decide_eq_true_eq]
  constructor
  · rintro ⟨h1, h2, h3, h4, h5, h6, h7, h8, h9, h10, h11, h12, h13, h14, h15, h16, h17⟩
    exact ⟨h1, h2, h5, h3, h4, h12, h13, h6, h7, h8, h9, h10, h11, h14, h15, h16, h17⟩
  · intro h
    exact ⟨h.ma, h.mb, h.r0, h.s0, h.n1, h.ar, h.rb, h.sa, h.bs, h.rs, h.sr, h.pa, h.pb, h.e1, h.e2, h.e3, h.e4⟩
theorem lagM_turn {a b : List (List Int)} {x : Tb × Tb} {n : Int} (h : lagM a b x n = true) : lagM b a (x.2, x.1) n = true := by
  have h := lagM_iff.1 h
  exact lagM_iff.2 ⟨h.mb, h.ma, h.n1, h.s0, h.r0, h.pb, h.pa, h.bs, h.sa, h.rb, h.ar, h.sr, h.rs, h.e2.symm, h.e1.symm, h.e4, h.e3⟩
theorem lagM_tr {a b : List (List Int)} {x : Tb × Tb} {n : Int} (h : lagM a b x n = true) : SameTr a b := by
  have h := lagM_iff.1 h
  have sa := isMat_sq h.ma
  have sb := isMat_sq h.mb
  obtain ⟨ra, -, -, k1, c1, -, v1⟩ := ttOk_get h.ar
  obtain ⟨rr, -, -, k2, c2, -, v2⟩ := ttOk_get h.rb
  obtain ⟨rs, pr, -, k3, c3, -, v3⟩ := ttOk_get h.rs
  obtain ⟨rt, ps, -, k4, c4, -, v4⟩ := ttOk_get h.sr
  obtain ⟨xa, hxa⟩ := row_ex sa.2.1
  obtain ⟨xb, hxb⟩ := row_ex sb.2.1
  obtain ⟨xr, hxr⟩ := row_ex pr
  obtain ⟨xs, hxs⟩ := row_ex ps
  obtain ⟨n', hn⟩ : ∃ n', n' = a.length := ⟨_, rfl⟩
  obtain ⟨k', hk⟩ : ∃ k', k' = b.length := ⟨_, rfl⟩
  have lr : x.1.length = n' := by rw [hn, ← ra xa hxa, sa.1.2 xa hxa]
  have ls : x.2.length = k' := by rw [hk, ← rr xr hxr, rs xr hxr]
  have hk1 : k1 = k' := by rw [← c1 xr hxr, rr xr hxr, hk]
  have hk2 : k2 = k' := by rw [← c2 xb hxb, sb.1.2 xb hxb, hk]
  have hk3 : k3 = n' := by rw [← c3 xs hxs, rt xs hxs, lr]
  have hk4 : k4 = k' := by rw [← c4 xr hxr, rs xr hxr, ls]
  rw [hk1, lr, ← hn] at v1
  rw [hk2, lr, ← hk] at v2
  rw [hk3, lr, ls] at v3
  rw [hk4, lr, ls] at v4
  refine ⟨n.toNat - 1, fun m hm => ?_⟩
  obtain ⟨j, rfl⟩ : ∃ j, m = j + n.toNat := ⟨m - n.toNat, by have := h.n1; omega⟩
  unfold trP
  rw [← hn, ← hk]
  refine lag_tr (R := ent x.1) (S := ent x.2) ?_ ?_ ?_ j
  · refine (prodT_ent a x.1 n' n' k').symm.trans ?_
    rw [← v1, h.e1, v2]
    exact prodT_ent x.1 b n' k' k'
  · have e := (pwV_ent h.pa).1
    rw [← hn] at e
    refine e.symm.trans ?_
    rw [← h.e3, v3]
    exact prodT_ent x.1 x.2 n' k' n'
  · have e := (pwV_ent h.pb).1
    rw [← hk] at e
    refine e.symm.trans ?_
    rw [← h.e4, v4]
    exact prodT_ent x.2 x.1 k' n' k'
theorem lagM_small {a b : List (List Int)} {x : Tb × Tb} {n : Int} (h : lagM a b x n = true) (ha : smallM a = true) (hb : smallM b = true) : turnedP a = turnedP b := turned_same ha hb (lagM_tr h)
/-! Numberings. -/
theorem alk_tr {a b : List (List Int)} (h : Alk a.length a b.length b) : Tr1 a b := by
  obtain ⟨hl, p, q, hi, he⟩ := h
  refine Tr1.of (n := a.length) rfl hl.symm ?_
  refine ⟨fun i x => if p i = x then 1 else 0, fun x j => ent b x (p j), fun i j hii hj => ?_, fun x y hx hy => ?_⟩
  · show ent a i j = sumN a.length fun x => (if p i = x then 1 else 0) * ent b x (p j)
    rw [he i j hii hj, ← sumN_one (hi.1 i hii).1 fun x => ent b x (p j)]
    refine sumN_congr fun x _ => ?_
    by_cases e : p i = x
    · rw [if_pos e, if_pos e, Int.one_mul]
    · rw [if_neg e, if_neg e, Int.zero_mul]
  · show ent b x y = sumN a.length fun j => ent b x (p j) * (if p j = y then 1 else 0)
    have e1 : ent b x y = ent b x (p (q y)) := by rw [(hi.2 y hy).2]
    rw [e1, ← sumN_one (hi.2 y hy).1 fun j => ent b x (p j)]
    refine sumN_congr fun j hj => ?_
    by_cases e : p j = y
    · rw [if_pos e, if_pos (by rw [← e, (hi.1 j hj).2]), Int.mul_one]
    · rw [if_neg e, if_neg fun e2 => e (by rw [← e2, (hi.2 y hy).2]), Int.mul_zero]
theorem alikeM_tr {a b : List (List Int)} (h : alikeM a b = true) : Tr1 a b := alk_tr (alikeM_iff.1 h).2.2.2
theorem alk_symm {k k' : Nat} {a b : Mx} (h : Alk k a k' b) : Alk k' b k a := by
  obtain ⟨hl, p, q, hi, he⟩ := h
  subst hl
  exact ⟨rfl, q, p, hi.symm, fun A B hA hB => by
    rw [he (q A) (q B) (hi.2 A hA).1 (hi.2 B hB).1, (hi.2 A hA).2, (hi.2 B hB).2]⟩
theorem alikeM_symm (a b : List (List Int)) : alikeM a b = alikeM b a := by
  have key : ∀ a b : List (List Int), alikeM a b = true → alikeM b a = true := fun a b h => by
    obtain ⟨h1, h2, h3, h4⟩ := alikeM_iff.1 h
    exact alikeM_iff.2 ⟨h2, h1, by rw [← h4.1]; exact h3, alk_symm h4⟩
  cases e : alikeM a b with
  | true => exact (key a b e).symm
  | false =>
    cases e2 : alikeM b a with
    | false => rfl
    | true => rw [key b a e2] at e; cases e
/-! Splits and joins. -/
theorem sum_two {n i j : Nat} (hi : i < n) (hj : j < n) (hij : i ≠ j) (F : Nat → Int) : sumN n (fun x => if x = i ∨ x = j then F x else 0) = F i + F j := by
  rw [← sumN_one hi F, ← sumN_one hj F, ← sumN_add]
  refine sumN_congr fun x _ => ?_
  by_cases e1 : x = i
  · rw [if_pos (Or.inl e1), if_pos e1.symm, if_neg (by omega), Int.add_zero]
  · by_cases e2 : x = j
    · rw [if_pos (Or.inr e2), if_neg (by omega), if_pos e2.symm, Int.zero_add]
    · rw [if_neg (by omega), if_neg (by omega), if_neg (by omega), Int.zero_add]
theorem split_step {m : List (List Int)} {I n : Nat} {P : List Int} (hI : I < n) : StepF n (n + 1) (ent m) (ent (splitT m I P n)) := by
  refine ⟨pairE n I, splitR m I P n, fun i j hi hj => ?_, fun i j hi hj => ?_⟩
  · show ent m i j = sumN (n + 1) fun l => pairE n I i l * splitR m I P n l j
    by_cases e : i = I
    · subst e
      have h1 := sum_two (n := n + 1) (i := i) (j := n) (by omega) (by omega) (by omega) fun l => splitR m i P n l j
      rw [show ent m i j = splitR m i P n i j + splitR m i P n n j from by unfold splitR; rw [if_neg (by omega), if_pos rfl, if_pos rfl]; omega, ← h1]
      refine sumN_congr fun l _ => ?_
      unfold pairE
      by_cases e1 : l = i ∨ l = n
      · rw [if_pos e1, if_pos (by omega), Int.one_mul]
      · rw [if_neg e1, if_neg (by omega), Int.zero_mul]
    · have h1 := sumN_one (n := n + 1) (p := i) (by omega) fun l => splitR m I P n l j
      rw [show ent m i j = splitR m I P n i j from by unfold splitR; rw [if_neg (by omega), if_neg e], ← h1]
      refine sumN_congr fun l _ => ?_
      unfold pairE
      by_cases e1 : i = l
      · rw [if_pos e1, if_pos (by omega), Int.one_mul]
      · rw [if_neg e1, if_neg (by omega), Int.zero_mul]
  · show ent (splitT m I P n) i j = sumN n fun l => splitR m I P n i l * pairE n I l j
    have key : ∀ p, p < n → (∀ l, l < n → (pairE n I l j = if p = l then 1 else 0)) → splitR m I P n i p = sumN n fun l => splitR m I P n i l * pairE n I l j := fun p hp h => by
      rw [← sumN_one hp fun l => splitR m I P n i l]
      refine sumN_congr fun l hl => ?_
      rw [h l hl]
      by_cases e : p = l
      · rw [if_pos e, if_pos e, Int.mul_one]
      · rw [if_neg e, if_neg e, Int.mul_zero]
    by_cases e : j < n
    · rw [ent_splitT hi e]
      refine key j e fun l hl => ?_
      unfold pairE
      by_cases e1 : j = l
      · rw [if_pos e1, if_pos (by omega)]
      · rw [if_neg e1, if_neg (by omega)]
    · have hj2 : j = n := by omega
      subst hj2
      have e1 : ent (splitT m I P j) i j = splitR m I P j i I := by
        have e2 : (splitT m I P j).getD i [] = rowOf' j (splitR m I P j i) ++ [splitR m I P j i I] := by rw [List.getD_eq_getElem?_getD, splitT_at hi]; rfl
        unfold ent
        rw [e2, List.getD_eq_getElem?_getD, List.getElem?_append_right (by rw [rowOf_len]; exact Nat.le_refl _), rowOf_len, Nat.sub_self]
        rfl
      rw [e1]
      refine key I hI fun l hl => ?_
      unfold pairE
      by_cases e2 : I = l
      · rw [if_pos e2, if_pos (by omega)]
      · rw [if_neg e2, if_neg (by omega)]
theorem join_step {m : List (List Int)} {i j n : Nat} (hij : i < j) (hj : j < n) (hc : ∀ k, k < n → ent m k i = ent m k j) : StepF n (n - 1) (ent m) (ent (joinT m i j n)) := by
  refine ⟨fun x B => ent m x (skip j B), fun A x => if x = skip j A ∨ (skip j A = i ∧ x = j) then 1 else 0, fun x y hx hy => ?_, fun A B hA hB => ?_⟩
  · show ent m x y = sumN (n - 1) fun A => ent m x (skip j A) * (if y = skip j A ∨ (skip j A = i ∧ y = j) then 1 else 0)
    have key : ∀ p, p < n - 1 → ent m x y = ent m x (skip j p) → (∀ A, A < n - 1 → ((y = skip j A ∨ (skip j A = i ∧ y = j)) ↔ p = A)) → ent m x y = sumN (n - 1) fun A => ent m x (skip j A) * (if y = skip j A ∨ (skip j A = i ∧ y = j) then 1 else 0) := fun p hp he h => by
      rw [he, ← sumN_one hp fun A => ent m x (skip j A)]
      refine sumN_congr fun A hA => ?_
      by_cases e : p = A
      · rw [if_pos e, if_pos ((h A hA).2 e), Int.mul_one]
      · rw [if_neg e, if_neg fun e2 => e ((h A hA).1 e2), Int.mul_zero]
    by_cases e : y = j
    · refine key i (by omega) (by rw [skip_i hij, e]; exact (hc x hx).symm) fun A hA => ?_
      have h1 := skip_ne j A
      have h2 := cnt_skip j A
      have h3 := cnt_i hij
      constructor
      · rintro (h | h)
        · omega
        · rw [h.1, h3] at h2; exact h2
      · intro h
        exact Or.inr ⟨by rw [← h, skip_i hij], e⟩
    · refine key (cnt j y) (cnt_lt e hj hy) (by rw [skip_cnt e]) fun A hA => ?_
      have h2 := cnt_skip j A
      constructor
      · rintro (h | h)
        · rw [h]; exact h2
        · exact absurd h.2 e
      · intro h
        exact Or.inl (by rw [← h, skip_cnt e])
  · show ent (tabOf (n - 1) (n - 1) fun k l => joinE m i j (skip j k) (skip j l)) A B = sumN n fun x => (if x = skip j A ∨ (skip j A = i ∧ x = j) then 1 else 0) * ent m x (skip j B)
    rw [ent_tabOf hA hB]
    unfold joinE
    have h1 := skip_ne j A
    have h2 := skip_lt (j := j) hA
    by_cases e : skip j A = i
    · rw [if_pos e]
      have h3 := sum_two (n := n) (i := i) (j := j) (by omega) hj (by omega) fun x => ent m x (skip j B)
      rw [e, ← h3]
      refine sumN_congr fun x _ => ?_
      by_cases e1 : x = i ∨ x = j
      · rw [if_pos e1, if_pos (by omega), Int.one_mul]
      · rw [if_neg e1, if_neg (by omega), Int.zero_mul]
    · rw [if_neg e, ← sumN_one h2 fun x => ent m x (skip j B)]
      refine sumN_congr fun x _ => ?_
      by_cases e1 : skip j A = x
      · rw [if_pos e1, if_pos (by omega), Int.one_mul]
      · rw [if_neg e1, if_neg (by omega), Int.zero_mul]
theorem turnT_ent (m : List (List Int)) (n : Nat) : EqF n n (ent (turnT m n)) (tpF (ent m)) := fun i j hi hj => by
  unfold turnT
  rw [ent_tabOf hi hj]
  rfl
theorem splitOk_tr {m : List (List Int)} {i : Int} {P : List Int} (h : splitOk m i P = true) : StepF m.length (splitV m i P).length (ent m) (ent (splitV m i P)) := by
  obtain ⟨I, n, -, hn, hI, -, -, e, -, -⟩ := splitOk_of h
  rw [e, splitT_len, hn]
  exact split_step hI
theorem joinOk_get {m : List (List Int)} {i j : Int} (h : joinOk m i j = true) : ∃ I J : Nat, I < J ∧ J < m.length ∧ (∀ k, k < m.length → ent m k I = ent m k J) ∧ joinV m i j = joinT m I J m.length ∧ isMat m = true ∧ isMat (joinT m I J m.length) = true := by
  have h0 := h
  unfold joinOk at h
  simp only [Bool.and_eq_true, decide_eq_true_eq] at h
  refine ⟨i.toNat, j.toNat, by omega, by omega, colsEq_iff.1 h.1.2, by unfold joinV; rw [if_pos h0], h.1.1.1, h.2⟩
theorem joinOk_tr {m : List (List Int)} {i j : Int} (h : joinOk m i j = true) : StepF m.length (joinV m i j).length (ent m) (ent (joinV m i j)) := by
  obtain ⟨I, J, hIJ, hJ, hc, e, -, -⟩ := joinOk_get h
  rw [e, show (joinT m I J m.length).length = m.length - 1 from tabOf_len _ _ _]
  exact join_step hIJ hJ hc
/-- By turning. -/
theorem turn_tr {m x : List (List Int)} (hm : isMat m = true) (h : StepF (turnV m).length x.length (ent (turnV m)) (ent x)) : Tr1 m (turnT x x.length) := by
  have e : turnV m = turnT m m.length := by unfold turnV; rw [if_pos hm]
  rw [e, show (turnT m m.length).length = m.length from tabOf_len _ _ _] at h
  refine Tr1.of (n := m.length) (k := x.length) rfl (tabOf_len _ _ _) (h.tp.congr (fun i j hi hj => ?_) (turnT_ent x x.length))
  exact (turnT_ent m m.length j i hj hi).symm
end Go.Proofs.Ytlkgkfgpnnahdaa
end
