/-
  Texts of this claim joined: laws for its walks, contracts of the functions that the law reaches.
-/
import Derived.Test.YtdohepngandajaaResolveLabelsM1
import Derived.Deep.OwnRows
import Derived.OwnWalk
import Derived.Test.YtdohepngandajaaRows
import Derived.Test.YtdohepngandajaaResolveLabelsM2
import Derived.Test.YtdohepngandajaaResolveLabelsM3
import Derived.IntWalk
import Derived.Deep.RegionHeld3
import Derived.Deep.DeepCutAuto
section
/-
  Tables by their entries: plain lists, no program in sight.
-/
namespace Go.Sd

def rowOf' (r : Nat) (f : Nat → Int) : List Int := (List.range r).map f
def tabOf (p r : Nat) (f : Nat → Nat → Int) : List (List Int) := (List.range p).map fun i => rowOf' r (f i)

theorem rowOf_len (r : Nat) (f : Nat → Int) : (rowOf' r f).length = r := by simp [rowOf']
theorem tabOf_len (p r : Nat) (f : Nat → Nat → Int) : (tabOf p r f).length = p := by simp [tabOf]
theorem rowOf_at {r : Nat} {f : Nat → Int} {j : Nat} (h : j < r) : (rowOf' r f)[j]? = some (f j) := by simp [rowOf', h]
theorem tabOf_at {p r : Nat} {f : Nat → Nat → Int} {i : Nat} (h : i < p) : (tabOf p r f)[i]? = some (rowOf' r (f i)) := by simp [tabOf, h]
theorem rowOf_congr {r : Nat} {f g : Nat → Int} (h : ∀ j, j < r → f j = g j) : rowOf' r f = rowOf' r g := List.map_congr_left fun j hj => h j (List.mem_range.1 hj)
theorem tabOf_congr {p r : Nat} {f g : Nat → Nat → Int} (h : ∀ i, i < p → ∀ j, j < r → f i j = g i j) : tabOf p r f = tabOf p r g := List.map_congr_left fun i hi => rowOf_congr fun j hj => h i (List.mem_range.1 hi) j hj
theorem rowOf_set (r : Nat) (f : Nat → Int) (j : Nat) (y : Int) : (rowOf' r f).set j y = rowOf' r (fun j' => if j' = j then y else f j') := by
  apply List.ext_getElem?
  intro k
  unfold rowOf'
  by_cases hk : k < r
  · by_cases hj : j = k
    · subst hj; simp [hk]
    · rw [List.getElem?_set_ne hj]; simp [hk, Ne.symm hj]
  · rw [List.getElem?_eq_none (by simp; omega), List.getElem?_eq_none (by simp; omega)]
theorem tabOf_set (p r : Nat) (f : Nat → Nat → Int) (i : Nat) (g : Nat → Int) : (tabOf p r f).set i (rowOf' r g) = tabOf p r (fun i' => if i' = i then g else f i') := by
  apply List.ext_getElem?
  intro k
  unfold tabOf
  by_cases hk : k < p
  · by_cases hj : i = k
    · subst hj; simp [hk]
    · rw [List.getElem?_set_ne hj]; simp [hk, Ne.symm hj]
  · rw [List.getElem?_eq_none (by simp; omega), List.getElem?_eq_none (by simp; omega)]
theorem tabOf_set2 (p r : Nat) (f : Nat → Nat → Int) (i j : Nat) (y : Int) : (tabOf p r f).set i ((rowOf' r (f i)).set j y) = tabOf p r (fun i' j' => if i' = i ∧ j' = j then y else f i' j') := by
  rw [rowOf_set, tabOf_set]
  refine tabOf_congr fun i' _ j' _ => ?_
  by_cases h : i' = i
  · subst h; by_cases h2 : j' = j <;> simp [h2]
  · simp [h]
theorem tabOf_take {p r : Nat} {f : Nat → Nat → Int} {i : Nat} (h : i < p) : (tabOf p r f).take i ++ [rowOf' r (f i)] = (tabOf p r f).take (i + 1) := by
  rw [List.take_add_one, tabOf_at h]; rfl
theorem take_snoc' {α : Type} {xs : List α} {i : Nat} {x : α} (h : xs[i]? = some x) : xs.take i ++ [x] = xs.take (i + 1) := by
  rw [List.take_add_one, h]; rfl
theorem rowOf_take {r : Nat} {f : Nat → Int} {i : Nat} (h : i < r) : (rowOf' r f).take i ++ [f i] = (rowOf' r f).take (i + 1) := take_snoc' (rowOf_at h)
theorem tabOf_full {p r : Nat} {f : Nat → Nat → Int} : (tabOf p r f).take p = tabOf p r f := List.take_of_length_le (by rw [tabOf_len]; exact Nat.le_refl _)
theorem rowOf_full {r : Nat} {f : Nat → Int} : (rowOf' r f).take r = rowOf' r f := List.take_of_length_le (by rw [rowOf_len]; exact Nat.le_refl _)
theorem rowOf_const (r : Nat) (c : Int) : rowOf' r (fun _ => c) = List.replicate r c := by
  unfold rowOf'
  apply List.ext_getElem?
  intro k
  by_cases hk : k < r <;> simp [hk]
theorem tabOf_const (p r : Nat) (c : Int) : tabOf p r (fun _ _ => c) = List.replicate p (List.replicate r c) := by
  unfold tabOf
  rw [show (fun (i : Nat) => rowOf' r ((fun _ _ => c) i)) = fun _ => List.replicate r c from funext fun _ => rowOf_const r c]
  apply List.ext_getElem?
  intro k
  by_cases hk : k < p <;> simp [hk]

/-- A row by its entries. -/
theorem row_eq (r : List Int) : r = rowOf' r.length (fun j => r.getD j 0) := by
  apply List.ext_getElem?
  intro k
  by_cases hk : k < r.length
  · rw [rowOf_at hk]; simp [List.getD, hk]
  · rw [List.getElem?_eq_none (by omega), List.getElem?_eq_none (by rw [rowOf_len]; omega)]
/-- A table with rows of one length by its entries. -/
theorem tab_eq {m : List (List Int)} {p r : Nat} (hp : m.length = p) (hr : ∀ x, x ∈ m → x.length = r) : m = tabOf p r (ent m) := by
  subst hp
  apply List.ext_getElem?
  intro k
  by_cases hk : k < m.length
  · rw [tabOf_at hk, List.getElem?_eq_getElem hk]
    have h1 := hr m[k] (List.getElem_mem hk)
    congr 1
    rw [row_eq m[k], h1]
    exact rowOf_congr fun j _ => by simp [ent, List.getD, hk]
  · rw [List.getElem?_eq_none (by omega), List.getElem?_eq_none (by rw [tabOf_len]; omega)]
theorem ent_tabOf {p r : Nat} {f : Nat → Nat → Int} {i j : Nat} (hi : i < p) (hj : j < r) : ent (tabOf p r f) i j = f i j := by
  simp [ent, List.getD, tabOf_at hi, rowOf_at hj]
theorem mem_tabOf {p r : Nat} {f : Nat → Nat → Int} {x : List Int} (h : x ∈ tabOf p r f) : x.length = r := by
  obtain ⟨i, _, rfl⟩ := List.mem_map.1 h
  exact rowOf_len _ _
theorem ent_mem {m : List (List Int)} {i j : Nat} {l : Nat} (hr : ∀ x, x ∈ m → x.length = l) (hi : i < m.length) (hj : j < l) : ∃ r, r ∈ m ∧ ent m i j ∈ r := by
  refine ⟨m[i], List.getElem_mem hi, ?_⟩
  have := hr m[i] (List.getElem_mem hi)
  simp [ent, List.getD, hi, show j < m[i].length by omega]


open Go.RowKit in
theorem EntAt.frame {w w' : World} {b o n l : Nat} {m : List (List Int)} (h : EntAt w b o n l m) (hb : b < w.heap.size) (hw : Below w.heap.size w w') : EntAt w' b o n l m := by
  intro i hi
  obtain ⟨a', c', h1, h2, h3⟩ := h i hi
  refine ⟨a', c', (hw.cell (p := ⟨b, o + i, none⟩) hb).trans h1, Ints.frame _ _ _ _ h2 hw, fun hl => ?_⟩
  obtain ⟨b', o', e, h4, h5⟩ := h3 hl
  exact ⟨b', o', e, Nat.lt_of_lt_of_le h4 hw.size, fun j hj => (hw.cell (p := ⟨b', o' + j, none⟩) h4).trans (h5 j hj)⟩

theorem mul_bd {x y B : Int} (hx : -B ≤ x ∧ x ≤ B) (hy : -B ≤ y ∧ y ≤ B) : -(B * B) ≤ x * y ∧ x * y ≤ B * B := by
  have h1 : x.natAbs ≤ B.natAbs := by omega
  have h2 : y.natAbs ≤ B.natAbs := by omega
  have h3 := Nat.mul_le_mul h1 h2
  rw [← Int.natAbs_mul, ← Int.natAbs_mul] at h3
  have h4 : 0 ≤ B * B := Int.mul_nonneg (by omega) (by omega)
  omega

/-- The sum of the first k products of row i and column j. -/
def dotU (a b : List (List Int)) (i j : Nat) : Nat → Int
  | 0 => 0
  | k + 1 => dotU a b i j k + ent a i k * ent b k j

def Bd (B : Int) (m : List (List Int)) : Prop := ∀ r, r ∈ m → ∀ x, x ∈ r → -B ≤ x ∧ x ≤ B

theorem Bd.ent {B : Int} {m : List (List Int)} (h : Bd B m) {l i j : Nat} (hr : ∀ x, x ∈ m → x.length = l) (hi : i < m.length) (hj : j < l) : -B ≤ ent m i j ∧ ent m i j ≤ B := by
  obtain ⟨r, h1, h2⟩ := ent_mem hr hi hj
  exact h r h1 _ h2

theorem dotU_bd {a b : List (List Int)} {p q r i j : Nat} (ha : Bd 1000000 a) (hb : Bd 1000000 b) (hap : a.length = p) (har : ∀ x, x ∈ a → x.length = q) (hbp : b.length = q) (hbr : ∀ x, x ∈ b → x.length = r) (hi : i < p) (hj : j < r) :
    ∀ k, k ≤ q → -(k * 1000000000000) ≤ dotU a b i j k ∧ dotU a b i j k ≤ k * 1000000000000 := by
  intro k
  induction k with
  | zero => intro _; simp [dotU]
  | succ k ih =>
    intro hk
    have h1 := ih (by omega)
    have h2 := mul_bd (ha.ent har (by omega : i < a.length) (by omega : k < q)) (hb.ent hbr (by omega : k < b.length) hj)
    unfold dotU
    omega

/-- A line of a product, its first j numbers one product further than the others. -/
def lineF (a b : List (List Int)) (i r k j : Nat) : List Int := rowOf' r (fun j' => dotU a b i j' (if j' < j then k + 1 else k))
theorem lineF_start (a b : List (List Int)) (i r : Nat) : lineF a b i r 0 0 = List.replicate r 0 := by
  rw [← rowOf_const]; exact rowOf_congr fun j _ => by simp [dotU]
theorem lineF_at {a b : List (List Int)} {i r k j : Nat} (hj : j < r) : (lineF a b i r k j)[j]? = some (dotU a b i j k) := by
  unfold lineF; rw [rowOf_at hj]; simp
theorem lineF_set {a b : List (List Int)} {i r k j : Nat} : (lineF a b i r k j).set j (dotU a b i j (k + 1)) = lineF a b i r k (j + 1) := by
  unfold lineF; rw [rowOf_set]
  refine rowOf_congr fun j' _ => ?_
  by_cases h : j' = j
  · subst h; simp
  · rw [if_neg h]
    by_cases h2 : j' < j
    · rw [if_pos h2, if_pos (by omega)]
    · rw [if_neg h2, if_neg (by omega)]
theorem lineF_end {a b : List (List Int)} {i r k : Nat} : lineF a b i r k r = lineF a b i r (k + 1) 0 := by
  unfold lineF
  exact rowOf_congr fun j hj => by rw [if_pos hj, if_neg (by omega)]
theorem lineF_full {a b : List (List Int)} {i r k : Nat} : lineF a b i r k 0 = rowOf' r (fun j => dotU a b i j k) := by
  unfold lineF
  exact rowOf_congr fun j hj => by rw [if_neg (by omega)]

/-- A product under way: entry (i, j) has its first k products, those before are whole, those behind are zero. -/
def prodF (a b : List (List Int)) (p q r i j k : Nat) : List (List Int) := tabOf p r (fun i' j' => dotU a b i' j' (if i' < i ∨ (i' = i ∧ j' < j) then q else if i' = i ∧ j' = j then k else 0))
def prodT (a b : List (List Int)) (p q r : Nat) : List (List Int) := tabOf p r (fun i j => dotU a b i j q)
theorem prodF_start (a b : List (List Int)) (p q r : Nat) : prodF a b p q r 0 0 0 = List.replicate p (List.replicate r 0) := by
  rw [← tabOf_const]
  exact tabOf_congr fun i _ j _ => by rw [if_neg (by omega)]; split <;> rfl
theorem prodF_row {a b : List (List Int)} {p q r i j k : Nat} (hi : i < p) : (prodF a b p q r i j k)[i]? = some (rowOf' r (fun j' => dotU a b i j' (if i < i ∨ (i = i ∧ j' < j) then q else if i = i ∧ j' = j then k else 0))) := by
  unfold prodF; rw [tabOf_at hi]
theorem prodF_at {a b : List (List Int)} {q r i j k : Nat} (hj : j < r) : (rowOf' r (fun j' => dotU a b i j' (if i < i ∨ (i = i ∧ j' < j) then q else if i = i ∧ j' = j then k else 0)))[j]? = some (dotU a b i j k) := by
  rw [rowOf_at hj]; simp
theorem prodF_set {a b : List (List Int)} {p q r i j k : Nat} :
    (prodF a b p q r i j k).set i ((rowOf' r (fun j' => dotU a b i j' (if i < i ∨ (i = i ∧ j' < j) then q else if i = i ∧ j' = j then k else 0))).set j (dotU a b i j (k + 1))) = prodF a b p q r i j (k + 1) := by
  unfold prodF
  rw [tabOf_set2 p r (fun i' j' => dotU a b i' j' (if i' < i ∨ (i' = i ∧ j' < j) then q else if i' = i ∧ j' = j then k else 0)) i j]
  refine tabOf_congr fun i' _ j' _ => ?_
  by_cases h : i' = i ∧ j' = j
  · obtain ⟨rfl, rfl⟩ := h; simp
  · rw [if_neg h]
    by_cases h2 : i' < i ∨ (i' = i ∧ j' < j)
    · rw [if_pos h2, if_pos h2]
    · rw [if_neg h2, if_neg h2, if_neg h, if_neg h]
theorem prodF_nextj {a b : List (List Int)} {p q r i j : Nat} : prodF a b p q r i j q = prodF a b p q r i (j + 1) 0 := by
  unfold prodF
  refine tabOf_congr fun i' _ j' _ => ?_
  congr 1
  by_cases h : i' = i ∧ j' = j
  · obtain ⟨rfl, rfl⟩ := h; simp
  · by_cases h2 : i' < i ∨ (i' = i ∧ j' < j)
    · rw [if_pos h2, if_pos (by omega)]
    · rw [if_neg h2, if_neg h, if_neg (by omega)]; split <;> rfl
theorem prodF_nexti {a b : List (List Int)} {p q r i : Nat} : prodF a b p q r i r 0 = prodF a b p q r (i + 1) 0 0 := by
  unfold prodF
  refine tabOf_congr fun i' _ j' hj' => ?_
  congr 1
  by_cases h2 : i' < i ∨ (i' = i ∧ j' < r)
  · rw [if_pos h2, if_pos (by omega)]
  · rw [if_neg h2, if_neg (show ¬ (i' < i + 1 ∨ (i' = i + 1 ∧ j' < 0)) from by omega)]; split <;> split <;> rfl
theorem prodF_end {a b : List (List Int)} {p q r : Nat} : prodF a b p q r p 0 0 = prodT a b p q r := by
  unfold prodF prodT
  exact tabOf_congr fun i' hi' j' _ => by rw [if_pos (by omega)]

theorem New.heap {α : Type} {R : OwnRel α} (hR : Kept R) {lo : Nat} {w w' : World} {v : Value} {x : α} (h : New R lo w v x) (e : w'.heap = w.heap) : New R lo w' v x := by
  obtain ⟨F, hF, hf⟩ := h
  exact ⟨F, hR.keep _ _ _ _ _ hF fun b _ => by rw [e], hf⟩

/-- A plain value of an own slice: its cell, and what a store leaves. -/
theorem New.val_at {α : Type} {f : α → Value} (hf : ∀ x, (f x).oneCell' = true) {e : TypeId} {lo : Nat} {w : World} {v : Value} {xs : List α} (h : New (OwnOf e (OValR f)) lo w v xs) {i : Nat} {x : α} (hx : xs[i]? = some x) :
    ∃ b c, v = .slice (some ⟨b, 0, none⟩) xs.length c ∧ xs.length ≤ c ∧ lo ≤ b ∧ b < w.heap.size ∧ w.cell? ⟨b, i, none⟩ = some (f x) ∧ w.frozen? ⟨b, i, none⟩ = false ∧
      ∀ y, New (OwnOf e (OValR f)) lo (w.setCell ⟨b, i, none⟩ (f y)) v (xs.set i y) := by
  have hK : Kept (OValR f) := ⟨fun _ _ _ _ _ h _ => h, fun _ _ _ _ h b hb => by rw [h.2] at hb; simp at hb, fun _ _ x _ h => by rw [h.1]; exact hf x⟩
  obtain ⟨F, hF, hn, hge⟩ := h
  obtain ⟨b, c, u, G, hv, hc, hbF, hbG, hcell, hfr, ⟨rfl, rfl⟩, _, _, _, hst⟩ := hF.focus hK hn hx
  refine ⟨b, c, hv, hc, hge b hbF, (OwnOf.kept hK).lt _ _ _ _ hF b hbF, hcell, hfr, fun y => ?_⟩
  obtain ⟨F', hF', hsub, hn', _⟩ := hst w (f y) y [] ⟨rfl, rfl⟩ (by simp) (fun _ _ _ => rfl)
  exact ⟨F', hF', hn' (by simp) (by simp), fun q hq => (hsub q hq).elim (hge q) (by simp)⟩

theorem OVal.kept {α : Type} {f : α → Value} (hf : ∀ x, (f x).oneCell' = true) : Kept (OValR f) :=
  ⟨fun _ _ _ _ _ h _ => h, fun _ _ _ _ h b hb => by rw [h.2] at hb; simp at hb, fun _ _ x _ h => by rw [h.1]; exact hf x⟩

/-- Which numbers below n are in a list. -/
def seenL (n : Nat) (seen : List Int) : List Bool := (List.range n).map fun (j : Nat) => seen.contains (j : Int)
theorem seenL_nil (n : Nat) : seenL n [] = List.replicate n false := by
  unfold seenL
  apply List.ext_getElem?
  intro k
  by_cases hk : k < n <;> simp [hk]
theorem seenL_at {n p : Nat} {seen : List Int} (h : p < n) : (seenL n seen)[p]? = some (seen.contains (p : Int)) := by simp [seenL, h]
theorem seenL_set {n p : Nat} {seen : List Int} : (seenL n seen).set p true = seenL n ((p : Int) :: seen) := by
  unfold seenL
  apply List.ext_getElem?
  intro k
  by_cases hk : k < n
  · by_cases hj : p = k
    · subst hj; simp [hk]
    · rw [List.getElem?_set_ne hj]
      simp [hk]
      omega
  · rw [List.getElem?_eq_none (by simp; omega), List.getElem?_eq_none (by simp; omega)]

/-- Each number from 0 to below n, none twice. -/
def namesL (n : Nat) : List Int → List Int → Bool
  | [], _ => true
  | x :: xs, seen => if 0 ≤ x ∧ x < n ∧ seen.contains x = false then namesL n xs (x :: seen) else false

theorem namesL_range {n : Nat} {xs seen : List Int} (h : namesL n xs seen = true) : ∀ x, x ∈ xs → 0 ≤ x ∧ x < n := by
  induction xs generalizing seen with
  | nil => simp
  | cons y ys ih =>
    unfold namesL at h
    split at h
    · rename_i hy
      intro x hx
      rcases List.mem_cons.1 hx with rfl | hx
      · exact ⟨hy.1, hy.2.1⟩
      · exact ih h x hx
    · cases h

theorem Sq.set {n : Nat} {m : List (List Int)} (h : Sq n m) {i : Nat} (hi : i < n) (j : Nat) (y : Int) : Sq n (m.set i ((m.getD i []).set j y)) := by
  refine ⟨by rw [List.length_set]; exact h.1, fun r hr => ?_⟩
  rcases List.mem_or_eq_of_mem_set hr with hr | hr
  · exact h.2 r hr
  · rw [hr, List.length_set]
    exact h.2 _ (by simp [List.getD, show i < m.length by have := h.1; omega])
theorem Sq.row {n : Nat} {m : List (List Int)} (h : Sq n m) {i : Nat} (hi : i < n) : m[i]? = some (m.getD i []) ∧ (m.getD i []).length = n := by
  have h1 : i < m.length := by have := h.1; omega
  have h2 : m[i]? = some (m.getD i []) := by simp [List.getD, h1]
  exact ⟨h2, h.2 _ (List.mem_of_getElem? h2)⟩
theorem Sq.entry {n : Nat} {m : List (List Int)} (h : Sq n m) {i j : Nat} (hi : i < n) (hj : j < n) : (m.getD i [])[j]? = some (ent m i j) := by
  have h1 := (h.row hi).2
  unfold ent
  generalize m.getD i [] = r at h1 ⊢
  simp [List.getD, show j < r.length by omega]
theorem Sq.zeros (n : Nat) : Sq n (List.replicate n (List.replicate n 0)) := ⟨by simp, fun r hr => by rw [(List.mem_replicate.1 hr).2]; simp⟩

/-- The table of zeros with its rows and columns filled by their new names, up to row i, column j. -/
def renJ (m : List (List Int)) (ps : List Nat) (out : List (List Int)) (i : Nat) : Nat → List (List Int)
  | 0 => out
  | j + 1 => (renJ m ps out i j).set (ps.getD i 0) (((renJ m ps out i j).getD (ps.getD i 0) []).set (ps.getD j 0) (ent m i j))
def renI (m : List (List Int)) (ps : List Nat) (n : Nat) : Nat → List (List Int)
  | 0 => List.replicate n (List.replicate n 0)
  | i + 1 => renJ m ps (renI m ps n i) i n

theorem renJ_sq {m : List (List Int)} {ps : List Nat} {n : Nat} {out : List (List Int)} (h : Sq n out) {i : Nat} (hp : ps.getD i 0 < n) (j : Nat) : Sq n (renJ m ps out i j) := by
  induction j with
  | zero => exact h
  | succ j ih => exact ih.set hp _ _
theorem renI_sq {m : List (List Int)} {ps : List Nat} {n : Nat} (hp : ∀ i, i < n → ps.getD i 0 < n) : ∀ i, i ≤ n → Sq n (renI m ps n i) := by
  intro i
  induction i with
  | zero => intro _; exact Sq.zeros n
  | succ i ih => intro hi; exact renJ_sq (ih (by omega)) (hp i (by omega)) n

end Go.Sd
end

section
/-
  append by footprints: the slice and the element's own blocks named; two things of the call's own that share no block.
-/
namespace Go.Sd
open Go.RowKit Go.Deep

/-- 'append(v, u)' by footprints, as a run of the builtin. -/
theorem push_run {P : Program} {w : World} {α : Type} {R : OwnRel α} (hR : Kept R) (t ty e : TypeId) (z : Value) (bytes : Nat) (ht : P.underlying t = some (.slice e)) (hinfo : (P.info? e).map (fun i => (i.zero, i.size, i.bytes)) = some (some z, 1, bytes)) (hz1 : z.cells = #[z])
    {v : Value} {xs : List α} {F : List Nat} (h0 : OwnOf e R w v xs F) (hnd : F.Nodup) {u : Value} {y : α} {G : List Nat} (hG : R w u y G) (hGn : G.Nodup) (hd : ∀ b, b ∈ F → b ∉ G)
    {bb c : Nat} (hcell : w.cell? ⟨bb, 0, none⟩ = some u) (hbytes : (xs.length + 1) * bytes ≤ 140737488355328) (h63 : xs.length + 1 ≤ 9223372036854775807) :
    ∃ v' w' F', (Builtin.append_ #[t, t] ty #[v, .slice (some ⟨bb, 0, none⟩) 1 c]).run P w = .ok v' w' ∧ OwnOf e R w' v' (xs ++ [y]) F' ∧ F'.Nodup ∧ (∀ b, b ∈ F' → b ∈ F ∨ b ∈ G ∨ w.heap.size ≤ b) ∧ w.grownBy w' v.ownBlock ∧ (∀ k, v.ownBlock = some k → k ∈ F) := by
  obtain ⟨i, hi, hzz⟩ := Option.map_eq_some_iff.1 hinfo
  simp only [Prod.mk.injEq] at hzz
  obtain ⟨hz, hsz, hby⟩ := hzz
  have hltF := (OwnOf.kept (e := e) hR).lt _ _ _ _ h0
  obtain ⟨us, Fs, how, hl, hr, rfl⟩ := h0
  have hul : us.length = xs.length := by simpa using how.1
  have hvF : ∀ k, v.ownBlock = some k → k ∈ v.ownBlock.toList ++ Fs.flatten := fun k hk => by simp [hk]
  obtain ⟨v', w', hrun, how', hg, _, hat⟩ := run_append_own_at (P := P) w 0 t ty e i z 1 bytes ht hi hz hsz hby (by rw [hz1]; rfl) (by decide) v xs.length us how ⟨bb, 0, none⟩ 1 c [u] (by simp)
    (by
      intro j u' hj
      match j, hj with
      | 0, hj =>
        simp at hj
        subst hj
        simpa [Addr.add] using hcell)
    (by
      intro u' hu'
      simp at hu'
      subst hu'
      exact hR.one _ _ _ _ hG) h63 hbytes (Nat.zero_le _)
  have hGlt : ∀ b, b ∈ G → b < w.heap.size := hR.lt _ _ _ _ hG
  have hnd' := List.nodup_append.1 hnd
  have hnv : ∀ k, v.ownBlock = some k → k ∉ Fs.flatten := fun k hk hm => hnd'.2.2 k (by simp [hk]) k hm rfl
  have hat' : ∀ k, v'.ownBlock = some k → v.ownBlock = some k ∨ w.heap.size ≤ k := by
    intro k hk
    rcases hat with hat | hat
    · rw [hat] at hk; exact Or.inl hk
    · rw [hat] at hk; simp at hk; exact Or.inr (by omega)
  refine ⟨v', w', v'.ownBlock.toList ++ (Fs ++ [G]).flatten, hrun, ⟨us ++ [u], Fs ++ [G], by simpa using how', by simp [hl], ?_, rfl⟩, ?_, ?_, hg, hvF⟩
  · intro j u' x' G' hu' hx' hG'
    by_cases hj : j < xs.length
    · rw [List.getElem?_append_left (by omega)] at hu' hx' hG'
      refine hR.keep _ _ _ _ _ (hr j u' x' G' hu' hx' hG') fun b hb' => ?_
      have hm : b ∈ Fs.flatten := List.mem_flatten_of_mem (List.mem_of_getElem? hG') hb'
      exact hg.block b (hltF b (List.mem_append_right _ hm)) (fun e => hnv b e.symm hm)
    · have hj2 : j = xs.length := by
        have := (List.getElem?_eq_some_iff.1 hx').1
        simp at this; omega
      subst hj2
      rw [List.getElem?_append_right (by omega)] at hu' hx' hG'
      simp [hul, hl] at hu' hx' hG'
      subst hu' hx' hG'
      exact hR.keep _ _ _ _ _ hG fun b hb' => hg.block b (hGlt b hb') fun e => hd b (hvF b e.symm) hb'
  · simp only [List.flatten_append, List.flatten_cons, List.flatten_nil, List.append_nil]
    refine List.nodup_append.2 ⟨by cases v'.ownBlock <;> simp, List.nodup_append.2 ⟨hnd'.2.1, hGn, ?_⟩, ?_⟩
    · intro p hp q hq e
      subst e
      exact hd p (List.mem_append_right _ hp) hq
    · intro p hp q hq e
      subst e
      simp at hp
      rcases hat' p hp with hk | hk
      · rcases List.mem_append.1 hq with hq | hq
        · exact hnv p hk hq
        · exact hd p (hvF p hk) hq
      · rcases List.mem_append.1 hq with hq | hq
        · have := hltF p (List.mem_append_right _ hq); omega
        · have := hGlt p hq; omega
  · intro b hb'
    rcases List.mem_append.1 hb' with hb' | hb'
    · simp at hb'
      rcases hat' b hb' with hk | hk
      · exact Or.inl (hvF b hk)
      · exact Or.inr (Or.inr hk)
    · simp at hb'
      rcases hb' with ⟨H, hH, hb'⟩ | hb'
      · exact Or.inl (List.mem_append_right _ (List.mem_flatten_of_mem hH hb'))
      · exact Or.inr (Or.inl hb')

/-- Two things of the call's own that share no block. -/
def Apart {α β : Type} (R : OwnRel α) (S : OwnRel β) (lo : Nat) (w : World) (v : Value) (x : α) (u : Value) (y : β) : Prop :=
  ∃ F G, R w v x F ∧ S w u y G ∧ Fresh lo F ∧ Fresh lo G ∧ ∀ b, b ∈ F → b ∉ G

section
variable {α β : Type} {R : OwnRel α} {S : OwnRel β} {lo : Nat} {w : World} {v u : Value} {x : α} {y : β}
theorem Apart.left (h : Apart R S lo w v x u y) : New R lo w v x := by obtain ⟨F, G, h1, _, h3, _⟩ := h; exact ⟨F, h1, h3⟩
theorem Apart.right (h : Apart R S lo w v x u y) : New S lo w u y := by obtain ⟨F, G, _, h2, _, h4, _⟩ := h; exact ⟨G, h2, h4⟩
theorem Apart.symm (h : Apart R S lo w v x u y) : Apart S R lo w u y v x := by
  obtain ⟨F, G, h1, h2, h3, h4, h5⟩ := h
  exact ⟨G, F, h2, h1, h4, h3, fun b hG hF => h5 b hF hG⟩
theorem Apart.keep (hR : Kept R) (hS : Kept S) {B : Nat} {w' : World} (h : Apart R S lo w v x u y) (hb : Below B w w') (hB : w.heap.size ≤ B) : Apart R S lo w' v x u y := by
  obtain ⟨F, G, h1, h2, h3, h4, h5⟩ := h
  exact ⟨F, G, hR.keep _ _ _ _ _ h1 fun b hm => hb.block b (Nat.lt_of_lt_of_le (hR.lt _ _ _ _ h1 b hm) hB), hS.keep _ _ _ _ _ h2 fun b hm => hb.block b (Nat.lt_of_lt_of_le (hS.lt _ _ _ _ h2 b hm) hB), h3, h4, h5⟩
/-- One was made, then the other. -/
theorem Apart.of_new (hR : Kept R) {w1 : World} (h1 : New R lo w1 v x) (h2 : New S w1.heap.size w u y) (hb : Below w1.heap.size w1 w) (hlo : lo ≤ w1.heap.size) : Apart R S lo w v x u y := by
  obtain ⟨F, hF, hF2⟩ := h1
  obtain ⟨G, hG, hG2⟩ := h2
  refine ⟨F, G, hR.keep _ _ _ _ _ hF fun b hm => hb.block b (hR.lt _ _ _ _ hF b hm), hG, hF2, ⟨hG2.1, fun b hm => Nat.le_trans hlo (hG2.2 b hm)⟩, fun b hm hm2 => ?_⟩
  have := hR.lt _ _ _ _ hF b hm
  have := hG2.2 b hm2
  omega
end

section
variable {P : Program} {α β : Type} {R : OwnRel α} {S : OwnRel β} {lo : Nat} {w : World} {v u : Value} {e : TypeId}

/-- An element of the first is stored anew. -/
theorem Apart.at (hR : Kept R) (hS : Kept S) {xs : List α} {y : β} (h : Apart (OwnOf e R) S lo w v xs u y) {i : Nat} {x : α} (hx : xs[i]? = some x) :
    ∃ b c, v = .slice (some ⟨b, 0, none⟩) xs.length c ∧ xs.length ≤ c ∧ lo ≤ b ∧ b < w.heap.size ∧ (∃ u0, w.cell? ⟨b, i, none⟩ = some u0) ∧ w.frozen? ⟨b, i, none⟩ = false ∧
      ∀ w' u' x', Below w.heap.size w w' → New R w.heap.size w' u' x' → Apart (OwnOf e R) S lo (w'.setCell ⟨b, i, none⟩ u') v (xs.set i x') u y := by
  obtain ⟨F, G, hF, hG, hn, hm, hd⟩ := h
  have hlt := (OwnOf.kept (e := e) hR).lt _ _ _ _ hF
  obtain ⟨b, c, u0, H, hv, hc, hbF, hbH, hcell, hfr, hu, hHF, hHn, _, hst⟩ := hF.focus hR hn.1 hx
  refine ⟨b, c, hv, hc, hn.2 b hbF, hlt b hbF, ⟨u0, hcell⟩, hfr, fun w' u' x' hb ⟨G', hG', hn', hge'⟩ => ?_⟩
  obtain ⟨F', hF', hsub, hnd, _⟩ := hst w' u' x' G' hG' (fun hmm => by have := hge' b hmm; have := hlt b hbF; omega) (fun q hq _ => hb.block q (hlt q hq))
  have hGlt := hS.lt _ _ _ _ hG
  refine ⟨F', G, hF', hS.keep _ _ _ _ _ hG fun q hq => ?_, ⟨hnd hn' (fun q hq hqF => by have := hge' q hq; have := hlt q hqF; omega), fun q hq => (hsub q hq).elim (hn.2 q) fun hq2 => ?_⟩, hm, fun q hq hqG => ?_⟩
  · exact (Below.heap_setCell _ _ _ _ (fun e => hd b hbF (by have e2 : q = b := e; exact e2 ▸ hq))).trans (hb.block q (hGlt q hq))
  · have := hge' q hq2
    have := hlt b hbF
    have := hn.2 b hbF
    omega
  · rcases hsub q hq with h1 | h1
    · exact hd q h1 hqG
    · have := hge' q h1
      have := hGlt q hqG
      omega

/-- The second becomes the first's last element. -/
theorem Apart.push (hR : Kept R) (t ty : TypeId) (z : Value) (bytes : Nat) (ht : P.underlying t = some (.slice e)) (hinfo : (P.info? e).map (fun i => (i.zero, i.size, i.bytes)) = some (some z, 1, bytes)) (hz1 : z.cells = #[z])
    {xs : List α} {y : α} (h : Apart (OwnOf e R) R lo w v xs u y) (hlo : lo ≤ w.heap.size) {bb c : Nat} (hcell : w.cell? ⟨bb, 0, none⟩ = some u) (hbytes : (xs.length + 1) * bytes ≤ 140737488355328) (h63 : xs.length + 1 ≤ 9223372036854775807) :
    ∃ v' w', (Builtin.append_ #[t, t] ty #[v, .slice (some ⟨bb, 0, none⟩) 1 c]).run P w = .ok v' w' ∧ New (OwnOf e R) lo w' v' (xs ++ [y]) ∧ Below lo w w' := by
  obtain ⟨F, G, hF, hG, hn, hm, hd⟩ := h
  obtain ⟨v', w', F', hr, hF', hn', hs, hg, hv⟩ := push_run hR t ty e z bytes ht hinfo hz1 hF hn.1 hG hm.1 hd (c := c) hcell hbytes h63
  refine ⟨v', w', hr, ⟨F', hF', hn', fun b hb => ?_⟩, Below.of_grown hg hlo fun k hk => hn.2 k (hv k hk)⟩
  rcases hs b hb with h1 | h1 | h1
  · exact hn.2 b h1
  · exact hm.2 b h1
  · omega

/-- An element without blocks of its own is put behind the second. -/
theorem Apart.push2 (hR : Kept R) (hS : Kept S) (t ty : TypeId) (z : Value) (bytes : Nat) (ht : P.underlying t = some (.slice e)) (hinfo : (P.info? e).map (fun i => (i.zero, i.size, i.bytes)) = some (some z, 1, bytes)) (hz1 : z.cells = #[z])
    {x : α} {ys : List β} {y : β} {q : Value} (h : Apart R (OwnOf e S) lo w v x u ys) (hlo : lo ≤ w.heap.size) {bb c : Nat} (hcell : w.cell? ⟨bb, 0, none⟩ = some q) (hq : S w q y []) (hbytes : (ys.length + 1) * bytes ≤ 140737488355328) (h63 : ys.length + 1 ≤ 9223372036854775807) :
    ∃ v' w', (Builtin.append_ #[t, t] ty #[u, .slice (some ⟨bb, 0, none⟩) 1 c]).run P w = .ok v' w' ∧ Apart R (OwnOf e S) lo w' v x v' (ys ++ [y]) ∧ Below lo w w' := by
  obtain ⟨F, G, hF, hG, hn, hm, hd⟩ := h
  obtain ⟨v', w', G', hr, hG', hn', hs, hg, hv⟩ := push_run hS t ty e z bytes ht hinfo hz1 hG hm.1 hq (by simp) (by simp) (c := c) hcell hbytes h63
  have hlt := hR.lt _ _ _ _ hF
  refine ⟨v', w', hr, ⟨F, G', hR.keep _ _ _ _ _ hF fun b hb => hg.block b (hlt b hb) fun e => hd b hb (hv b e.symm), hG', hn, ⟨hn', fun b hb => ?_⟩, fun b hb hb2 => ?_⟩, Below.of_grown hg hlo fun k hk => hm.2 k (hv k hk)⟩
  · rcases hs b hb with h1 | h1 | h1
    · exact hm.2 b h1
    · simp at h1
    · omega
  · rcases hs b hb2 with h1 | h1 | h1
    · exact hd b hb h1
    · simp at h1
    · have := hlt b hb; omega
end

/-- 't[i] = append(t[i], x)' at an own table: the row's cell, a number of the row, and what the append and the store leave. -/
theorem New.row_push {P : Program} {eI eR : TypeId} {lo : Nat} {w : World} {v : Value} {m : List (List Int)} (h : New (OTab eI eR) lo w v m) {i j : Nat} {r : List Int} {x : Int} (hr : m[i]? = some r) (hx : r[j]? = some x)
    (t ty : TypeId) (z : Value) (bytes : Nat) (ht : P.underlying t = some (.slice eI)) (hinfo : (P.info? eI).map (fun i => (i.zero, i.size, i.bytes)) = some (some z, 1, bytes)) (hz1 : z.cells = #[z])
    (hbytes : (r.length + 1) * bytes ≤ 140737488355328) (h63 : r.length + 1 ≤ 9223372036854775807) :
    ∃ b c rb rc, v = .slice (some ⟨b, 0, none⟩) m.length c ∧ m.length ≤ c ∧ lo ≤ b ∧ b < w.heap.size ∧ w.cell? ⟨b, i, none⟩ = some (.slice (some ⟨rb, 0, none⟩) r.length rc) ∧ r.length ≤ rc ∧ rb < w.heap.size ∧ rb ≠ b ∧
      w.cell? ⟨rb, j, none⟩ = some (.int .i64 x) ∧
      ∀ (w1 : World) (bb c1 : Nat) (y : Int), Below w.heap.size w w1 → w1.cell? ⟨bb, 0, none⟩ = some (.int .i64 y) →
        ∃ v' w2, (Builtin.append_ #[t, t] ty #[.slice (some ⟨rb, 0, none⟩) r.length rc, .slice (some ⟨bb, 0, none⟩) 1 c1]).run P w1 = .ok v' w2 ∧
          w2.cell? ⟨b, i, none⟩ = some (.slice (some ⟨rb, 0, none⟩) r.length rc) ∧ w2.frozen? ⟨b, i, none⟩ = false ∧ v'.oneCell' = true ∧ Below lo w w2 ∧
          New (OTab eI eR) lo (w2.setCell ⟨b, i, none⟩ v') v (m.set i (r ++ [y])) := by
  obtain ⟨F, hF, hn, hge⟩ := h
  have hlt := (OTab.kept eI eR).lt _ _ _ _ hF
  obtain ⟨b, c, u, G, hv, hc, hbF, hbG, hcell, hfr, hu, hGF, hGn, _, hst⟩ := hF.focus (OInts.kept eI) hn hr
  obtain ⟨rb, rc, u2, G2, rfl, hrc, hrb, _, hcell2, hfr2, ⟨rfl, rfl⟩, _, _, _, _⟩ := hu.focus OIntR.kept hGn hx
  refine ⟨b, c, rb, rc, hv, hc, hge b hbF, hlt b hbF, hcell, hrc, hlt rb (hGF rb hrb), fun e => hbG (e ▸ hrb), hcell2, fun w1 bb c1 y hb hy => ?_⟩
  have hu1 : OInts eI w1 _ r G := (OInts.kept eI).keep _ _ _ _ _ hu fun q hq => hb.block q (hlt q (hGF q hq))
  have hz := hb.size
  have hlob := hge b hbF
  have hltb := hlt b hbF
  obtain ⟨v', w2, G', hrun, hG', hn', hs, hg, hvG⟩ := push_run OIntR.kept t ty eI z bytes ht hinfo hz1 hu1 hGn (y := y) (G := []) ⟨rfl, rfl⟩ (by simp) (by simp) (c := c1) hy hbytes h63
  have hoff : ∀ q, q ∈ F → q ∉ G → w2.heap[q]? = w.heap[q]? := fun q hq hqG => (hg.block q (by have := hlt q hq; omega) fun e => hqG (hvG q e.symm)).trans (hb.block q (hlt q hq))
  have hbb := hoff b hbF hbG
  have hbG' : b ∉ G' := fun hm => by
    rcases hs b hm with h1 | h1 | h1
    · exact hbG h1
    · simp at h1
    · omega
  obtain ⟨F', hF', hsub, hnd, _⟩ := hst w2 v' (r ++ [y]) G' hG' hbG' hoff
  refine ⟨v', w2, hrun, ?_, ?_, (OInts.kept eI).one _ _ _ _ hG', ?_, F', hF', hnd hn' (fun q hq hqF => ?_), fun q hq => (hsub q hq).elim (hge q) fun hm => ?_⟩
  · rw [← hcell]
    simp only [World.cell?, hbb]
  · rw [← hfr]
    simp only [World.frozen?, hbb]
  · exact (hb.mono (by omega)).grown hg (by omega) fun k hk => hge k (hGF k (hvG k hk))
  · rcases hs q hq with h1 | h1 | h1
    · exact h1
    · simp at h1
    · have := hlt q hqF; omega
  · rcases hs q hm with h1 | h1 | h1
    · exact hge q (hGF q h1)
    · simp at h1
    · omega
end Go.Sd
end

section
/-
  Two own things that grow side by side; make as a law that hides the world; three results.
-/
namespace Go.Sd
open Go.RowKit Go.Deep

section
variable {P : Program} {α β : Type} {R : OwnRel α} {S : OwnRel β} {lo : Nat} {w : World} {v u : Value} {e : TypeId}
theorem Apart.mono {R : OwnRel α} {x : α} {y : β} {lo' : Nat} (h : Apart R S lo w v x u y) (hl : lo' ≤ lo) : Apart R S lo' w v x u y := by
  obtain ⟨F, G, h1, h2, h3, h4, h5⟩ := h
  exact ⟨F, G, h1, h2, ⟨h3.1, fun b hb => Nat.le_trans hl (h3.2 b hb)⟩, ⟨h4.1, fun b hb => Nat.le_trans hl (h4.2 b hb)⟩, h5⟩
/-- An element made since is put behind the first; the second stays as it is. -/
theorem Apart.grow (hR : Kept R) (hS : Kept S) (t ty : TypeId) (z : Value) (bytes : Nat) (ht : P.underlying t = some (.slice e)) (hinfo : (P.info? e).map (fun i => (i.zero, i.size, i.bytes)) = some (some z, 1, bytes)) (hz1 : z.cells = #[z])
    {xs : List α} {y : β} (h : Apart (OwnOf e R) S lo w v xs u y) (hlo : lo ≤ w.heap.size) {w1 : World} (hb : Below w.heap.size w w1) {q : Value} {x : α} (hq : New R w.heap.size w1 q x) {bb c : Nat} (hcell : w1.cell? ⟨bb, 0, none⟩ = some q) (hbytes : (xs.length + 1) * bytes ≤ 140737488355328) (h63 : xs.length + 1 ≤ 9223372036854775807) :
    ∃ v' w', (Builtin.append_ #[t, t] ty #[v, .slice (some ⟨bb, 0, none⟩) 1 c]).run P w1 = .ok v' w' ∧ Apart (OwnOf e R) S lo w' v' (xs ++ [x]) u y ∧ Below lo w w' := by
  obtain ⟨F, G, hF, hG, hn, hm, hd⟩ := h
  obtain ⟨H, hH, hHn, hHg⟩ := hq
  have hltF := (OwnOf.kept (e := e) hR).lt _ _ _ _ hF
  have hltG := hS.lt _ _ _ _ hG
  have hz := hb.size
  obtain ⟨v', w', F', hr, hF', hn', hs, hg, hv⟩ := push_run hR t ty e z bytes ht hinfo hz1 ((OwnOf.kept (e := e) hR).keep _ w1 _ _ _ hF fun b hm => hb.block b (hltF b hm)) hn.1 hH hHn (fun b hm hm2 => by have := hltF b hm; have := hHg b hm2; omega) (c := c) hcell hbytes h63
  refine ⟨v', w', hr, ⟨F', G, hF', hS.keep _ _ _ _ _ hG fun b hm2 => (hg.block b (by have := hltG b hm2; omega) fun e => hd b (hv b e.symm) hm2).trans (hb.block b (hltG b hm2)), ⟨hn', fun b hm2 => ?_⟩, hm, fun b hm2 hm3 => ?_⟩, (hb.mono hlo).grown hg (by omega) fun k hk => hn.2 k (hv k hk)⟩
  · rcases hs b hm2 with h1 | h1 | h1
    · exact hn.2 b h1
    · have := hHg b h1; omega
    · omega
  · rcases hs b hm2 with h1 | h1 | h1
    · exact hd b h1 hm3
    · have := hHg b h1; have := hltG b hm3; omega
    · have := hltG b hm3; omega
end

/-- An entry of the first, a table, is stored anew. -/
theorem Apart.tab_store {β : Type} {S : OwnRel β} {eI eR : TypeId} {lo : Nat} {w : World} {v u : Value} {m : List (List Int)} {y : β} (hS : Kept S) (h : Apart (OTab eI eR) S lo w v m u y) {i j : Nat} {r : List Int} {x : Int} (hr : m[i]? = some r) (hx : r[j]? = some x) :
    ∃ b c rb rc, v = .slice (some ⟨b, 0, none⟩) m.length c ∧ m.length ≤ c ∧ lo ≤ b ∧ b < w.heap.size ∧ w.cell? ⟨b, i, none⟩ = some (.slice (some ⟨rb, 0, none⟩) r.length rc) ∧ r.length ≤ rc ∧ lo ≤ rb ∧ rb < w.heap.size ∧
      w.cell? ⟨rb, j, none⟩ = some (.int .i64 x) ∧ w.frozen? ⟨rb, j, none⟩ = false ∧ ∀ z, Apart (OTab eI eR) S lo (w.setCell ⟨rb, j, none⟩ (.int .i64 z)) v (m.set i (r.set j z)) u y := by
  obtain ⟨F, G, hF, hG, hn, hm, hd⟩ := h
  have hlt := (OTab.kept eI eR).lt _ _ _ _ hF
  obtain ⟨b, c, q, Q, hv, hc, hbF, hbQ, hcell, _, hq, hQF, hQn, hst, _⟩ := hF.focus (OInts.kept eI) hn.1 hr
  obtain ⟨rb, rc, u2, G2, rfl, hrc, hrb, _, hcell2, hfr2, ⟨rfl, rfl⟩, _, _, _, hst2⟩ := hq.focus OIntR.kept hQn hx
  refine ⟨b, c, rb, rc, hv, hc, hn.2 b hbF, hlt b hbF, hcell, hrc, hn.2 rb (hQF rb hrb), hlt rb (hQF rb hrb), hcell2, hfr2, fun z => ?_⟩
  obtain ⟨F', hF', _, _, e⟩ := hst2 w (.int .i64 z) z [] ⟨rfl, rfl⟩ (by simp) (fun _ _ _ => rfl)
  rw [e rfl] at hF'
  exact ⟨F, G, hst _ _ hF' (fun q hq hqG => Below.heap_setCell _ _ _ _ (fun e => hqG (by have e2 : q = rb := e; exact e2 ▸ hrb))), hS.keep _ _ _ _ _ hG fun q hq => Below.heap_setCell _ _ _ _ (fun e => hd rb (hQF rb hrb) (by have e2 : q = rb := e; exact e2 ▸ hq)), hn, hm, hd⟩

/-- 'make([]T, n)' whose world is hidden. -/
theorem wpl_make {P : Program} {α : Type} {R : OwnRel α} {w : World} {ops : Array Oper} {rest : List Oper} {o : Oper} {a : Act} {Q : Exit → Act → World → Prop}
    (hg : o.guard = none) (l c : Operand) (t : TypeId) (hop : o.op = Op.makeSlice t l c)
    (e : TypeId) (z : Value) (bytes : Nat) (ht : P.underlying t = some (.slice e)) (hinfo : (P.info? e).map (fun i => (i.zero, i.size, i.bytes)) = some (some z, 1, bytes)) (hz1 : z.cells = #[z])
    (n : Nat) (hl : a.eval l = .int .i64 (n : Int)) (hc : a.eval c = .int .i64 (n : Int)) (hbytes : bytes * n ≤ 281474976710656) (h63 : n ≤ 9223372036854775807) {d : α} (hd : ∀ w, R w z d [])
    (hK : ∀ w', w'.heap.size = w.heap.size + 1 → New (OwnOf e R) w.heap.size w' (.slice (some ⟨w.heap.size, 0, none⟩) n n) (List.replicate n d) → Below w.heap.size w w' → wpList P ops Q rest (a.put o.dst (.slice (some ⟨w.heap.size, 0, none⟩) n n)) w') :
    wpList P ops Q (o :: rest) a w := by
  obtain ⟨i, hi, hzz⟩ := Option.map_eq_some_iff.1 hinfo
  simp only [Prod.mk.injEq] at hzz
  obtain ⟨hz, hs, hb⟩ := hzz
  refine wpList_make_row w hg l c t hop e i z ht hi hz hs hz1 .i64 .i64 n hl hc (by rw [hb]; exact hbytes) h63 ?_
  exact hK _ (by simp) (New.made e w z d n (Nat.le_refl _) h63 hd) ((Below.refl _ _).alloc (Nat.le_refl _) _)

/-- A call that makes two things that share no block, and answers a bool besides. -/
def Makes3 {α β : Type} (R : OwnRel α) (S : OwnRel β) (w : World) (x : α) (y : β) (ok : Bool) (e : Ending) (w' : World) : Prop :=
  ∃ r s, e = .returned (.tuple #[r, s, .bool ok]) ∧ Apart R S w.heap.size w' r x s y ∧ Below w.heap.size w w'
theorem Apart.nils {α β : Type} {R : OwnRel α} {S : OwnRel β} {e f : TypeId} (lo : Nat) (w : World) : Apart (OwnOf e R) (OwnOf f S) lo w (.slice none 0 0) [] (.slice none 0 0) [] :=
  ⟨[], [], OwnOf.nil w, OwnOf.nil w, by simp [Fresh], by simp [Fresh], by simp⟩
theorem Apart.empties {α β : Type} {R : OwnRel α} {S : OwnRel β} (hR : Kept R) {e f : TypeId} (w : World) {lo : Nat} (h : lo ≤ w.heap.size) :
    Apart (OwnOf e R) (OwnOf f S) lo ((w.alloc (.cells #[] e)).alloc (.cells #[] f)) (.slice (some ⟨w.heap.size, 0, none⟩) 0 0) [] (.slice (some ⟨w.heap.size + 1, 0, none⟩) 0 0) [] := by
  have h2 := New.empty (R := S) (e := f) (lo := (w.alloc (.cells #[] e)).heap.size) (w.alloc (.cells #[] e)) (Nat.le_refl _)
  have e2 : (w.alloc (.cells #[] e)).heap.size = w.heap.size + 1 := by simp
  have h3 := Apart.of_new (OwnOf.kept (e := e) hR) (New.empty w h) h2 ((Below.refl _ _).alloc (Nat.le_refl _) _) (by rw [e2]; omega)
  rw [e2] at h3
  exact h3
end Go.Sd
end

section
/-
  A Bool holds of all numbers from one on.
-/
namespace Go.Proofs.Ytdohepngandajaa
open Go.RowKit Go.Deep Go.Sd
/-- All of the next g numbers from k on. -/
def allF (h : Nat → Bool) : Nat → Nat → Bool
  | 0, _ => true
  | g + 1, k => if h k = true then allF h g (k + 1) else false
end Go.Proofs.Ytdohepngandajaa
end

section
/-
  Which labelled graphs are valid: the model.
-/
namespace Go.Proofs.Ytdohepngandajaa
open Go.RowKit Go.Deep Go.Sd

def at3 (xs : List Arc3) (k : Nat) : Arc3 := xs.getD k (0, 0, 0)
theorem at3_of {xs : List Arc3} {k : Nat} {x : Arc3} (h : xs[k]? = some x) : at3 xs k = x := by simp [at3, List.getD, h]
def arcOk (L S : Int) (x : Arc3) : Bool := decide (0 ≤ x.1 ∧ x.1 < S ∧ 0 ≤ x.2.1 ∧ x.2.1 < S ∧ 0 ≤ x.2.2 ∧ x.2.2 < L)
def arcB (L S : Int) (xs : List Arc3) (k : Nat) : Bool := arcOk L S (at3 xs k) && (decide (k = 0) || before (at3 xs (k - 1)) (at3 xs k))
def isLab (l : Lb) : Bool := decide (1 ≤ l.1 ∧ l.1 ≤ 3) && (decide (1 ≤ l.2.1 ∧ l.2.1 ≤ 12) && allF (arcB l.1 l.2.1 l.2.2) l.2.2.length 0)

end Go.Proofs.Ytdohepngandajaa
end

section
/-
  Which labelled graphs are valid, the program's.
-/
namespace Go.Proofs.Ytdohepngandajaa
open Go.RowKit Go.Deep Go.Sd

theorem isLetters_c (k : Int) (w : World) : Calls Try.prog 144 #[.int .i64 k] w fun e w' => e = .returned (.bool (decide (1 ≤ k ∧ k ≤ 3))) ∧ w = w' := by
  by_cases h1 : 1 ≤ k
  · by_cases h2 : k ≤ 3
    · have H := Lib.hid (show decide (1 ≤ k ∧ k ≤ 3) = true from decide_eq_true ⟨h1, h2⟩)
      generalize decide (1 ≤ k ∧ k ≤ 3) = T at H ⊢
      go_enter Try.func144, Try.ntmps144
      go_wp2
      go_ret
      exact ⟨by rw [H.out]; rfl, rfl⟩
    · have H := Lib.hid (show decide (1 ≤ k ∧ k ≤ 3) = false from decide_eq_false (by omega))
      generalize decide (1 ≤ k ∧ k ≤ 3) = T at H ⊢
      go_enter Try.func144, Try.ntmps144
      go_wp2
      go_ret
      exact ⟨by rw [H.out]; rfl, rfl⟩
  · have H := Lib.hid (show decide (1 ≤ k ∧ k ≤ 3) = false from decide_eq_false (by omega))
    generalize decide (1 ≤ k ∧ k ≤ 3) = T at H ⊢
    go_enter Try.func144, Try.ntmps144
    go_wp2
    go_ret
    exact ⟨by rw [H.out]; rfl, rfl⟩
set_option maxHeartbeats 8000000 in
set_option maxRecDepth 10000 in
theorem impl_IsLabels_c {w : World} {v : Value} {l : Lb} (h : LabR w v l) :
    Calls Try.prog 78 #[v] w fun e w' => e = .returned (.bool (isLab l)) ∧ Below w.heap.size w w' := by
  obtain ⟨L, S, xs⟩ := l
  obtain ⟨va, rfl, hlen, a, c, rfl, _, _, _, hcell⟩ := h
  have H := Lib.hid (show isLab (L, S, xs) = (decide (1 ≤ L ∧ L ≤ 3) && (decide (1 ≤ S ∧ S ≤ 12) && allF (arcB L S xs) xs.length 0)) from rfl)
  generalize isLab (L, S, xs) = T at H ⊢
  have Hl := Lib.hid (fun w => isLetters_c L w)
  obtain ⟨n, hn⟩ : ∃ n, n = xs.length := ⟨_, rfl⟩
  have Hn := Lib.hid hn
  simp only at hcell hlen
  simp only
  rw [← hn] at hcell hlen H ⊢
  clear hn
  by_cases hL : 1 ≤ L ∧ L ≤ 3
  rotate_left
  · have HT := Lib.hid (show T = false from by rw [H.out, decide_eq_false hL]; rfl)
    rw [decide_eq_false hL] at Hl
    clear H hL
    go_enter Try.func78, Try.ntmps78
    go_wp2_with fail
    refine (Hl.out _).mono ?_
    rintro e w' ⟨rfl, rfl⟩
    go_wp2
    go_ret
    exact ⟨by rw [HT.out]; rfl, (Below.refl _ _).alloc (Nat.le_refl _) _⟩
  rw [decide_eq_true hL] at Hl H
  by_cases hS : 1 ≤ S ∧ S ≤ 12
  rotate_left
  · have HT := Lib.hid (show T = false from by rw [H.out, decide_eq_false hS]; rfl)
    clear H hL
    by_cases h1 : S < 1
    · clear hS
      go_enter Try.func78, Try.ntmps78
      go_wp2_with fail
      refine (Hl.out _).mono ?_
      rintro e w' ⟨rfl, rfl⟩
      go_wp2
      go_ret
      exact ⟨by rw [HT.out]; rfl, (Below.refl _ _).alloc (Nat.le_refl _) _⟩
    · have h2 : 12 < S := by omega
      clear hS
      go_enter Try.func78, Try.ntmps78
      go_wp2_with fail
      refine (Hl.out _).mono ?_
      rintro e w' ⟨rfl, rfl⟩
      go_wp2
      go_ret
      exact ⟨by rw [HT.out]; rfl, (Below.refl _ _).alloc (Nat.le_refl _) _⟩
  have HT := Lib.hid (show T = allF (arcB L S xs) n 0 from by rw [H.out, decide_eq_true hS]; rfl)
  obtain ⟨hS1, hS2⟩ := hS
  obtain ⟨hL1, hL2⟩ := hL
  clear H
  go_enter Try.func78, Try.ntmps78
  go_wp2_with fail
  obtain ⟨w1, ex, hb1, q0, q1, q2, m1⟩ := boxA3_ex w 28 (.int .i64 L) (.int .i64 S) (.slice a n c)
  change Calls Try.prog _ _ (w.alloc (.cells #[.int .i64 L, .int .i64 S, .slice a n c] 28)) _
  rw [ex]
  clear ex
  refine (Hl.out _).mono ?_
  rintro e w' ⟨rfl, rfl⟩
  have Hb1 := Lib.hid hb1
  have hz := hb1.size
  go_wp2
  go_loopg [22] n (fun g i wr => ∃ (k : Nat), i = .int .i64 k ∧ k + g = n ∧ Hid (T = allF (arcB L S xs) g k) ∧ Below w1.heap.size w1 wr)
  case atStart => exact ⟨0, rfl, by omega, HT, Below.refl _ _⟩
  case round =>
    obtain ⟨k, rfl, hk, HK, hbel⟩ := hrel
    obtain ⟨g, hg⟩ : ∃ g, g = gk := ⟨_, rfl⟩
    rw [← hg] at HK hk
    by_cases hlt : k < n
    · obtain ⟨g', rfl⟩ : ∃ t, g = t + 1 := ⟨g - 1, by omega⟩
      have HK1 := Lib.hid (show T = if arcB L S xs k = true then allF (arcB L S xs) g' (k + 1) else false from HK.out)
      obtain ⟨b, o, rfl, hb, hx0⟩ := hcell (by omega)
      obtain ⟨x, hx, _⟩ := at_lt (xs := xs) (k := k) (by have := Hn.out; omega)
      obtain ⟨f0, f1, f2⟩ := hx0 k x hx
      have g0 : wr.cell? ⟨b, o + k * 3, none⟩ = some (.int .i64 x.1) := (hbel.cell (p := ⟨b, o + k * 3, none⟩) (by simp; omega)).trans ((hb1.cell (p := ⟨b, o + k * 3, none⟩) hb).trans f0)
      have g1 : wr.cell? ⟨b, o + k * 3 + 1, none⟩ = some (.int .i64 x.2.1) := (hbel.cell (p := ⟨b, o + k * 3 + 1, none⟩) (by simp; omega)).trans ((hb1.cell (p := ⟨b, o + k * 3 + 1, none⟩) hb).trans f1)
      have g2 : wr.cell? ⟨b, o + k * 3 + 2, none⟩ = some (.int .i64 x.2.2) := (hbel.cell (p := ⟨b, o + k * 3 + 2, none⟩) (by simp; omega)).trans ((hb1.cell (p := ⟨b, o + k * 3 + 2, none⟩) hb).trans f2)
      have r0 : wr.cell? ⟨w.heap.size, 0, none⟩ = some (.int .i64 L) := (hbel.cell (p := ⟨w.heap.size, 0, none⟩) m1).trans q0
      have r1 : wr.cell? ⟨w.heap.size, 1, none⟩ = some (.int .i64 S) := (hbel.cell (p := ⟨w.heap.size, 1, none⟩) m1).trans q1
      have r2 : wr.cell? ⟨w.heap.size, 2, none⟩ = some (.slice (some ⟨b, o, none⟩) n c) := (hbel.cell (p := ⟨w.heap.size, 2, none⟩) m1).trans q2
      have hz2 := hbel.size
      have hbr : b < wr.heap.size := by omega
      have hwr : w.heap.size < wr.heap.size := by omega
      have Hbel := Lib.hid hbel
      have HA := Lib.hid (at3_of hx)
      have Hcase := Lib.hid (show x.1 < 0 ∨ (0 ≤ x.1 ∧ S ≤ x.1) ∨ (0 ≤ x.1 ∧ x.1 < S ∧ x.2.1 < 0) ∨ (0 ≤ x.1 ∧ x.1 < S ∧ 0 ≤ x.2.1 ∧ S ≤ x.2.1) ∨ (0 ≤ x.1 ∧ x.1 < S ∧ 0 ≤ x.2.1 ∧ x.2.1 < S ∧ x.2.2 < 0) ∨ (0 ≤ x.1 ∧ x.1 < S ∧ 0 ≤ x.2.1 ∧ x.2.1 < S ∧ 0 ≤ x.2.2 ∧ L ≤ x.2.2) ∨ (0 ≤ x.1 ∧ x.1 < S ∧ 0 ≤ x.2.1 ∧ x.2.1 < S ∧ 0 ≤ x.2.2 ∧ x.2.2 < L) from by omega)
      by_cases hok : arcOk L S x = true
      rotate_left
      · have HF := Lib.hid (show T = false from by rw [HK1.out, if_neg (by unfold arcB; rw [HA.out, Bool.eq_false_iff.2 hok]; simp)])
        have hok2 := hok
        unfold arcOk at hok2
        rw [decide_eq_true_eq] at hok2
        have hcs := Hcase.out
        clear HK HK1 hx0 hcell hx f0 f1 f2 Hcase hok
        obtain ⟨x0, x1, x2⟩ := x
        simp only at g0 g1 g2 hok2 hcs
        rcases hcs with hcs | ⟨i0, i1⟩ | ⟨i0, i1, i2⟩ | ⟨i0, i1, i2, i3⟩ | ⟨i0, i1, i2, i3, i4⟩ | ⟨i0, i1, i2, i3, i4, i5⟩ | hcs
        · clear hok2
          have u0 : decide (x0 < 0) = true := decide_eq_true (by omega)
          go_wp2
          go_quiet (fail)
          go_wp2
          go_ret
          exact ⟨by rw [HF.out]; rfl, below_drewN (((Hb1.out.trans (Hbel.out.mono hz)).alloc (Nat.le_of_lt hwr) _)) _⟩
        · clear hok2
          have u0 : decide (x0 < 0) = false := decide_eq_false (by omega)
          have u1 : decide (S ≤ x0) = true := decide_eq_true (by omega)
          go_wp2
          go_quiet (fail)
          go_wp2
          go_ret
          exact ⟨by rw [HF.out]; rfl, below_drewN (((Hb1.out.trans (Hbel.out.mono hz)).alloc (Nat.le_of_lt hwr) _)) _⟩
        · clear hok2
          have u0 : decide (x0 < 0) = false := decide_eq_false (by omega)
          have u1 : decide (S ≤ x0) = false := decide_eq_false (by omega)
          have u2 : decide (x1 < 0) = true := decide_eq_true (by omega)
          go_wp2
          go_quiet (fail)
          go_wp2
          go_ret
          exact ⟨by rw [HF.out]; rfl, below_drewN (((Hb1.out.trans (Hbel.out.mono hz)).alloc (Nat.le_of_lt hwr) _)) _⟩
        · clear hok2
          have u0 : decide (x0 < 0) = false := decide_eq_false (by omega)
          have u1 : decide (S ≤ x0) = false := decide_eq_false (by omega)
          have u2 : decide (x1 < 0) = false := decide_eq_false (by omega)
          have u3 : decide (S ≤ x1) = true := decide_eq_true (by omega)
          go_wp2
          go_quiet (fail)
          go_wp2
          go_ret
          exact ⟨by rw [HF.out]; rfl, below_drewN (((Hb1.out.trans (Hbel.out.mono hz)).alloc (Nat.le_of_lt hwr) _)) _⟩
        · clear hok2
          have u0 : decide (x0 < 0) = false := decide_eq_false (by omega)
          have u1 : decide (S ≤ x0) = false := decide_eq_false (by omega)
          have u2 : decide (x1 < 0) = false := decide_eq_false (by omega)
          have u3 : decide (S ≤ x1) = false := decide_eq_false (by omega)
          have u4 : decide (x2 < 0) = true := decide_eq_true (by omega)
          go_wp2
          go_quiet (fail)
          go_wp2
          go_ret
          exact ⟨by rw [HF.out]; rfl, below_drewN (((Hb1.out.trans (Hbel.out.mono hz)).alloc (Nat.le_of_lt hwr) _)) _⟩
        · clear hok2
          have u0 : decide (x0 < 0) = false := decide_eq_false (by omega)
          have u1 : decide (S ≤ x0) = false := decide_eq_false (by omega)
          have u2 : decide (x1 < 0) = false := decide_eq_false (by omega)
          have u3 : decide (S ≤ x1) = false := decide_eq_false (by omega)
          have u4 : decide (x2 < 0) = false := decide_eq_false (by omega)
          have u5 : decide (L ≤ x2) = true := decide_eq_true (by omega)
          go_wp2
          go_quiet (fail)
          go_wp2
          go_ret
          exact ⟨by rw [HF.out]; rfl, below_drewN (((Hb1.out.trans (Hbel.out.mono hz)).alloc (Nat.le_of_lt hwr) _)) _⟩
        · exact absurd hcs hok2
      · have hok2 := hok
        unfold arcOk at hok2
        rw [decide_eq_true_eq] at hok2
        obtain ⟨i0, i1, i2, i3, i4, i5⟩ := hok2
        by_cases hk0 : k = 0
        · have HT2 := Lib.hid (show T = allF (arcB L S xs) g' (k + 1) from by rw [HK1.out, if_pos (by unfold arcB; rw [HA.out, hok]; simp [hk0])])
          clear HK HK1 hx0 hcell hx f0 f1 f2 Hcase hok HA
          subst hk0
          rw [Nat.zero_mul, Nat.add_zero] at g0 g1 g2
          obtain ⟨x0, x1, x2⟩ := x
          simp only at g0 g1 g2 i0 i1 i2 i3 i4 i5
          have u0 : decide (x0 < 0) = false := decide_eq_false (by omega)
          have u1 : decide (S ≤ x0) = false := decide_eq_false (by omega)
          have u2 : decide (x1 < 0) = false := decide_eq_false (by omega)
          have u3 : decide (S ≤ x1) = false := decide_eq_false (by omega)
          have u4 : decide (x2 < 0) = false := decide_eq_false (by omega)
          have u5 : decide (L ≤ x2) = false := decide_eq_false (by omega)
          go_wp2
          go_quiet (fail)
          go_wp2
          go_roundg g'
          case measure => omega
          case rel => exact ⟨0 + 1, by go_num, by omega, HT2, below_drewN ((Hbel.out.alloc hz2 _)) _⟩
        · obtain ⟨j, rfl⟩ : ∃ j, k = j + 1 := ⟨k - 1, by omega⟩
          obtain ⟨y, hy, _⟩ := at_lt (xs := xs) (k := j) (by have := Hn.out; omega)
          obtain ⟨e0, e1, e2⟩ := hx0 j y hy
          have p0 : wr.cell? ⟨b, o + j * 3, none⟩ = some (.int .i64 y.1) := (hbel.cell (p := ⟨b, o + j * 3, none⟩) (by simp; omega)).trans ((hb1.cell (p := ⟨b, o + j * 3, none⟩) hb).trans e0)
          have p1 : wr.cell? ⟨b, o + j * 3 + 1, none⟩ = some (.int .i64 y.2.1) := (hbel.cell (p := ⟨b, o + j * 3 + 1, none⟩) (by simp; omega)).trans ((hb1.cell (p := ⟨b, o + j * 3 + 1, none⟩) hb).trans e1)
          have p2 : wr.cell? ⟨b, o + j * 3 + 2, none⟩ = some (.int .i64 y.2.2) := (hbel.cell (p := ⟨b, o + j * 3 + 2, none⟩) (by simp; omega)).trans ((hb1.cell (p := ⟨b, o + j * 3 + 2, none⟩) hb).trans e2)
          have HB := Lib.hid (at3_of hy)
          have Hcm := Lib.hid (cmpA_nn y x)
          have Hcc := Lib.hid (fun w => compareArcs_c y x w)
          have HV := Lib.hid (show arcB L S xs (j + 1) = before y x from by unfold arcB; rw [HA.out, hok, show j + 1 - 1 = j from rfl, HB.out]; simp)
          clear HK hx0 hcell hx hy f0 f1 f2 e0 e1 e2 Hcase hok HA HB hk0
          obtain ⟨x0, x1, x2⟩ := x
          obtain ⟨y0, y1, y2⟩ := y
          simp only at g0 g1 g2 i0 i1 i2 i3 i4 i5 p0 p1 p2
          have u0 : decide (x0 < 0) = false := decide_eq_false (by omega)
          have u1 : decide (S ≤ x0) = false := decide_eq_false (by omega)
          have u2 : decide (x1 < 0) = false := decide_eq_false (by omega)
          have u3 : decide (S ≤ x1) = false := decide_eq_false (by omega)
          have u4 : decide (x2 < 0) = false := decide_eq_false (by omega)
          have u5 : decide (L ≤ x2) = false := decide_eq_false (by omega)
          generalize cmpA (y0, y1, y2) (x0, x1, x2) = cv at Hcm Hcc
          have hjn : (j : Int) < (n : Int) := by omega
          have hwj2 : IntKind.i64.wrap (j : Int) = (j : Int) := IntWalk.i64_in _ (by omega)
          have hj0 : (0 : Int) ≤ (j : Int) := by omega
          have hj1 : decide ((0 : Int) < (j : Int) + 1) = true := decide_eq_true (by omega)
          have hwj : IntKind.i64.wrap ((j : Int) + 1 - 1) = (j : Int) := by rw [show (j : Int) + 1 - 1 = j by omega]; exact IntWalk.i64_in _ (by omega)
          go_wp2
          obtain ⟨wn, ex, hbn0, c0, c1, c2, mn⟩ := boxA3_ex wr 72 (.int .i64 x0) (.int .i64 x1) (.int .i64 x2)
          rw [ex]
          clear ex g0 g1 g2
          have hwn : w.heap.size < wn.heap.size := by omega
          have hbn : b < wn.heap.size := by omega
          replace r0 := (hbn0.cell (p := ⟨w.heap.size, 0, none⟩) hwr).trans r0
          replace r1 := (hbn0.cell (p := ⟨w.heap.size, 1, none⟩) hwr).trans r1
          replace r2 := (hbn0.cell (p := ⟨w.heap.size, 2, none⟩) hwr).trans r2
          replace p0 := (hbn0.cell (p := ⟨b, o + j * 3, none⟩) hbr).trans p0
          replace p1 := (hbn0.cell (p := ⟨b, o + j * 3 + 1, none⟩) hbr).trans p1
          replace p2 := (hbn0.cell (p := ⟨b, o + j * 3 + 2, none⟩) hbr).trans p2
          have Hbn := Lib.hid (Hbel.out.trans (hbn0.mono hz2))
          have hS0 : wn.cell? ⟨wr.heap.size, 0, none⟩ = some (.int .i64 x0) ∧ wn.cell? ⟨wr.heap.size, 1, none⟩ = some (.int .i64 x1) ∧ wn.cell? ⟨wr.heap.size, 2, none⟩ = some (.int .i64 x2) ∧ wn.cell? ⟨w.heap.size, 0, none⟩ = some (.int .i64 L) ∧ wn.cell? ⟨w.heap.size, 1, none⟩ = some (.int .i64 S) ∧ wn.cell? ⟨w.heap.size, 2, none⟩ = some (.slice (some ⟨b, o, none⟩) n c) ∧ wn.cell? ⟨b, o + j * 3, none⟩ = some (.int .i64 y0) ∧ wn.cell? ⟨b, o + j * 3 + 1, none⟩ = some (.int .i64 y1) ∧ wn.cell? ⟨b, o + j * 3 + 2, none⟩ = some (.int .i64 y2) := ⟨c0, c1, c2, r0, r1, r2, p0, p1, p2⟩
          have hSd : wn.drew.cell? ⟨wr.heap.size, 0, none⟩ = some (.int .i64 x0) ∧ wn.drew.cell? ⟨wr.heap.size, 1, none⟩ = some (.int .i64 x1) ∧ wn.drew.cell? ⟨wr.heap.size, 2, none⟩ = some (.int .i64 x2) ∧ wn.drew.cell? ⟨w.heap.size, 0, none⟩ = some (.int .i64 L) ∧ wn.drew.cell? ⟨w.heap.size, 1, none⟩ = some (.int .i64 S) ∧ wn.drew.cell? ⟨w.heap.size, 2, none⟩ = some (.slice (some ⟨b, o, none⟩) n c) ∧ wn.drew.cell? ⟨b, o + j * 3, none⟩ = some (.int .i64 y0) ∧ wn.drew.cell? ⟨b, o + j * 3 + 1, none⟩ = some (.int .i64 y1) ∧ wn.drew.cell? ⟨b, o + j * 3 + 2, none⟩ = some (.int .i64 y2) := hS0
          have hzn : w1.heap.size ≤ wn.heap.size := by omega
          clear hbn0
          by_cases hbf : before (y0, y1, y2) (x0, x1, x2) = true
          · have HT2 := Lib.hid (show T = allF (arcB L S xs) g' (j + 1 + 1) from by rw [HK1.out, if_pos (by rw [HV.out]; exact hbf)])
            have hcv : cv < 0 := by
              have h1 : ¬ 0 ≤ cv := fun h2 => by have h3 := Hcm.out.1 h2; rw [hbf] at h3; cases h3
              omega
            clear HK1 HV Hcm hbf
            have HS := Lib.hid (fun (w2 : World) (hb3 : Below wn.heap.size wn w2) => (show w2.cell? ⟨wr.heap.size, 0, none⟩ = some (.int .i64 x0) ∧ w2.cell? ⟨wr.heap.size, 1, none⟩ = some (.int .i64 x1) ∧ w2.cell? ⟨wr.heap.size, 2, none⟩ = some (.int .i64 x2) ∧ w2.cell? ⟨w.heap.size, 0, none⟩ = some (.int .i64 L) ∧ w2.cell? ⟨w.heap.size, 1, none⟩ = some (.int .i64 S) ∧ w2.cell? ⟨w.heap.size, 2, none⟩ = some (.slice (some ⟨b, o, none⟩) n c) ∧ w2.cell? ⟨b, o + j * 3, none⟩ = some (.int .i64 y0) ∧ w2.cell? ⟨b, o + j * 3 + 1, none⟩ = some (.int .i64 y1) ∧ w2.cell? ⟨b, o + j * 3 + 2, none⟩ = some (.int .i64 y2) from ⟨(hb3.cell (p := ⟨wr.heap.size, 0, none⟩) mn).trans hS0.1, (hb3.cell (p := ⟨wr.heap.size, 1, none⟩) mn).trans hS0.2.1, (hb3.cell (p := ⟨wr.heap.size, 2, none⟩) mn).trans hS0.2.2.1, (hb3.cell (p := ⟨w.heap.size, 0, none⟩) hwn).trans hS0.2.2.2.1, (hb3.cell (p := ⟨w.heap.size, 1, none⟩) hwn).trans hS0.2.2.2.2.1, (hb3.cell (p := ⟨w.heap.size, 2, none⟩) hwn).trans hS0.2.2.2.2.2.1, (hb3.cell (p := ⟨b, o + j * 3, none⟩) hbn).trans hS0.2.2.2.2.2.2.1, (hb3.cell (p := ⟨b, o + j * 3 + 1, none⟩) hbn).trans hS0.2.2.2.2.2.2.2.1, (hb3.cell (p := ⟨b, o + j * 3 + 2, none⟩) hbn).trans hS0.2.2.2.2.2.2.2.2⟩))
            go_region_held3 (fun w' => w'.cell? ⟨wr.heap.size, 0, none⟩ = some (.int .i64 x0) ∧ w'.cell? ⟨wr.heap.size, 1, none⟩ = some (.int .i64 x1) ∧ w'.cell? ⟨wr.heap.size, 2, none⟩ = some (.int .i64 x2) ∧ w'.cell? ⟨w.heap.size, 0, none⟩ = some (.int .i64 L) ∧ w'.cell? ⟨w.heap.size, 1, none⟩ = some (.int .i64 S) ∧ w'.cell? ⟨w.heap.size, 2, none⟩ = some (.slice (some ⟨b, o, none⟩) n c) ∧ w'.cell? ⟨b, o + j * 3, none⟩ = some (.int .i64 y0) ∧ w'.cell? ⟨b, o + j * 3 + 1, none⟩ = some (.int .i64 y1) ∧ w'.cell? ⟨b, o + j * 3 + 2, none⟩ = some (.int .i64 y2))
              (first | with_reducible exact hS1 | with_reducible exact hSd | with_reducible exact hS0 | go_keep)
              ((first
                | (go_at_call 118; (with_reducible refine (Hcc.out _).mono ?_); rintro e w2 ⟨rfl, hb2'⟩; have hb3 := ((Below.refl wn.heap.size wn).drew).trans hb2'; have hS1 := HS.out w2 hb3; have Hb3 := Lib.hid (Hbn.out.trans (hb3.mono hzn)); clear hb2' hb3)
                | fail))
            go_wp2
            go_roundg g'
            case measure => omega
            case rel => exact ⟨j + 1 + 1, by go_num, by omega, HT2, Hb3.out⟩
          · have HF := Lib.hid (show T = false from by rw [HK1.out, if_neg (by rw [HV.out]; exact hbf)])
            have hcv : 0 ≤ cv := Hcm.out.2 (Bool.eq_false_iff.2 hbf)
            clear HK1 HV Hcm hbf
            have HS := Lib.hid (fun (w2 : World) (hb3 : Below wn.heap.size wn w2) => (show w2.cell? ⟨wr.heap.size, 0, none⟩ = some (.int .i64 x0) ∧ w2.cell? ⟨wr.heap.size, 1, none⟩ = some (.int .i64 x1) ∧ w2.cell? ⟨wr.heap.size, 2, none⟩ = some (.int .i64 x2) ∧ w2.cell? ⟨w.heap.size, 0, none⟩ = some (.int .i64 L) ∧ w2.cell? ⟨w.heap.size, 1, none⟩ = some (.int .i64 S) ∧ w2.cell? ⟨w.heap.size, 2, none⟩ = some (.slice (some ⟨b, o, none⟩) n c) ∧ w2.cell? ⟨b, o + j * 3, none⟩ = some (.int .i64 y0) ∧ w2.cell? ⟨b, o + j * 3 + 1, none⟩ = some (.int .i64 y1) ∧ w2.cell? ⟨b, o + j * 3 + 2, none⟩ = some (.int .i64 y2) from ⟨(hb3.cell (p := ⟨wr.heap.size, 0, none⟩) mn).trans hS0.1, (hb3.cell (p := ⟨wr.heap.size, 1, none⟩) mn).trans hS0.2.1, (hb3.cell (p := ⟨wr.heap.size, 2, none⟩) mn).trans hS0.2.2.1, (hb3.cell (p := ⟨w.heap.size, 0, none⟩) hwn).trans hS0.2.2.2.1, (hb3.cell (p := ⟨w.heap.size, 1, none⟩) hwn).trans hS0.2.2.2.2.1, (hb3.cell (p := ⟨w.heap.size, 2, none⟩) hwn).trans hS0.2.2.2.2.2.1, (hb3.cell (p := ⟨b, o + j * 3, none⟩) hbn).trans hS0.2.2.2.2.2.2.1, (hb3.cell (p := ⟨b, o + j * 3 + 1, none⟩) hbn).trans hS0.2.2.2.2.2.2.2.1, (hb3.cell (p := ⟨b, o + j * 3 + 2, none⟩) hbn).trans hS0.2.2.2.2.2.2.2.2⟩))
            go_region_held3 (fun w' => w'.cell? ⟨wr.heap.size, 0, none⟩ = some (.int .i64 x0) ∧ w'.cell? ⟨wr.heap.size, 1, none⟩ = some (.int .i64 x1) ∧ w'.cell? ⟨wr.heap.size, 2, none⟩ = some (.int .i64 x2) ∧ w'.cell? ⟨w.heap.size, 0, none⟩ = some (.int .i64 L) ∧ w'.cell? ⟨w.heap.size, 1, none⟩ = some (.int .i64 S) ∧ w'.cell? ⟨w.heap.size, 2, none⟩ = some (.slice (some ⟨b, o, none⟩) n c) ∧ w'.cell? ⟨b, o + j * 3, none⟩ = some (.int .i64 y0) ∧ w'.cell? ⟨b, o + j * 3 + 1, none⟩ = some (.int .i64 y1) ∧ w'.cell? ⟨b, o + j * 3 + 2, none⟩ = some (.int .i64 y2))
              (first | with_reducible exact hS1 | with_reducible exact hSd | with_reducible exact hS0 | go_keep)
              ((first
                | (go_at_call 118; (with_reducible refine (Hcc.out _).mono ?_); rintro e w2 ⟨rfl, hb2'⟩; have hb3 := ((Below.refl wn.heap.size wn).drew).trans hb2'; have hS1 := HS.out w2 hb3; have Hb3 := Lib.hid (Hbn.out.trans (hb3.mono hzn)); clear hb2' hb3)
                | fail))
            go_wp2
            go_ret
            exact ⟨by rw [HF.out]; rfl, Hb1.out.trans (Hb3.out.mono hz)⟩
    · have e : g = 0 := by omega
      subst e
      have HF := Lib.hid (show T = true from HK.out)
      have Hbz := Lib.hid (Hb1.out.trans (hbel.mono hz))
      clear HK hbel hg hb1 hcell
      go_wp2
      go_ret
      exact ⟨by rw [HF.out]; rfl, Hbz.out⟩
end Go.Proofs.Ytdohepngandajaa
end
