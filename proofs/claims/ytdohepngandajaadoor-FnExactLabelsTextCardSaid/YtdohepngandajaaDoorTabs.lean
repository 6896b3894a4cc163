/-
  Tables by their entries: plain lists, no program in sight.
-/
import Derived.Test.YtdohepngandajaaDoorBase
namespace Go.Sd

def rowOf' (r : Nat) (f : Nat → Int) : List Int := (List.range r).map f
def tabOf (p r : Nat) (f : Nat → Nat → Int) : List (List Int) := (List.range p).map fun i => rowOf' r (f i)

theorem rowOf_len (r : Nat) (f : Nat → Int) : (rowOf' r f).length = r := by simp [rowOf']
theorem tabOf_len (p r : Nat) (f : Nat → Nat → Int) : (tabOf p r f).length = p := by simp [tabOf]
theorem rowOf_at {r : Nat} {f : Nat → Int} {j : Nat} (h : j < r) : (rowOf' r f)[j]? = some (f j) := by simp [rowOf', h]
theorem tabOf_at {p r : Nat} {f : Nat → Nat → Int} {i : Nat} (h : i < p) : (tabOf p r f)[i]? = some (rowOf' r (f i)) := by simp [tabOf, h]
theorem rowOf_congr {r : Nat} {f g : Nat → Int} (h : ∀ j, j < r → f j = g j) : rowOf' r f = rowOf' r g := List.map_congr_left fun j hj => h j (List.mem_range.1 hj)
theorem tabOf_congr {p r : Nat} {f g : Nat → Nat → Int} (h : ∀ i, i < p → ∀ j, j < r → f i j = g i j) : tabOf p r f = tabOf p r g := List.map_congr_left fun i hi => rowOf_congr fun j hj => h i (List.mem_range.1 hi) j hj
theorem rowOf_set (r : Nat) (f : Nat → Int) (j : Nat) (y : Int) : (rowOf' r f).set j y = rowOf' r (fun j' => if j' = j then y else f j') := by
  apply List.ext_getElem?
  intro k
  unfold rowOf'
  by_cases hk : k < r
  · by_cases hj : j = k
    · subst hj; simp [hk]
    · rw [List.getElem?_set_ne hj]; simp [hk, Ne.symm hj]
  · rw [List.getElem?_eq_none (by simp; omega), List.getElem?_eq_none (by simp; omega)]
theorem tabOf_set (p r : Nat) (f : Nat → Nat → Int) (i : Nat) (g : Nat → Int) : (tabOf p r f).set i (rowOf' r g) = tabOf p r (fun i' => if i' = i then g else f i') := by
  apply List.ext_getElem?
  intro k
  unfold tabOf
  by_cases hk : k < p
  · by_cases hj : i = k
    · subst hj; simp [hk]
    · rw [List.getElem?_set_ne hj]; simp [hk, Ne.symm hj]
  · rw [List.getElem?_eq_none (by simp; omega), List.getElem?_eq_none (by simp; omega)]
theorem tabOf_set2 (p r : Nat) (f : Nat → Nat → Int) (i j : Nat) (y : Int) : (tabOf p r f).set i ((rowOf' r (f i)).set j y) = tabOf p r (fun i' j' => if i' = i ∧ j' = j then y else f i' j') := by
  rw [rowOf_set, tabOf_set]
  refine tabOf_congr fun i' _ j' _ => ?_
  by_cases h : i' = i
  · subst h; by_cases h2 : j' = j <;> simp [h2]
  · simp [h]
theorem tabOf_take {p r : Nat} {f : Nat → Nat → Int} {i : Nat} (h : i < p) : (tabOf p r f).take i ++ [rowOf' r (f i)] = (tabOf p r f).take (i + 1) := by
  rw [List.take_add_one, tabOf_at h]; rfl
theorem take_snoc' {α : Type} {xs : List α} {i : Nat} {x : α} (h : xs[i]? = some x) : xs.take i ++ [x] = xs.take (i + 1) := by
  rw [List.take_add_one, h]; rfl
theorem rowOf_take {r : Nat} {f : Nat → Int} {i : Nat} (h : i < r) : (rowOf' r f).take i ++ [f i] = (rowOf' r f).take (i + 1) := take_snoc' (rowOf_at h)
theorem tabOf_full {p r : Nat} {f : Nat → Nat → Int} : (tabOf p r f).take p = tabOf p r f := List.take_of_length_le (by rw [tabOf_len]; exact Nat.le_refl _)
theorem rowOf_full {r : Nat} {f : Nat → Int} : (rowOf' r f).take r = rowOf' r f := List.take_of_length_le (by rw [rowOf_len]; exact Nat.le_refl _)
theorem rowOf_const (r : Nat) (c : Int) : rowOf' r (fun _ => c) = List.replicate r c := by
  unfold rowOf'
  apply List.ext_getElem?
  intro k
  by_cases hk : k < r <;> simp [hk]
theorem tabOf_const (p r : Nat) (c : Int) : tabOf p r (fun _ _ => c) = List.replicate p (List.replicate r c) := by
  unfold tabOf
  rw [show (fun (i : Nat) => rowOf' r ((fun _ _ => c) i)) = fun _ => List.replicate r c from funext fun _ => rowOf_const r c]
  apply List.ext_getElem?
  intro k
  by_cases hk : k < p <;> simp [hk]

/-- A row by its entries. -/
theorem row_eq (r : List Int) : r = rowOf' r.length (fun j => r.getD j 0) := by
  apply List.ext_getElem?
  intro k
  by_cases hk : k < r.length
  · rw [rowOf_at hk]; simp [List.getD, hk]
  · rw [List.getElem?_eq_none (by omega), List.getElem?_eq_none (by rw [rowOf_len]; omega)]
/-- A table with rows of one length by its entries. -/
theorem tab_eq {m : List (List Int)} {p r : Nat} (hp : m.length = p) (hr : ∀ x, x ∈ m → x.length = r) : m = tabOf p r (ent m) := by
  subst hp
  apply List.ext_getElem?
  intro k
  by_cases hk : k < m.length
  · rw [tabOf_at hk, List.getElem?_eq_getElem hk]
    have h1 := hr m[k] (List.getElem_mem hk)
    congr 1
    rw [row_eq m[k], h1]
    exact rowOf_congr fun j _ => by simp [ent, List.getD, hk]
  · rw [List.getElem?_eq_none (by omega), List.getElem?_eq_none (by rw [tabOf_len]; omega)]
theorem ent_tabOf {p r : Nat} {f : Nat → Nat → Int} {i j : Nat} (hi : i < p) (hj : j < r) : ent (tabOf p r f) i j = f i j := by
  simp [ent, List.getD, tabOf_at hi, rowOf_at hj]
theorem mem_tabOf {p r : Nat} {f : Nat → Nat → Int} {x : List Int} (h : x ∈ tabOf p r f) : x.length = r := by
  obtain ⟨i, _, rfl⟩ := List.mem_map.1 h
  exact rowOf_len _ _
theorem ent_mem {m : List (List Int)} {i j : Nat} {l : Nat} (hr : ∀ x, x ∈ m → x.length = l) (hi : i < m.length) (hj : j < l) : ∃ r, r ∈ m ∧ ent m i j ∈ r := by
  refine ⟨m[i], List.getElem_mem hi, ?_⟩
  have := hr m[i] (List.getElem_mem hi)
  simp [ent, List.getD, hi, show j < m[i].length by omega]


open Go.RowKit in
theorem EntAt.frame {w w' : World} {b o n l : Nat} {m : List (List Int)} (h : EntAt w b o n l m) (hb : b < w.heap.size) (hw : Below w.heap.size w w') : EntAt w' b o n l m := by
  intro i hi
  obtain ⟨a', c', h1, h2, h3⟩ := h i hi
  refine ⟨a', c', (hw.cell (p := ⟨b, o + i, none⟩) hb).trans h1, Ints.frame _ _ _ _ h2 hw, fun hl => ?_⟩
  obtain ⟨b', o', e, h4, h5⟩ := h3 hl
  exact ⟨b', o', e, Nat.lt_of_lt_of_le h4 hw.size, fun j hj => (hw.cell (p := ⟨b', o' + j, none⟩) h4).trans (h5 j hj)⟩

theorem mul_bd {x y B : Int} (hx : -B ≤ x ∧ x ≤ B) (hy : -B ≤ y ∧ y ≤ B) : -(B * B) ≤ x * y ∧ x * y ≤ B * B := by
  have h1 : x.natAbs ≤ B.natAbs := by omega
  have h2 : y.natAbs ≤ B.natAbs := by omega
  have h3 := Nat.mul_le_mul h1 h2
  rw [← Int.natAbs_mul, ← Int.natAbs_mul] at h3
  have h4 : 0 ≤ B * B := Int.mul_nonneg (by omega) (by omega)
  omega

/-- The sum of the first k products of row i and column j. -/
def dotU (a b : List (List Int)) (i j : Nat) : Nat → Int
  | 0 => 0
  | k + 1 => dotU a b i j k + ent a i k * ent b k j

def Bd (B : Int) (m : List (List Int)) : Prop := ∀ r, r ∈ m → ∀ x, x ∈ r → -B ≤ x ∧ x ≤ B

theorem Bd.ent {B : Int} {m : List (List Int)} (h : Bd B m) {l i j : Nat} (hr : ∀ x, x ∈ m → x.length = l) (hi : i < m.length) (hj : j < l) : -B ≤ ent m i j ∧ ent m i j ≤ B := by
  obtain ⟨r, h1, h2⟩ := ent_mem hr hi hj
  exact h r h1 _ h2

theorem dotU_bd {a b : List (List Int)} {p q r i j : Nat} (ha : Bd 1000000 a) (hb : Bd 1000000 b) (hap : a.length = p) (har : ∀ x, x ∈ a → x.length = q) (hbp : b.length = q) (hbr : ∀ x, x ∈ b → x.length = r) (hi : i < p) (hj : j < r) :
    ∀ k, k ≤ q → -(k * 1000000000000) ≤ dotU a b i j k ∧ dotU a b i j k ≤ k * 1000000000000 := by
  intro k
  induction k with
  | zero => intro _; simp [dotU]
  | succ k ih =>
    intro hk
    have h1 := ih (by omega)
    have h2 := mul_bd (ha.ent har (by omega : i < a.length) (by omega : k < q)) (hb.ent hbr (by omega : k < b.length) hj)
    unfold dotU
    omega

/-- A line of a product, its first j numbers one product further than the others. -/
def lineF (a b : List (List Int)) (i r k j : Nat) : List Int := rowOf' r (fun j' => dotU a b i j' (if j' < j then k + 1 else k))
theorem lineF_start (a b : List (List Int)) (i r : Nat) : lineF a b i r 0 0 = List.replicate r 0 := by
  rw [← rowOf_const]; exact rowOf_congr fun j _ => by simp [dotU]
theorem lineF_at {a b : List (List Int)} {i r k j : Nat} (hj : j < r) : (lineF a b i r k j)[j]? = some (dotU a b i j k) := by
  unfold lineF; rw [rowOf_at hj]; simp
theorem lineF_set {a b : List (List Int)} {i r k j : Nat} : (lineF a b i r k j).set j (dotU a b i j (k + 1)) = lineF a b i r k (j + 1) := by
  unfold lineF; rw [rowOf_set]
  refine rowOf_congr fun j' _ => ?_
  by_cases h : j' = j
  · subst h; simp
  · rw [if_neg h]
    by_cases h2 : j' < j
    · rw [if_pos h2, if_pos (by omega)]
    · rw [if_neg h2, if_neg (by omega)]
theorem lineF_end {a b : List (List Int)} {i r k : Nat} : lineF a b i r k r = lineF a b i r (k + 1) 0 := by
  unfold lineF
  exact rowOf_congr fun j hj => by rw [if_pos hj, if_neg (by omega)]
theorem lineF_full {a b : List (List Int)} {i r k : Nat} : lineF a b i r k 0 = rowOf' r (fun j => dotU a b i j k) := by
  unfold lineF
  exact rowOf_congr fun j hj => by rw [if_neg (by omega)]

/-- A product under way: entry (i, j) has its first k products, those before are whole, those behind are zero. -/
def prodF (a b : List (List Int)) (p q r i j k : Nat) : List (List Int) := tabOf p r (fun i' j' => dotU a b i' j' (if i' < i ∨ (i' = i ∧ j' < j) then q else if i' = i ∧ j' = j then k else 0))
def prodT (a b : List (List Int)) (p q r : Nat) : List (List Int) := tabOf p r (fun i j => dotU a b i j q)
theorem prodF_start (a b : List (List Int)) (p q r : Nat) : prodF a b p q r 0 0 0 = List.replicate p (List.replicate r 0) := by
  rw [← tabOf_const]
  exact tabOf_congr fun i _ j _ => by rw [if_neg (by omega)]; split <;> rfl
theorem prodF_row {a b : List (List Int)} {p q r i j k : Nat} (hi : i < p) : (prodF a b p q r i j k)[i]? = some (rowOf' r (fun j' => dotU a b i j' (if i < i ∨ (i = i ∧ j' < j) then q else if i = i ∧ j' = j then k else 0))) := by
  unfold prodF; rw [tabOf_at hi]
theorem prodF_at {a b : List (List Int)} {q r i j k : Nat} (hj : j < r) : (rowOf' r (fun j' => dotU a b i j' (if i < i ∨ (i = i ∧ j' < j) then q else if i = i ∧ j' = j then k else 0)))[j]? = some (dotU a b i j k) := by
  rw [rowOf_at hj]; simp
theorem prodF_set {a b : List (List Int)} {p q r i j k : Nat} :
    (prodF a b p q r i j k).set i ((rowOf' r (fun j' => dotU a b i j' (if i < i ∨ (i = i ∧ j' < j) then q else if i = i ∧ j' = j then k else 0))).set j (dotU a b i j (k + 1))) = prodF a b p q r i j (k + 1) := by
  unfold prodF
  rw [tabOf_set2 p r (fun i' j' => dotU a b i' j' (if i' < i ∨ (i' = i ∧ j' < j) then q else if i' = i ∧ j' = j then k else 0)) i j]
  refine tabOf_congr fun i' _ j' _ => ?_
  by_cases h : i' = i ∧ j' = j
  · obtain ⟨rfl, rfl⟩ := h; simp
  · rw [if_neg h]
    by_cases h2 : i' < i ∨ (i' = i ∧ j' < j)
    · rw [if_pos h2, if_pos h2]
    · rw [if_neg h2, if_neg h2, if_neg h, if_neg h]
theorem prodF_nextj {a b : List (List Int)} {p q r i j : Nat} : prodF a b p q r i j q = prodF a b p q r i (j + 1) 0 := by
  unfold prodF
  refine tabOf_congr fun i' _ j' _ => ?_
  congr 1
  by_cases h : i' = i ∧ j' = j
  · obtain ⟨rfl, rfl⟩ := h; simp
  · by_cases h2 : i' < i ∨ (i' = i ∧ j' < j)
    · rw [if_pos h2, if_pos (by omega)]
    · rw [if_neg h2, if_neg h, if_neg (by omega)]; split <;> rfl
theorem prodF_nexti {a b : List (List Int)} {p q r i : Nat} : prodF a b p q r i r 0 = prodF a b p q r (i + 1) 0 0 := by
  unfold prodF
  refine tabOf_congr fun i' _ j' hj' => ?_
  congr 1
  by_cases h2 : i' < i ∨ (i' = i ∧ j' < r)
  · rw [if_pos h2, if_pos (by omega)]
  · rw [if_neg h2, if_neg (show ¬ (i' < i + 1 ∨ (i' = i + 1 ∧ j' < 0)) from by omega)]; split <;> split <;> rfl
theorem prodF_end {a b : List (List Int)} {p q r : Nat} : prodF a b p q r p 0 0 = prodT a b p q r := by
  unfold prodF prodT
  exact tabOf_congr fun i' hi' j' _ => by rw [if_pos (by omega)]

theorem New.heap {α : Type} {R : OwnRel α} (hR : Kept R) {lo : Nat} {w w' : World} {v : Value} {x : α} (h : New R lo w v x) (e : w'.heap = w.heap) : New R lo w' v x := by
  obtain ⟨F, hF, hf⟩ := h
  exact ⟨F, hR.keep _ _ _ _ _ hF fun b _ => by rw [e], hf⟩

/-- A plain value of an own slice: its cell, and what a store leaves. -/
theorem New.val_at {α : Type} {f : α → Value} (hf : ∀ x, (f x).oneCell' = true) {e : TypeId} {lo : Nat} {w : World} {v : Value} {xs : List α} (h : New (OwnOf e (OValR f)) lo w v xs) {i : Nat} {x : α} (hx : xs[i]? = some x) :
    ∃ b c, v = .slice (some ⟨b, 0, none⟩) xs.length c ∧ xs.length ≤ c ∧ lo ≤ b ∧ b < w.heap.size ∧ w.cell? ⟨b, i, none⟩ = some (f x) ∧ w.frozen? ⟨b, i, none⟩ = false ∧
      ∀ y, New (OwnOf e (OValR f)) lo (w.setCell ⟨b, i, none⟩ (f y)) v (xs.set i y) := by
  have hK : Kept (OValR f) := ⟨fun _ _ _ _ _ h _ => h, fun _ _ _ _ h b hb => by rw [h.2] at hb; simp at hb, fun _ _ x _ h => by rw [h.1]; exact hf x⟩
  obtain ⟨F, hF, hn, hge⟩ := h
  obtain ⟨b, c, u, G, hv, hc, hbF, hbG, hcell, hfr, ⟨rfl, rfl⟩, _, _, _, hst⟩ := hF.focus hK hn hx
  refine ⟨b, c, hv, hc, hge b hbF, (OwnOf.kept hK).lt _ _ _ _ hF b hbF, hcell, hfr, fun y => ?_⟩
  obtain ⟨F', hF', hsub, hn', _⟩ := hst w (f y) y [] ⟨rfl, rfl⟩ (by simp) (fun _ _ _ => rfl)
  exact ⟨F', hF', hn' (by simp) (by simp), fun q hq => (hsub q hq).elim (hge q) (by simp)⟩

theorem OVal.kept {α : Type} {f : α → Value} (hf : ∀ x, (f x).oneCell' = true) : Kept (OValR f) :=
  ⟨fun _ _ _ _ _ h _ => h, fun _ _ _ _ h b hb => by rw [h.2] at hb; simp at hb, fun _ _ x _ h => by rw [h.1]; exact hf x⟩

/-- Which numbers below n are in a list. -/
def seenL (n : Nat) (seen : List Int) : List Bool := (List.range n).map fun (j : Nat) => seen.contains (j : Int)
theorem seenL_nil (n : Nat) : seenL n [] = List.replicate n false := by
  unfold seenL
  apply List.ext_getElem?
  intro k
  by_cases hk : k < n <;> simp [hk]
theorem seenL_at {n p : Nat} {seen : List Int} (h : p < n) : (seenL n seen)[p]? = some (seen.contains (p : Int)) := by simp [seenL, h]
theorem seenL_set {n p : Nat} {seen : List Int} : (seenL n seen).set p true = seenL n ((p : Int) :: seen) := by
  unfold seenL
  apply List.ext_getElem?
  intro k
  by_cases hk : k < n
  · by_cases hj : p = k
    · subst hj; simp [hk]
    · rw [List.getElem?_set_ne hj]
      simp [hk]
      omega
  · rw [List.getElem?_eq_none (by simp; omega), List.getElem?_eq_none (by simp; omega)]

/-- Each number from 0 to below n, none twice. -/
def namesL (n : Nat) : List Int → List Int → Bool
  | [], _ => true
  | x :: xs, seen => if 0 ≤ x ∧ x < n ∧ seen.contains x = false then namesL n xs (x :: seen) else false

theorem namesL_range {n : Nat} {xs seen : List Int} (h : namesL n xs seen = true) : ∀ x, x ∈ xs → 0 ≤ x ∧ x < n := by
  induction xs generalizing seen with
  | nil => simp
  | cons y ys ih =>
    unfold namesL at h
    split at h
    · rename_i hy
      intro x hx
      rcases List.mem_cons.1 hx with rfl | hx
      · exact ⟨hy.1, hy.2.1⟩
      · exact ih h x hx
    · cases h

theorem Sq.set {n : Nat} {m : List (List Int)} (h : Sq n m) {i : Nat} (hi : i < n) (j : Nat) (y : Int) : Sq n (m.set i ((m.getD i []).set j y)) := by
  refine ⟨by rw [List.length_set]; exact h.1, fun r hr => ?_⟩
  rcases List.mem_or_eq_of_mem_set hr with hr | hr
  · exact h.2 r hr
  · rw [hr, List.length_set]
    exact h.2 _ (by simp [List.getD, show i < m.length by have := h.1; omega])
theorem Sq.row {n : Nat} {m : List (List Int)} (h : Sq n m) {i : Nat} (hi : i < n) : m[i]? = some (m.getD i []) ∧ (m.getD i []).length = n := by
  have h1 : i < m.length := by have := h.1; omega
  have h2 : m[i]? = some (m.getD i []) := by simp [List.getD, h1]
  exact ⟨h2, h.2 _ (List.mem_of_getElem? h2)⟩
theorem Sq.entry {n : Nat} {m : List (List Int)} (h : Sq n m) {i j : Nat} (hi : i < n) (hj : j < n) : (m.getD i [])[j]? = some (ent m i j) := by
  have h1 := (h.row hi).2
  unfold ent
  generalize m.getD i [] = r at h1 ⊢
  simp [List.getD, show j < r.length by omega]
theorem Sq.zeros (n : Nat) : Sq n (List.replicate n (List.replicate n 0)) := ⟨by simp, fun r hr => by rw [(List.mem_replicate.1 hr).2]; simp⟩

/-- The table of zeros with its rows and columns filled by their new names, up to row i, column j. -/
def renJ (m : List (List Int)) (ps : List Nat) (out : List (List Int)) (i : Nat) : Nat → List (List Int)
  | 0 => out
  | j + 1 => (renJ m ps out i j).set (ps.getD i 0) (((renJ m ps out i j).getD (ps.getD i 0) []).set (ps.getD j 0) (ent m i j))
def renI (m : List (List Int)) (ps : List Nat) (n : Nat) : Nat → List (List Int)
  | 0 => List.replicate n (List.replicate n 0)
  | i + 1 => renJ m ps (renI m ps n i) i n

theorem renJ_sq {m : List (List Int)} {ps : List Nat} {n : Nat} {out : List (List Int)} (h : Sq n out) {i : Nat} (hp : ps.getD i 0 < n) (j : Nat) : Sq n (renJ m ps out i j) := by
  induction j with
  | zero => exact h
  | succ j ih => exact ih.set hp _ _
theorem renI_sq {m : List (List Int)} {ps : List Nat} {n : Nat} (hp : ∀ i, i < n → ps.getD i 0 < n) : ∀ i, i ≤ n → Sq n (renI m ps n i) := by
  intro i
  induction i with
  | zero => intro _; exact Sq.zeros n
  | succ i ih => intro hi; exact renJ_sq (ih (by omega)) (hp i (by omega)) n

end Go.Sd
