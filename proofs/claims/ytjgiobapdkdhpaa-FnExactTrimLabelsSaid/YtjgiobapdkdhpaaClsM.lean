/-
  Classes of states from which the same words are read: rounds of a relation, least members, numbers.
-/
import Derived.Test.YtjgiobapdkdhpaaBase
namespace Go.Sd
structure Eqv (R : Nat → Nat → Bool) : Prop where
  refl : ∀ p, R p p = true
  symm : ∀ p q, R p q = true → R q p = true
  trans : ∀ p q r, R p q = true → R q r = true → R p r = true
def sameO (R : Nat → Nat → Bool) : Option Nat → Option Nat → Bool
  | none, none => true
  | some a, some b => R a b
  | _, _ => false
def nextR (L : Nat) (to : Nat → Nat → Option Nat) (R : Nat → Nat → Bool) (p q : Nat) : Bool := R p q && (List.range L).all fun x => sameO R (to p x) (to q x)
def Rk (L : Nat) (to : Nat → Nat → Option Nat) : Nat → Nat → Nat → Bool
  | 0 => fun _ _ => true
  | k + 1 => nextR L to (Rk L to k)
def rep (R : Nat → Nat → Bool) (p : Nat) : Nat := ((List.range (p + 1)).find? fun q => R q p).getD p
def isRep (R : Nat → Nat → Bool) (p : Nat) : Bool := decide (rep R p = p)
def cntR (R : Nat → Nat → Bool) : Nat → Nat
  | 0 => 0
  | p + 1 => cntR R p + (if isRep R p = true then 1 else 0)
def num (R : Nat → Nat → Bool) (p : Nat) : Nat := cntR R (rep R p)
def pairsR (R : Nat → Nat → Bool) (n : Nat) : Nat := (List.range n).foldr (fun p s => ((List.range n).countP fun q => R p q) + s) 0
section
variable {L n : Nat} {to : Nat → Nat → Option Nat} {R R' : Nat → Nat → Bool}
theorem sameO_refl (h : Eqv R) (a : Option Nat) : sameO R a a = true := by cases a <;> simp [sameO, h.refl]
theorem sameO_symm (h : Eqv R) {a b : Option Nat} (e : sameO R a b = true) : sameO R b a = true := by
  cases a <;> cases b <;> simp [sameO] at e ⊢
  exact h.symm _ _ e
theorem sameO_trans (h : Eqv R) {a b c : Option Nat} (e : sameO R a b = true) (f : sameO R b c = true) : sameO R a c = true := by
  cases a <;> cases b <;> cases c <;> simp [sameO] at e f ⊢
  exact h.trans _ _ _ e f
theorem Eqv.next (h : Eqv R) : Eqv (nextR L to R) := by
  refine ⟨fun p => ?_, fun p q e => ?_, fun p q r e f => ?_⟩
  · unfold nextR
    simp only [Bool.and_eq_true, List.all_eq_true]
    exact ⟨h.refl p, fun x _ => sameO_refl h _⟩
  · unfold nextR at e ⊢
    simp only [Bool.and_eq_true, List.all_eq_true] at e ⊢
    exact ⟨h.symm _ _ e.1, fun x hx => sameO_symm h (e.2 x hx)⟩
  · unfold nextR at e f ⊢
    simp only [Bool.and_eq_true, List.all_eq_true] at e f ⊢
    exact ⟨h.trans _ _ _ e.1 f.1, fun x hx => sameO_trans h (e.2 x hx) (f.2 x hx)⟩
theorem Rk_eqv : ∀ k, Eqv (Rk L to k)
  | 0 => ⟨fun _ => rfl, fun _ _ _ => rfl, fun _ _ _ _ _ => rfl⟩
  | k + 1 => (Rk_eqv k).next
theorem nextR_sub {p q : Nat} (h : nextR L to R p q = true) : R p q = true := by
  unfold nextR at h
  simp only [Bool.and_eq_true] at h
  exact h.1
/-! Least members. -/
theorem rep_some (h : Eqv R) (p : Nat) : (List.range (p + 1)).find? (fun q => R q p) = some (rep R p) := by
  unfold rep
  cases hf : (List.range (p + 1)).find? (fun q => R q p) with
  | some q => rfl
  | none =>
    have := List.find?_eq_none.1 hf p (by simp)
    exact absurd (h.refl p) this
theorem rep_rel (h : Eqv R) (p : Nat) : R (rep R p) p = true := by have := List.find?_some (rep_some h p); simpa using this
theorem rep_le (h : Eqv R) (p : Nat) : rep R p ≤ p := by have := List.mem_of_find?_eq_some (rep_some h p); simp at this; omega
theorem rep_min (h : Eqv R) {p q : Nat} (e : R q p = true) : rep R p ≤ q := by
  by_cases hq : q ≤ p
  · have h1 := rep_some h p
    rw [List.find?_eq_some_iff_append] at h1
    obtain ⟨_, as, bs, hs, hn⟩ := h1
    by_cases hlt : q < rep R p
    · have hm : q ∈ as := by
        have hlen : as.length = rep R p := by
          have h2 : (List.range (p + 1))[as.length]? = some (rep R p) := by rw [hs]; simp
          obtain ⟨h3, h4⟩ := List.getElem?_eq_some_iff.1 h2
          simpa using h4
        have h3 : (List.range (p + 1))[q]? = some q := by rw [List.getElem?_range (by omega)]
        rw [hs, List.getElem?_append_left (by omega)] at h3
        exact List.mem_of_getElem? h3
      have := hn q hm
      simp [e] at this
    · omega
  · have := rep_le h p; omega
theorem rep_eq (h : Eqv R) {p q : Nat} : rep R p = rep R q ↔ R p q = true := by
  constructor
  · intro e
    have h1 := rep_rel h p
    have h2 := rep_rel h q
    rw [e] at h1
    exact h.trans _ _ _ (h.symm _ _ h1) h2
  · intro e
    have h1 : rep R q ≤ rep R p := rep_min h (h.trans _ _ _ (rep_rel h p) e)
    have h2 : rep R p ≤ rep R q := rep_min h (h.trans _ _ _ (rep_rel h q) (h.symm _ _ e))
    omega
theorem rep_rep (h : Eqv R) (p : Nat) : rep R (rep R p) = rep R p := (rep_eq h).2 (rep_rel h p)
theorem isRep_rep (h : Eqv R) (p : Nat) : isRep R (rep R p) = true := by unfold isRep; exact decide_eq_true (rep_rep h p)
theorem cntR_mono {a b : Nat} (h : a ≤ b) : cntR R a ≤ cntR R b := by
  induction b with
  | zero => have : a = 0 := by omega
            rw [this]; exact Nat.le_refl _
  | succ b ih =>
    by_cases e : a = b + 1
    · rw [e]; exact Nat.le_refl _
    · have h1 := ih (by omega)
      have h2 : cntR R (b + 1) = cntR R b + (if isRep R b = true then 1 else 0) := rfl
      omega
theorem cntR_lt {a b : Nat} (hr : isRep R a = true) (h : a < b) : cntR R a < cntR R b := by
  have h1 : cntR R (a + 1) = cntR R a + 1 := by show cntR R a + _ = _; rw [if_pos hr]
  have h2 := cntR_mono (R := R) (show a + 1 ≤ b from h)
  omega
theorem cntR_le (R : Nat → Nat → Bool) (p : Nat) : cntR R p ≤ p := by
  induction p with
  | zero => exact Nat.le_refl _
  | succ p ih => unfold cntR; split <;> omega
theorem num_eq (h : Eqv R) {p q : Nat} : num R p = num R q ↔ R p q = true := by
  rw [← rep_eq h]
  constructor
  · intro e
    unfold num at e
    rcases Nat.lt_trichotomy (rep R p) (rep R q) with hl | he | hl
    · have := cntR_lt (isRep_rep h p) hl; omega
    · exact he
    · have := cntR_lt (isRep_rep h q) hl; omega
  · intro e; unfold num; rw [e]
theorem num_rep {p : Nat} (hr : rep R p = p) : num R p = cntR R p := by unfold num; rw [hr]
theorem num_lt (h : Eqv R) {p : Nat} (hr : ¬ rep R p = p) : num R p < cntR R p := by
  have := rep_le h p
  exact cntR_lt (isRep_rep h p) (by omega)
theorem num_lt_all (h : Eqv R) {p : Nat} (hp : p < n) : num R p < cntR R n := by
  have := rep_le h p
  exact cntR_lt (isRep_rep h p) (by omega)
theorem num_le (R : Nat → Nat → Bool) (p : Nat) (h : Eqv R) : num R p ≤ p := by have := cntR_le R (rep R p); have := rep_le h p; unfold num; omega
/-! What is alike on the first n has the same members and numbers. -/
def Same (n : Nat) (R R' : Nat → Nat → Bool) : Prop := ∀ p q, p < n → q < n → R p q = R' p q
theorem Same.symm (h : Same n R R') : Same n R' R := fun p q hp hq => (h p q hp hq).symm
theorem Same.rep (h : Same n R R') {p : Nat} (hp : p < n) : rep R p = rep R' p := by
  unfold Go.Sd.rep
  congr 1
  have : ∀ q, q ∈ List.range (p + 1) → R q p = R' q p := fun q hq => h q p (by simp at hq; omega) hp
  revert this
  generalize List.range (p + 1) = l
  intro this
  induction l with
  | nil => rfl
  | cons q l ih =>
    rw [List.find?_cons, List.find?_cons, this q (by simp), ih fun q hq => this q (by simp [hq])]
theorem Same.cnt (h : Same n R R') : ∀ {p : Nat}, p ≤ n → cntR R p = cntR R' p
  | 0, _ => rfl
  | p + 1, hp => by
    unfold cntR
    rw [Same.cnt h (p := p) (by omega)]
    unfold isRep
    rw [h.rep (by omega)]
theorem Same.num (h : Same n R R') (he : Eqv R') {p : Nat} (hp : p < n) : num R p = num R' p := by
  unfold Go.Sd.num
  rw [h.rep hp]
  have := rep_le he p
  exact h.cnt (by omega)
theorem Same.next (h : Same n R R') (ht : ∀ p x q, to p x = some q → q < n) : Same n (nextR L to R) (nextR L to R') := by
  intro p q hp hq
  unfold nextR
  rw [h p q hp hq]
  congr 1
  have : ∀ x, sameO R (to p x) (to q x) = sameO R' (to p x) (to q x) := by
    intro x
    cases h1 : to p x <;> cases h2 : to q x <;> simp [sameO]
    exact h _ _ (ht _ _ _ h1) (ht _ _ _ h2)
  exact List.all_congr rfl fun x => this x
/-! Rounds end. -/
theorem countP_le' {f g : Nat → Bool} : ∀ (l : List Nat), (∀ q, q ∈ l → g q = true → f q = true) → l.countP g ≤ l.countP f ∧ (l.countP g = l.countP f → ∀ q, q ∈ l → g q = f q)
  | [], _ => ⟨Nat.le_refl _, fun _ q hq => by cases hq⟩
  | q :: l, h => by
    have ih := countP_le' l (fun q' hq' => h q' (by simp [hq']))
    have h0 := h q (by simp)
    simp only [List.countP_cons]
    cases hg : g q <;> cases hf : f q
    · simp only [Bool.false_eq_true, if_false]
      exact ⟨by omega, fun e q' hq' => by rcases List.mem_cons.1 hq' with rfl | hq'; exact hg.trans hf.symm; exact ih.2 (by omega) q' hq'⟩
    · simp only [Bool.false_eq_true, if_false, if_true]
      exact ⟨by omega, fun e => by omega⟩
    · exact absurd (h0 hg) (by rw [hf]; simp)
    · simp only [if_true]
      exact ⟨by omega, fun e q' hq' => by rcases List.mem_cons.1 hq' with rfl | hq'; exact hg.trans hf.symm; exact ih.2 (by omega) q' hq'⟩
theorem pairs_sub (h : ∀ p q, R' p q = true → R p q = true) : pairsR R' n ≤ pairsR R n ∧ (pairsR R' n = pairsR R n → Same n R R') := by
  have key : ∀ (l : List Nat), (l.foldr (fun p s => ((List.range n).countP fun q => R' p q) + s) 0) ≤ (l.foldr (fun p s => ((List.range n).countP fun q => R p q) + s) 0) ∧
      ((l.foldr (fun p s => ((List.range n).countP fun q => R' p q) + s) 0) = (l.foldr (fun p s => ((List.range n).countP fun q => R p q) + s) 0) → ∀ p, p ∈ l → ∀ q, q < n → R p q = R' p q) := by
    intro l
    induction l with
    | nil => exact ⟨Nat.le_refl _, fun _ p hp => by cases hp⟩
    | cons a l ih =>
      have h1 := countP_le' (f := fun q => R a q) (g := fun q => R' a q) (List.range n) (fun q _ => h a q)
      simp only [List.foldr_cons]
      refine ⟨by omega, fun e p hp q hq => ?_⟩
      rcases List.mem_cons.1 hp with rfl | hp
      · exact (h1.2 (by omega) q (by simpa using hq)).symm
      · exact ih.2 (by omega) p hp q hq
  have := key (List.range n)
  exact ⟨this.1, fun e p q hp hq => this.2 e p (by simpa using hp) q hq⟩
theorem pairs_start : pairsR (fun _ _ => true) n = n * n := by
  unfold pairsR
  have : ∀ (l : List Nat), l.foldr (fun p s => ((List.range n).countP fun _ => true) + s) 0 = l.length * n := by
    intro l
    induction l with
    | nil => simp
    | cons a l ih => simp only [List.foldr_cons, ih, List.length_cons, Nat.add_mul]; simp; omega
  rw [this]; simp
/-- After k rounds that all changed something. -/
def Rnds (L : Nat) (to : Nat → Nat → Option Nat) (n k : Nat) : Prop := pairsR (Rk L to k) n + k ≤ n * n
theorem Rnds.start : Rnds L to n 0 := by unfold Rnds; have := pairs_start (n := n); show pairsR (fun _ _ => true) n + 0 ≤ _; omega
theorem Rnds.step {k : Nat} (h : Rnds L to n k) (hn : ¬ Same n (Rk L to k) (Rk L to (k + 1))) : Rnds L to n (k + 1) ∧ pairsR (Rk L to (k + 1)) n < pairsR (Rk L to k) n := by
  have := pairs_sub (R := Rk L to k) (R' := Rk L to (k + 1)) (n := n) (fun p q h => nextR_sub h)
  have h2 : pairsR (Rk L to (k + 1)) n ≠ pairsR (Rk L to k) n := fun e => hn (this.2 e)
  unfold Rnds at *
  exact ⟨by omega, by omega⟩
theorem Rnds.stop {k : Nat} (hs : Same n (Rk L to k) (Rk L to (k + 1))) (ht : ∀ p x q, to p x = some q → q < n) : ∀ j, Same n (Rk L to k) (Rk L to (k + j))
  | 0 => fun _ _ _ _ => rfl
  | j + 1 => by
    have ih := Rnds.stop hs ht j
    have h1 : Same n (Rk L to (k + 1)) (Rk L to (k + (j + 1))) := ih.next (L := L) ht
    intro p q hp hq
    rw [hs p q hp hq]
    exact h1 p q hp hq
theorem Rnds.fin {k : Nat} (h : Rnds L to n k) (hs : Same n (Rk L to k) (Rk L to (k + 1))) (ht : ∀ p x q, to p x = some q → q < n) : Same n (Rk L to k) (Rk L to (n * n)) := by
  have h1 := Rnds.stop hs ht (n * n - k)
  unfold Rnds at h
  rw [show k + (n * n - k) = n * n by omega] at h1
  exact h1
/-! Lists. -/
def numL (R : Nat → Nat → Bool) (n : Nat) : List Int := (List.range n).map fun p => (num R p : Int)
def repL (R : Nat → Nat → Bool) (n : Nat) : List Int := (List.range n).map fun p => (rep R p : Int)
theorem numL_at {p : Nat} (h : p < n) : (numL R n)[p]? = some (num R p : Int) := by unfold numL; rw [List.getElem?_map, List.getElem?_range h]; rfl
theorem repL_at {p : Nat} (h : p < n) : (repL R n)[p]? = some (rep R p : Int) := by unfold repL; rw [List.getElem?_map, List.getElem?_range h]; rfl
theorem numL_len : (numL R n).length = n := by simp [numL]
theorem repL_len : (repL R n).length = n := by simp [repL]
theorem numL_succ : numL R (n + 1) = numL R n ++ [(num R n : Int)] := by simp [numL, List.range_succ]
theorem numL_same (h : Same n R R') (he : Eqv R') : numL R n = numL R' n := List.map_congr_left fun p hp => by rw [h.num he (by simpa using hp)]
theorem repL_same (h : Same n R R') : repL R n = repL R' n := List.map_congr_left fun p hp => by rw [h.rep (by simpa using hp)]
theorem same_of_numL (h1 : Eqv R) (h2 : Eqv R') (e : ∀ p, p < n → num R p = num R' p) : Same n R R' := by
  intro p q hp hq
  have a := num_eq h1 (p := p) (q := q)
  have b := num_eq h2 (p := p) (q := q)
  rw [e p hp, e q hq, b] at a
  cases h3 : R p q <;> cases h4 : R' p q <;> simp_all
theorem same_of_repL (h1 : Eqv R) (h2 : Eqv R') (e : ∀ p, p < n → rep R p = rep R' p) : Same n R R' := by
  intro p q hp hq
  have a := rep_eq h1 (p := p) (q := q)
  have b := rep_eq h2 (p := p) (q := q)
  rw [e p hp, e q hq, b] at a
  cases h3 : R p q <;> cases h4 : R' p q <;> simp_all
theorem numL_zero : numL (fun _ _ => true) n = List.replicate n 0 := by
  apply List.ext_getElem?
  intro i
  by_cases h : i < n
  · have he : Eqv (fun (_ _ : Nat) => true) := ⟨fun _ => rfl, fun _ _ _ => rfl, fun _ _ _ _ _ => rfl⟩
    have h0 : rep (fun _ _ => true) i = 0 := by have := rep_min he (p := i) (q := 0) rfl; omega
    rw [numL_at h, List.getElem?_replicate, if_pos h]
    unfold num
    rw [h0]; rfl
  · rw [List.getElem?_eq_none (by rw [numL_len]; omega), List.getElem?_eq_none (by simp; omega)]
theorem repL_zero : repL (fun _ _ => true) n = List.replicate n 0 := by
  apply List.ext_getElem?
  intro i
  by_cases h : i < n
  · have he : Eqv (fun (_ _ : Nat) => true) := ⟨fun _ => rfl, fun _ _ _ => rfl, fun _ _ _ _ _ => rfl⟩
    have h0 : rep (fun _ _ => true) i = 0 := by have := rep_min he (p := i) (q := 0) rfl; omega
    rw [repL_at h, List.getElem?_replicate, if_pos h, h0]; rfl
  · rw [List.getElem?_eq_none (by rw [repL_len]; omega), List.getElem?_eq_none (by simp; omega)]
/-- The first alike below p is the least one; if there is none, p is new. -/
theorem rep_first (h : Eqv R) {p q : Nat} (hq : q < p) (hr : R p q = true) (hn : ∀ j, j < q → R p j = false) : rep R p = q := by
  have h1 := rep_min h (h.symm _ _ hr)
  by_cases e : rep R p = q
  · exact e
  · have h2 := hn (rep R p) (by omega)
    rw [h.symm _ _ (rep_rel h p)] at h2
    cases h2
theorem rep_new (h : Eqv R) {p : Nat} (hn : ∀ j, j < p → R p j = false) : rep R p = p := by
  have h1 := rep_le h p
  by_cases e : rep R p = p
  · exact e
  · have h2 := hn (rep R p) (by omega)
    rw [h.symm _ _ (rep_rel h p)] at h2
    cases h2
end
end Go.Sd
