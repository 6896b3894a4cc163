/-
  Texts of this claim joined: laws for its walks, contracts of the functions that the law reaches.
-/
import Derived.Test.YtdohepngandajaaResolveLabelsM1
import Derived.Test.YtdohepngandajaaRows
import Derived.Test.YtdohepngandajaaResolveLabelsM2
import Derived.Test.YtdohepngandajaaResolveLabelsM3
import Derived.Test.YtdohepngandajaaResolveLabelsM4
import Derived.Test.YtdohepngandajaaResolveLabelsM5
import Derived.Test.YtdohepngandajaaResolveLabelsM7
import Derived.Test.YtdohepngandajaaResolveLabelsM6
import Derived.Deep.RegionHeld3
import Derived.Deep.DeepCutAuto
import Derived.OrdersHeld
section
/-
  Classes of states from which the same words are read: rounds of a relation, least members, numbers.
-/
namespace Go.Sd
structure Eqv (R : Nat → Nat → Bool) : Prop where
  refl : ∀ p, R p p = true
  symm : ∀ p q, R p q = true → R q p = true
  trans : ∀ p q r, R p q = true → R q r = true → R p r = true
def sameO (R : Nat → Nat → Bool) : Option Nat → Option Nat → Bool
  | none, none => true
  | some a, some b => R a b
  | _, _ => false
def nextR (L : Nat) (tg : Nat → Nat → Option Nat) (R : Nat → Nat → Bool) (p q : Nat) : Bool := R p q && (List.range L).all fun x => sameO R (tg p x) (tg q x)
def Rk (L : Nat) (tg : Nat → Nat → Option Nat) : Nat → Nat → Nat → Bool
  | 0 => fun _ _ => true
  | k + 1 => nextR L tg (Rk L tg k)
def rep (R : Nat → Nat → Bool) (p : Nat) : Nat := ((List.range (p + 1)).find? fun q => R q p).getD p
def isRep (R : Nat → Nat → Bool) (p : Nat) : Bool := decide (rep R p = p)
def cntR (R : Nat → Nat → Bool) : Nat → Nat
  | 0 => 0
  | p + 1 => cntR R p + (if isRep R p = true then 1 else 0)
def num (R : Nat → Nat → Bool) (p : Nat) : Nat := cntR R (rep R p)
def pairsR (R : Nat → Nat → Bool) (n : Nat) : Nat := (List.range n).foldr (fun p s => ((List.range n).countP fun q => R p q) + s) 0
section
variable {L n : Nat} {tg : Nat → Nat → Option Nat} {R R' : Nat → Nat → Bool}
theorem sameO_refl (h : Eqv R) (a : Option Nat) : sameO R a a = true := by cases a <;> simp [sameO, h.refl]
theorem sameO_symm (h : Eqv R) {a b : Option Nat} (e : sameO R a b = true) : sameO R b a = true := by
  cases a <;> cases b <;> simp [sameO] at e ⊢
  exact h.symm _ _ e
theorem sameO_trans (h : Eqv R) {a b c : Option Nat} (e : sameO R a b = true) (f : sameO R b c = true) : sameO R a c = true := by
  cases a <;> cases b <;> cases c <;> simp [sameO] at e f ⊢
  exact h.trans _ _ _ e f
theorem Eqv.next (h : Eqv R) : Eqv (nextR L tg R) := by
  refine ⟨fun p => ?_, fun p q e => ?_, fun p q r e f => ?_⟩
  · unfold nextR
    simp only [Bool.and_eq_true, List.all_eq_true]
    exact ⟨h.refl p, fun x _ => sameO_refl h _⟩
  · unfold nextR at e ⊢
    simp only [Bool.and_eq_true, List.all_eq_true] at e ⊢
    exact ⟨h.symm _ _ e.1, fun x hx => sameO_symm h (e.2 x hx)⟩
  · unfold nextR at e f ⊢
    simp only [Bool.and_eq_true, List.all_eq_true] at e f ⊢
    exact ⟨h.trans _ _ _ e.1 f.1, fun x hx => sameO_trans h (e.2 x hx) (f.2 x hx)⟩
theorem Rk_eqv : ∀ k, Eqv (Rk L tg k)
  | 0 => ⟨fun _ => rfl, fun _ _ _ => rfl, fun _ _ _ _ _ => rfl⟩
  | k + 1 => (Rk_eqv k).next
theorem nextR_sub {p q : Nat} (h : nextR L tg R p q = true) : R p q = true := by
  unfold nextR at h
  simp only [Bool.and_eq_true] at h
  exact h.1
/-! Least members. -/
theorem rep_some (h : Eqv R) (p : Nat) : (List.range (p + 1)).find? (fun q => R q p) = some (rep R p) := by
  unfold rep
  cases hf : (List.range (p + 1)).find? (fun q => R q p) with
  | some q => rfl
  | none =>
    have := List.find?_eq_none.1 hf p (by simp)
    exact absurd (h.refl p) this
theorem rep_rel (h : Eqv R) (p : Nat) : R (rep R p) p = true := by have := List.find?_some (rep_some h p); simpa using this
theorem rep_le (h : Eqv R) (p : Nat) : rep R p ≤ p := by have := List.mem_of_find?_eq_some (rep_some h p); simp at this; omega
theorem rep_min (h : Eqv R) {p q : Nat} (e : R q p = true) : rep R p ≤ q := by
  by_cases hq : q ≤ p
  · have h1 := rep_some h p
    rw [List.find?_eq_some_iff_append] at h1
    obtain ⟨_, zs, bs, hs, hn⟩ := h1
    by_cases hlt : q < rep R p
    · have hm : q ∈ zs := by
        have hlen : zs.length = rep R p := by
          have h2 : (List.range (p + 1))[zs.length]? = some (rep R p) := by rw [hs]; simp
          obtain ⟨h3, h4⟩ := List.getElem?_eq_some_iff.1 h2
          simpa using h4
        have h3 : (List.range (p + 1))[q]? = some q := by rw [List.getElem?_range (by omega)]
        rw [hs, List.getElem?_append_left (by omega)] at h3
        exact List.mem_of_getElem? h3
      have := hn q hm
      simp [e] at this
    · omega
  · have := rep_le h p; omega
theorem rep_eq (h : Eqv R) {p q : Nat} : rep R p = rep R q ↔ R p q = true := by
  constructor
  · intro e
    have h1 := rep_rel h p
    have h2 := rep_rel h q
    rw [e] at h1
    exact h.trans _ _ _ (h.symm _ _ h1) h2
  · intro e
    have h1 : rep R q ≤ rep R p := rep_min h (h.trans _ _ _ (rep_rel h p) e)
    have h2 : rep R p ≤ rep R q := rep_min h (h.trans _ _ _ (rep_rel h q) (h.symm _ _ e))
    omega
theorem rep_rep (h : Eqv R) (p : Nat) : rep R (rep R p) = rep R p := (rep_eq h).2 (rep_rel h p)
theorem isRep_rep (h : Eqv R) (p : Nat) : isRep R (rep R p) = true := by unfold isRep; exact decide_eq_true (rep_rep h p)
theorem cntR_mono {a b : Nat} (h : a ≤ b) : cntR R a ≤ cntR R b := by
  induction b with
  | zero => have : a = 0 := by omega
            rw [this]; exact Nat.le_refl _
  | succ b ih =>
    by_cases e : a = b + 1
    · rw [e]; exact Nat.le_refl _
    · have h1 := ih (by omega)
      have h2 : cntR R (b + 1) = cntR R b + (if isRep R b = true then 1 else 0) := rfl
      omega
theorem cntR_lt {a b : Nat} (hr : isRep R a = true) (h : a < b) : cntR R a < cntR R b := by
  have h1 : cntR R (a + 1) = cntR R a + 1 := by show cntR R a + _ = _; rw [if_pos hr]
  have h2 := cntR_mono (R := R) (show a + 1 ≤ b from h)
  omega
theorem cntR_le (R : Nat → Nat → Bool) (p : Nat) : cntR R p ≤ p := by
  induction p with
  | zero => exact Nat.le_refl _
  | succ p ih => unfold cntR; split <;> omega
theorem num_eq (h : Eqv R) {p q : Nat} : num R p = num R q ↔ R p q = true := by
  rw [← rep_eq h]
  constructor
  · intro e
    unfold num at e
    rcases Nat.lt_trichotomy (rep R p) (rep R q) with hl | he | hl
    · have := cntR_lt (isRep_rep h p) hl; omega
    · exact he
    · have := cntR_lt (isRep_rep h q) hl; omega
  · intro e; unfold num; rw [e]
theorem num_rep {p : Nat} (hr : rep R p = p) : num R p = cntR R p := by unfold num; rw [hr]
theorem num_lt (h : Eqv R) {p : Nat} (hr : ¬ rep R p = p) : num R p < cntR R p := by
  have := rep_le h p
  exact cntR_lt (isRep_rep h p) (by omega)
theorem num_lt_all (h : Eqv R) {p : Nat} (hp : p < n) : num R p < cntR R n := by
  have := rep_le h p
  exact cntR_lt (isRep_rep h p) (by omega)
theorem num_le (R : Nat → Nat → Bool) (p : Nat) (h : Eqv R) : num R p ≤ p := by have := cntR_le R (rep R p); have := rep_le h p; unfold num; omega
/-! What is alike on the first n has the same members and numbers. -/
def Same (n : Nat) (R R' : Nat → Nat → Bool) : Prop := ∀ p q, p < n → q < n → R p q = R' p q
theorem Same.symm (h : Same n R R') : Same n R' R := fun p q hp hq => (h p q hp hq).symm
theorem Same.rep (h : Same n R R') {p : Nat} (hp : p < n) : rep R p = rep R' p := by
  unfold Go.Sd.rep
  congr 1
  have : ∀ q, q ∈ List.range (p + 1) → R q p = R' q p := fun q hq => h q p (by simp at hq; omega) hp
  revert this
  generalize List.range (p + 1) = l
  intro this
  induction l with
  | nil => rfl
  | cons q l ih =>
    rw [List.find?_cons, List.find?_cons, this q (by simp), ih fun q hq => this q (by simp [hq])]
theorem Same.cnt (h : Same n R R') : ∀ {p : Nat}, p ≤ n → cntR R p = cntR R' p
  | 0, _ => rfl
  | p + 1, hp => by
    unfold cntR
    rw [Same.cnt h (p := p) (by omega)]
    unfold isRep
    rw [h.rep (by omega)]
theorem Same.num (h : Same n R R') (he : Eqv R') {p : Nat} (hp : p < n) : num R p = num R' p := by
  unfold Go.Sd.num
  rw [h.rep hp]
  have := rep_le he p
  exact h.cnt (by omega)
theorem Same.next (h : Same n R R') (ht : ∀ p x q, tg p x = some q → q < n) : Same n (nextR L tg R) (nextR L tg R') := by
  intro p q hp hq
  unfold nextR
  rw [h p q hp hq]
  congr 1
  have : ∀ x, sameO R (tg p x) (tg q x) = sameO R' (tg p x) (tg q x) := by
    intro x
    cases h1 : tg p x <;> cases h2 : tg q x <;> simp [sameO]
    exact h _ _ (ht _ _ _ h1) (ht _ _ _ h2)
  exact List.all_congr rfl fun x => this x
/-! Rounds end. -/
theorem countP_le' {f g : Nat → Bool} : ∀ (l : List Nat), (∀ q, q ∈ l → g q = true → f q = true) → l.countP g ≤ l.countP f ∧ (l.countP g = l.countP f → ∀ q, q ∈ l → g q = f q)
  | [], _ => ⟨Nat.le_refl _, fun _ q hq => by cases hq⟩
  | q :: l, h => by
    have ih := countP_le' l (fun q' hq' => h q' (by simp [hq']))
    have h0 := h q (by simp)
    simp only [List.countP_cons]
    cases hg : g q <;> cases hf : f q
    · simp only [Bool.false_eq_true, if_false]
      exact ⟨by omega, fun e q' hq' => by rcases List.mem_cons.1 hq' with rfl | hq'; exact hg.trans hf.symm; exact ih.2 (by omega) q' hq'⟩
    · simp only [Bool.false_eq_true, if_false, if_true]
      exact ⟨by omega, fun e => by omega⟩
    · exact absurd (h0 hg) (by rw [hf]; simp)
    · simp only [if_true]
      exact ⟨by omega, fun e q' hq' => by rcases List.mem_cons.1 hq' with rfl | hq'; exact hg.trans hf.symm; exact ih.2 (by omega) q' hq'⟩
theorem pairs_sub (h : ∀ p q, R' p q = true → R p q = true) : pairsR R' n ≤ pairsR R n ∧ (pairsR R' n = pairsR R n → Same n R R') := by
  have key : ∀ (l : List Nat), (l.foldr (fun p s => ((List.range n).countP fun q => R' p q) + s) 0) ≤ (l.foldr (fun p s => ((List.range n).countP fun q => R p q) + s) 0) ∧
      ((l.foldr (fun p s => ((List.range n).countP fun q => R' p q) + s) 0) = (l.foldr (fun p s => ((List.range n).countP fun q => R p q) + s) 0) → ∀ p, p ∈ l → ∀ q, q < n → R p q = R' p q) := by
    intro l
    induction l with
    | nil => exact ⟨Nat.le_refl _, fun _ p hp => by cases hp⟩
    | cons a l ih =>
      have h1 := countP_le' (f := fun q => R a q) (g := fun q => R' a q) (List.range n) (fun q _ => h a q)
      simp only [List.foldr_cons]
      refine ⟨by omega, fun e p hp q hq => ?_⟩
      rcases List.mem_cons.1 hp with rfl | hp
      · exact (h1.2 (by omega) q (by simpa using hq)).symm
      · exact ih.2 (by omega) p hp q hq
  have := key (List.range n)
  exact ⟨this.1, fun e p q hp hq => this.2 e p (by simpa using hp) q hq⟩
theorem pairs_start : pairsR (fun _ _ => true) n = n * n := by
  unfold pairsR
  have : ∀ (l : List Nat), l.foldr (fun p s => ((List.range n).countP fun _ => true) + s) 0 = l.length * n := by
    intro l
    induction l with
    | nil => simp
    | cons a l ih => simp only [List.foldr_cons, ih, List.length_cons, Nat.add_mul]; simp; omega
  rw [this]; simp
/-- After k rounds that all changed something. -/
def Rnds (L : Nat) (tg : Nat → Nat → Option Nat) (n k : Nat) : Prop := pairsR (Rk L tg k) n + k ≤ n * n
theorem Rnds.start : Rnds L tg n 0 := by unfold Rnds; have := pairs_start (n := n); show pairsR (fun _ _ => true) n + 0 ≤ _; omega
theorem Rnds.step {k : Nat} (h : Rnds L tg n k) (hn : ¬ Same n (Rk L tg k) (Rk L tg (k + 1))) : Rnds L tg n (k + 1) ∧ pairsR (Rk L tg (k + 1)) n < pairsR (Rk L tg k) n := by
  have := pairs_sub (R := Rk L tg k) (R' := Rk L tg (k + 1)) (n := n) (fun p q h => nextR_sub h)
  have h2 : pairsR (Rk L tg (k + 1)) n ≠ pairsR (Rk L tg k) n := fun e => hn (this.2 e)
  unfold Rnds at *
  exact ⟨by omega, by omega⟩
theorem Rnds.stop {k : Nat} (hs : Same n (Rk L tg k) (Rk L tg (k + 1))) (ht : ∀ p x q, tg p x = some q → q < n) : ∀ j, Same n (Rk L tg k) (Rk L tg (k + j))
  | 0 => fun _ _ _ _ => rfl
  | j + 1 => by
    have ih := Rnds.stop hs ht j
    have h1 : Same n (Rk L tg (k + 1)) (Rk L tg (k + (j + 1))) := ih.next (L := L) ht
    intro p q hp hq
    rw [hs p q hp hq]
    exact h1 p q hp hq
theorem Rnds.fin {k : Nat} (h : Rnds L tg n k) (hs : Same n (Rk L tg k) (Rk L tg (k + 1))) (ht : ∀ p x q, tg p x = some q → q < n) : Same n (Rk L tg k) (Rk L tg (n * n)) := by
  have h1 := Rnds.stop hs ht (n * n - k)
  unfold Rnds at h
  rw [show k + (n * n - k) = n * n by omega] at h1
  exact h1
/-! Lists. -/
def numL (R : Nat → Nat → Bool) (n : Nat) : List Int := (List.range n).map fun p => (num R p : Int)
def repL (R : Nat → Nat → Bool) (n : Nat) : List Int := (List.range n).map fun p => (rep R p : Int)
theorem numL_at {p : Nat} (h : p < n) : (numL R n)[p]? = some (num R p : Int) := by unfold numL; rw [List.getElem?_map, List.getElem?_range h]; rfl
theorem repL_at {p : Nat} (h : p < n) : (repL R n)[p]? = some (rep R p : Int) := by unfold repL; rw [List.getElem?_map, List.getElem?_range h]; rfl
theorem numL_len : (numL R n).length = n := by simp [numL]
theorem repL_len : (repL R n).length = n := by simp [repL]
theorem numL_succ : numL R (n + 1) = numL R n ++ [(num R n : Int)] := by simp [numL, List.range_succ]
theorem numL_same (h : Same n R R') (he : Eqv R') : numL R n = numL R' n := List.map_congr_left fun p hp => by rw [h.num he (by simpa using hp)]
theorem repL_same (h : Same n R R') : repL R n = repL R' n := List.map_congr_left fun p hp => by rw [h.rep (by simpa using hp)]
theorem same_of_numL (h1 : Eqv R) (h2 : Eqv R') (e : ∀ p, p < n → num R p = num R' p) : Same n R R' := by
  intro p q hp hq
  have a := num_eq h1 (p := p) (q := q)
  have b := num_eq h2 (p := p) (q := q)
  rw [e p hp, e q hq, b] at a
  cases h3 : R p q <;> cases h4 : R' p q <;> simp_all
theorem same_of_repL (h1 : Eqv R) (h2 : Eqv R') (e : ∀ p, p < n → rep R p = rep R' p) : Same n R R' := by
  intro p q hp hq
  have a := rep_eq h1 (p := p) (q := q)
  have b := rep_eq h2 (p := p) (q := q)
  rw [e p hp, e q hq, b] at a
  cases h3 : R p q <;> cases h4 : R' p q <;> simp_all
theorem numL_zero : numL (fun _ _ => true) n = List.replicate n 0 := by
  apply List.ext_getElem?
  intro i
  by_cases h : i < n
  · have he : Eqv (fun (_ _ : Nat) => true) := ⟨fun _ => rfl, fun _ _ _ => rfl, fun _ _ _ _ _ => rfl⟩
    have h0 : rep (fun _ _ => true) i = 0 := by have := rep_min he (p := i) (q := 0) rfl; omega
    rw [numL_at h, List.getElem?_replicate, if_pos h]
    unfold num
    rw [h0]; rfl
  · rw [List.getElem?_eq_none (by rw [numL_len]; omega), List.getElem?_eq_none (by simp; omega)]
theorem repL_zero : repL (fun _ _ => true) n = List.replicate n 0 := by
  apply List.ext_getElem?
  intro i
  by_cases h : i < n
  · have he : Eqv (fun (_ _ : Nat) => true) := ⟨fun _ => rfl, fun _ _ _ => rfl, fun _ _ _ _ _ => rfl⟩
    have h0 : rep (fun _ _ => true) i = 0 := by have := rep_min he (p := i) (q := 0) rfl; omega
    rw [repL_at h, List.getElem?_replicate, if_pos h, h0]; rfl
  · rw [List.getElem?_eq_none (by rw [repL_len]; omega), List.getElem?_eq_none (by simp; omega)]
/-- The first alike below p is the least one; if there is none, p is new. -/
theorem rep_first (h : Eqv R) {p q : Nat} (hq : q < p) (hr : R p q = true) (hn : ∀ j, j < q → R p j = false) : rep R p = q := by
  have h1 := rep_min h (h.symm _ _ hr)
  by_cases e : rep R p = q
  · exact e
  · have h2 := hn (rep R p) (by omega)
    rw [h.symm _ _ (rep_rel h p)] at h2
    cases h2
theorem rep_new (h : Eqv R) {p : Nat} (hn : ∀ j, j < p → R p j = false) : rep R p = p := by
  have h1 := rep_le h p
  by_cases e : rep R p = p
  · exact e
  · have h2 := hn (rep R p) (by omega)
    rw [h.symm _ _ (rep_rel h p)] at h2
    cases h2
end
end Go.Sd
end

section
/-
  SmallestLabels's model: arcs of a resolving graph by their states and letters; the classes' arcs.
-/
namespace Go.Proofs.Ytdohepngandajaa
open Go.RowKit Go.Deep Go.Sd

def akey (a : Arc3) : Int := a.1 * 4 + a.2.2
def SortK (xs : List Arc3) : Prop := xs.Pairwise fun a b => akey a < akey b
theorem sortK_ext : ∀ {xs ys : List Arc3}, SortK xs → SortK ys → (∀ a, a ∈ xs ↔ a ∈ ys) → xs = ys
  | [], [], _, _, _ => rfl
  | [], y :: ys, _, _, h => by have := (h y).2 (by simp); cases this
  | x :: xs, [], _, _, h => by have := (h x).1 (by simp); cases this
  | x :: xs, y :: ys, hx, hy, h => by
    unfold SortK at hx hy
    rw [List.pairwise_cons] at hx hy
    have e : x = y := by
      have h1 := (h x).1 (by simp)
      have h2 := (h y).2 (by simp)
      rcases List.mem_cons.1 h1 with e | h1
      · exact e
      · rcases List.mem_cons.1 h2 with e | h2
        · exact e.symm
        · have := hx.1 y h2; have := hy.1 x h1; omega
    subst e
    congr 1
    refine sortK_ext hx.2 hy.2 fun a => ?_
    have ha := h a
    simp only [List.mem_cons] at ha
    constructor
    · intro h1
      rcases ha.1 (Or.inr h1) with e | h2
      · subst e; have := hx.1 a h1; omega
      · exact h2
    · intro h1
      rcases ha.2 (Or.inr h1) with e | h2
      · subst e; have := hy.1 a h1; omega
      · exact h2
def okArc (L n : Nat) (a : Arc3) : Prop := 0 ≤ a.1 ∧ a.1 < (n : Int) ∧ 0 ≤ a.2.1 ∧ a.2.1 < (n : Int) ∧ 0 ≤ a.2.2 ∧ a.2.2 < (L : Int)
def isAt (p x : Nat) (a : Arc3) : Bool := decide (a.1 = (p : Int)) && decide (a.2.2 = (x : Int))
def arcAt (xs : List Arc3) (p x : Nat) : Option Arc3 := xs.find? (isAt p x)
def tgt (xs : List Arc3) (p x : Nat) : Option Nat := (arcAt xs p x).map fun a => a.2.1.toNat
theorem arcAt_some {xs : List Arc3} {p x : Nat} {a : Arc3} (h : arcAt xs p x = some a) : a ∈ xs ∧ a.1 = (p : Int) ∧ a.2.2 = (x : Int) := by
  have h1 := List.mem_of_find?_eq_some h
  have h2 := List.find?_some h
  unfold isAt at h2
  simp only [Bool.and_eq_true, decide_eq_true_eq] at h2
  exact ⟨h1, h2.1, h2.2⟩
theorem tgt_lt {L n : Nat} {xs : List Arc3} (ho : ∀ a, a ∈ xs → okArc L n a) (p x q : Nat) (h : tgt xs p x = some q) : q < n := by
  unfold tgt at h
  obtain ⟨a, ha, rfl⟩ := Option.map_eq_some_iff.1 h
  have := ho a (arcAt_some ha).1
  unfold okArc at this
  omega
def rowX (L : Nat) (xs : List Arc3) (p : Nat) : List Arc3 := (List.range L).filterMap fun x => arcAt xs p x
theorem sortK_inj : ∀ {xs : List Arc3}, SortK xs → ∀ {a b : Arc3}, a ∈ xs → b ∈ xs → akey a = akey b → a = b
  | [], _, a, _, ha, _, _ => by cases ha
  | x :: xs, h, a, b, ha, hb, e => by
    unfold SortK at h
    rw [List.pairwise_cons] at h
    rcases List.mem_cons.1 ha with ea | ha2
    · rcases List.mem_cons.1 hb with eb | hb2
      · rw [ea, eb]
      · have := h.1 b hb2; rw [ea] at e; omega
    · rcases List.mem_cons.1 hb with eb | hb2
      · have := h.1 a ha2; rw [eb] at e; omega
      · exact sortK_inj h.2 ha2 hb2 e
theorem rows_eq {L n : Nat} {xs : List Arc3} (hL : L ≤ 4) (ho : ∀ a, a ∈ xs → okArc L n a) (hs : SortK xs) : (List.range n).flatMap (rowX L xs) = xs := by
  refine sortK_ext ?_ hs fun a => ?_
  · unfold SortK
    rw [List.pairwise_flatMap]
    refine ⟨fun p _ => ?_, ?_⟩
    · unfold rowX
      rw [List.pairwise_filterMap]
      refine List.Pairwise.imp_of_mem ?_ List.pairwise_lt_range
      intro x y _ _ hxy a ha b hb
      have h1 := arcAt_some ha
      have h2 := arcAt_some hb
      unfold akey
      omega
    · refine List.Pairwise.imp_of_mem ?_ List.pairwise_lt_range
      intro p q _ _ hpq a ha b hb
      unfold rowX at ha hb
      obtain ⟨x, hx, ha⟩ := List.mem_filterMap.1 ha
      obtain ⟨y, hy, hb⟩ := List.mem_filterMap.1 hb
      have h1 := arcAt_some ha
      have h2 := arcAt_some hb
      simp at hx hy
      unfold akey
      omega
  · constructor
    · intro h
      obtain ⟨p, _, h⟩ := List.mem_flatMap.1 h
      obtain ⟨x, _, h⟩ := List.mem_filterMap.1 h
      exact (arcAt_some h).1
    · intro h
      have h1 := ho a h
      unfold okArc at h1
      obtain ⟨a0, a1, a2⟩ := a
      simp only at h1
      obtain ⟨p, rfl⟩ := Int.eq_ofNat_of_zero_le h1.1
      obtain ⟨x, rfl⟩ := Int.eq_ofNat_of_zero_le h1.2.2.2.2.1
      refine List.mem_flatMap.2 ⟨p, by simp; omega, List.mem_filterMap.2 ⟨x, by simp; omega, ?_⟩⟩
      cases hf : arcAt xs p x with
      | none =>
        have := List.find?_eq_none.1 hf _ h
        simp [isAt] at this
      | some b =>
        have h2 := arcAt_some hf
        congr 1
        exact sortK_inj hs h2.1 h (by unfold akey; simp only; omega)
section
variable (R : Nat → Nat → Bool)
def smRen (a : Arc3) : Arc3 := ((num R a.1.toNat : Int), (num R a.2.1.toNat : Int), a.2.2)
def smA (xs : List Arc3) : List Arc3 := (xs.filter fun a => isRep R a.1.toNat).map (smRen R)
def smRow (L : Nat) (xs : List Arc3) (p : Nat) : List Arc3 := (List.range L).filterMap fun x => (tgt xs p x).map fun q => ((num R p : Int), (num R q : Int), (x : Int))
def smB (L n : Nat) (xs : List Arc3) : List Arc3 := (List.range n).flatMap fun p => if isRep R p = true then smRow R L xs p else []
end
theorem smRow_eq {R : Nat → Nat → Bool} {L : Nat} {xs : List Arc3} {p : Nat} : ((rowX L xs p).filter fun a => isRep R a.1.toNat).map (smRen R) = if isRep R p = true then smRow R L xs p else [] := by
  unfold rowX smRow tgt
  generalize List.range L = l
  induction l with
  | nil => split <;> rfl
  | cons x l ih =>
    cases h : arcAt xs p x with
    | none =>
      rw [List.filterMap_cons_none h, ih]
      split
      · rw [List.filterMap_cons_none (by rw [h]; rfl)]
      · rfl
    | some a =>
      have h1 := arcAt_some h
      rw [List.filterMap_cons_some h, List.filter_cons]
      have e : a.1.toNat = p := by omega
      rw [e]
      by_cases hr : isRep R p = true
      · rw [if_pos hr, List.map_cons, ih, if_pos hr, if_pos hr, List.filterMap_cons_some (by rw [h]; rfl)]
        unfold smRen
        rw [e, h1.2.2]
      · rw [if_neg hr, ih, if_neg hr, if_neg hr]
theorem filter_flatMap' {α β : Type} (f : α → List β) (P : β → Bool) : ∀ l : List α, (l.flatMap f).filter P = l.flatMap fun a => (f a).filter P
  | [] => rfl
  | a :: l => by simp only [List.flatMap_cons, List.filter_append, filter_flatMap' f P l]
theorem map_flatMap' {α β γ : Type} (f : α → List β) (g : β → γ) : ∀ l : List α, (l.flatMap f).map g = l.flatMap fun a => (f a).map g
  | [] => rfl
  | a :: l => by simp only [List.flatMap_cons, List.map_append, map_flatMap' f g l]
theorem smB_eq {R : Nat → Nat → Bool} {L n : Nat} {xs : List Arc3} (hL : L ≤ 4) (ho : ∀ a, a ∈ xs → okArc L n a) (hs : SortK xs) : smB R L n xs = smA R xs := by
  conv => rhs; unfold smA; rw [← rows_eq hL ho hs, filter_flatMap', map_flatMap']
  unfold smB
  congr 1
  funext p
  exact smRow_eq.symm
/-! Out of the graph's own tests. -/
theorem allF_get {f : Nat → Bool} {m : Nat} (h : allF f m 0 = true) {j : Nat} (hj : j < m) : f j = true := by have := allF_at h j hj; rwa [Nat.zero_add] at this
theorem isLab_arcs {l : Lb} (h : isLab l = true) : ∀ a, a ∈ l.2.2 → okArc l.1.toNat l.2.1.toNat a := by
  have h0 := isLab_ok h
  unfold isLab at h
  rw [Bool.and_eq_true, Bool.and_eq_true] at h
  intro a ha
  obtain ⟨k, hk⟩ := List.getElem?_of_mem ha
  have h1 := allF_get h.2.2 (List.getElem?_eq_some_iff.1 hk).1
  unfold arcB at h1
  rw [Bool.and_eq_true, at3_of hk] at h1
  have h2 := h1.1
  unfold arcOk at h2
  rw [decide_eq_true_eq] at h2
  unfold okArc
  omega
theorem resolv_sort {l : Lb} (h : resolvM l = true) : SortK l.2.2 := by
  unfold resolvM at h
  rw [Bool.and_eq_true] at h
  have ho := isLab_arcs h.1
  have h1 := h.1
  unfold isLab at h1
  rw [Bool.and_eq_true, Bool.and_eq_true] at h1
  have hL : l.1.toNat ≤ 3 := by have := (isLab_ok h.1).2.2.2; omega
  have step : ∀ k a b, l.2.2[k]? = some a → l.2.2[k + 1]? = some b → akey a < akey b := by
    intro k a b ha hb
    have hk := (List.getElem?_eq_some_iff.1 hb).1
    have e1 := allF_get h1.2.2 hk
    have e2 := allF_get h.2 hk
    unfold arcB at e1
    unfold resB at e2
    rw [Nat.add_sub_cancel, at3_of ha, at3_of hb] at e1 e2
    simp only [Bool.and_eq_true, Bool.or_eq_true, decide_eq_true_eq, Nat.add_one_ne_zero, false_or, Bool.not_eq_true', Bool.and_eq_false_iff, decide_eq_false_iff_not] at e1 e2
    have hb1 := e1.2
    unfold before at hb1
    have o1 := ho a (List.mem_of_getElem? ha)
    have o2 := ho b (List.mem_of_getElem? hb)
    unfold okArc at o1 o2
    unfold akey
    by_cases c1 : a.1 = b.1
    · rw [if_neg (by simp [c1])] at hb1
      by_cases c2 : a.2.2 = b.2.2
      · exact absurd c2 (by rcases e2 with e2 | e2; exact absurd c1 e2; exact e2)
      · rw [if_pos c2, decide_eq_true_eq] at hb1; omega
    · rw [if_pos c1, decide_eq_true_eq] at hb1; omega
  unfold SortK
  rw [List.pairwise_iff_getElem]
  have key : ∀ d i (hi : i < l.2.2.length) (hj : i + (d + 1) < l.2.2.length), akey l.2.2[i] < akey l.2.2[i + (d + 1)] := by
    intro d
    induction d with
    | zero => intro i hi hj; exact step i _ _ (List.getElem?_eq_getElem hi) (List.getElem?_eq_getElem hj)
    | succ d ih =>
      intro i hi hj
      have h2 := ih i hi (by omega)
      have h3 := step (i + (d + 1)) _ _ (List.getElem?_eq_getElem (by omega)) (List.getElem?_eq_getElem (by omega))
      have e : i + (d + 1) + 1 = i + (d + 1 + 1) := by omega
      simp only [e] at h3
      omega
  intro i j hi hj hij
  obtain ⟨d, rfl⟩ : ∃ d, j = i + (d + 1) := ⟨j - i - 1, by omega⟩
  exact key d i hi hj
def clR (l : Lb) : Nat → Nat → Bool := Rk l.1.toNat (tgt l.2.2) (l.2.1.toNat * l.2.1.toNat)
def smallV (l : Lb) : Lb := if resolvM l = true then (l.1, (cntR (clR l) l.2.1.toNat : Int), smA (clR l) l.2.2) else (0, 0, [])
theorem smA_len (R : Nat → Nat → Bool) (xs : List Arc3) : (smA R xs).length ≤ xs.length := by
  unfold smA; rw [List.length_map]; exact List.length_filter_le _ _
theorem smallV_len (l : Lb) : (smallV l).2.2.length ≤ l.2.2.length := by
  unfold smallV
  split
  · exact smA_len _ _
  · simp
end Go.Proofs.Ytdohepngandajaa
end

section
/-
  Laws for the walk of TrimLabels: append at a table's row, at a slice of structs; numbers and bools by their cells; how many arcs there are.
-/
namespace Go.Sd
open Go.RowKit Go.Deep
/-- 't[i] = append(t[i], x)' at an own table, the row empty or not. -/
theorem New.row_push0 {P : Program} {eI eR : TypeId} {lo : Nat} {w : World} {v : Value} {m : List (List Int)} (h : New (OTab eI eR) lo w v m) {i : Nat} {r : List Int} (hr : m[i]? = some r)
    (t ty : TypeId) (z : Value) (bytes : Nat) (ht : P.underlying t = some (.slice eI)) (hinfo : (P.info? eI).map (fun i => (i.zero, i.size, i.bytes)) = some (some z, 1, bytes)) (hz1 : z.cells = #[z])
    (hbytes : (r.length + 1) * bytes ≤ 140737488355328) (h63 : r.length + 1 ≤ 9223372036854775807) :
    ∃ b c ra rc, v = .slice (some ⟨b, 0, none⟩) m.length c ∧ m.length ≤ c ∧ lo ≤ b ∧ b < w.heap.size ∧ w.cell? ⟨b, i, none⟩ = some (.slice ra r.length rc) ∧
      ∀ (w1 : World) (bb c1 : Nat) (y : Int), Below w.heap.size w w1 → w1.cell? ⟨bb, 0, none⟩ = some (.int .i64 y) →
        ∃ a' n' c' w2, (Builtin.append_ #[t, t] ty #[.slice ra r.length rc, .slice (some ⟨bb, 0, none⟩) 1 c1]).run P w1 = .ok (.slice a' n' c') w2 ∧
          w2.cell? ⟨b, i, none⟩ = some (.slice ra r.length rc) ∧ w2.frozen? ⟨b, i, none⟩ = false ∧ Below lo w (w2.setCell ⟨b, i, none⟩ (.slice a' n' c')) ∧
          New (OTab eI eR) lo (w2.setCell ⟨b, i, none⟩ (.slice a' n' c')) v (m.set i (r ++ [y])) := by
  obtain ⟨F, hF, hn, hge⟩ := h
  have hlt := (OTab.kept eI eR).lt _ _ _ _ hF
  obtain ⟨b, c, u, G, hv, hc, hbF, hbG, hcell, hfr, hu, hGF, hGn, _, hst⟩ := hF.focus (OInts.kept eI) hn hr
  obtain ⟨ra, rc, rfl, _⟩ := hu.reads.shape
  refine ⟨b, c, ra, rc, hv, hc, hge b hbF, hlt b hbF, hcell, fun w1 bb c1 y hb hy => ?_⟩
  have hu1 : OInts eI w1 _ r G := (OInts.kept eI).keep _ _ _ _ _ hu fun q hq => hb.block q (hlt q (hGF q hq))
  have hz := hb.size
  have hlob := hge b hbF
  have hltb := hlt b hbF
  obtain ⟨v', w2, G', hrun, hG', hn', hs, hg, hvG⟩ := push_run OIntR.kept t ty eI z bytes ht hinfo hz1 hu1 hGn (y := y) (G := []) ⟨rfl, rfl⟩ (by simp) (by simp) (c := c1) hy hbytes h63
  obtain ⟨a', c', hv', _⟩ := (OInts.reads hG').shape
  subst hv'
  have hoff : ∀ q, q ∈ F → q ∉ G → w2.heap[q]? = w.heap[q]? := fun q hq hqG => (hg.block q (by have := hlt q hq; omega) fun e => hqG (hvG q e.symm)).trans (hb.block q (hlt q hq))
  have hbb := hoff b hbF hbG
  have hbG' : b ∉ G' := fun hm => by
    rcases hs b hm with h1 | h1 | h1
    · exact hbG h1
    · simp at h1
    · omega
  obtain ⟨F', hF', hsub, hnd, _⟩ := hst w2 _ (r ++ [y]) G' hG' hbG' hoff
  have hbw : Below lo w w2 := (hb.mono (by omega)).grown hg (by omega) fun k hk => hge k (hGF k (hvG k hk))
  refine ⟨a', _, c', w2, hrun, ?_, ?_, hbw.setCell (p := ⟨b, i, none⟩) hlob _, F', hF', hnd hn' (fun q hq hqF => ?_), fun q hq => (hsub q hq).elim (hge q) fun hm => ?_⟩
  · rw [← hcell]
    simp only [World.cell?, hbb]
  · rw [← hfr]
    simp only [World.frozen?, hbb]
  · rcases hs q hq with h1 | h1 | h1
    · exact h1
    · simp at h1
    · have := hlt q hqF; omega
  · rcases hs q hm with h1 | h1 | h1
    · exact hge q (hGF q h1)
    · simp at h1
    · omega
theorem OInts.nil0 {e : TypeId} : ∀ w : World, OInts e w (.slice none 0 0) [] [] := fun _ => ⟨[], [], World.ownsRow_nil _ _ _ _, rfl, by simp, by simp [Value.ownBlock]⟩
/-- The same where a block has been laid since: it stays. -/
theorem New.row_push0A {P : Program} {eI eR : TypeId} {lo : Nat} {w0 w : World} {v : Value} {m : List (List Int)} (h : New (OTab eI eR) lo w0 v m) (hb0 : Below w0.heap.size w0 w) {i : Nat} {r : List Int} (hr : m[i]? = some r)
    (t ty : TypeId) (z : Value) (bytes : Nat) (ht : P.underlying t = some (.slice eI)) (hinfo : (P.info? eI).map (fun i => (i.zero, i.size, i.bytes)) = some (some z, 1, bytes)) (hz1 : z.cells = #[z])
    (hbytes : (r.length + 1) * bytes ≤ 140737488355328) (h63 : r.length + 1 ≤ 9223372036854775807) :
    ∃ b c ra rc, v = .slice (some ⟨b, 0, none⟩) m.length c ∧ m.length ≤ c ∧ lo ≤ b ∧ b < w.heap.size ∧ w.cell? ⟨b, i, none⟩ = some (.slice ra r.length rc) ∧
      ∀ (w1 : World) (bb c1 : Nat) (y : Int), Below w.heap.size w w1 → w1.cell? ⟨bb, 0, none⟩ = some (.int .i64 y) →
        ∃ a' n' c' w2, (Builtin.append_ #[t, t] ty #[.slice ra r.length rc, .slice (some ⟨bb, 0, none⟩) 1 c1]).run P w1 = .ok (.slice a' n' c') w2 ∧
          w2.cell? ⟨b, i, none⟩ = some (.slice ra r.length rc) ∧ w2.frozen? ⟨b, i, none⟩ = false ∧ Below lo w (w2.setCell ⟨b, i, none⟩ (.slice a' n' c')) ∧
          New (OTab eI eR) lo (w2.setCell ⟨b, i, none⟩ (.slice a' n' c')) v (m.set i (r ++ [y])) ∧ (∀ (o : Nat) u, w.cell? ⟨w0.heap.size, o, none⟩ = some u → w2.cell? ⟨w0.heap.size, o, none⟩ = some u) := by
  obtain ⟨F, hF, hn, hge⟩ := h
  have hlt := (OTab.kept eI eR).lt _ _ _ _ hF
  obtain ⟨b, c, u, G, hv, hc, hbF, hbG, hcell, hfr, hu, hGF, hGn, _, hst⟩ := hF.focus (OInts.kept eI) hn hr
  obtain ⟨ra, rc, rfl, _⟩ := (OInts.reads hu).shape
  have hlob := hge b hbF
  have hltb := hlt b hbF
  have hz0 := hb0.size
  refine ⟨b, c, ra, rc, hv, hc, hlob, Nat.lt_of_lt_of_le hltb hz0, (hb0.cell (p := ⟨b, i, none⟩) hltb).trans hcell, fun w1 bb c1 y hb hy => ?_⟩
  have hbw := hb0.trans (hb.mono hz0)
  have hz := hb.size
  have hu1 : OInts eI w1 _ r G := (OInts.kept eI).keep _ _ _ _ _ hu fun q hq => hbw.block q (hlt q (hGF q hq))
  obtain ⟨v', w2, G', hrun, hG', hn', hs, hg, hvG⟩ := push_run OIntR.kept t ty eI z bytes ht hinfo hz1 hu1 hGn (y := y) (G := []) ⟨rfl, rfl⟩ (by simp) (by simp) (c := c1) hy hbytes h63
  obtain ⟨a', c', hv', _⟩ := (OInts.reads hG').shape
  subst hv'
  have hoff : ∀ q, q ∈ F → q ∉ G → w2.heap[q]? = w0.heap[q]? := fun q hq hqG => (hg.block q (by have := hlt q hq; omega) fun e => hqG (hvG q e.symm)).trans (hbw.block q (hlt q hq))
  have hbb := hoff b hbF hbG
  have hbG' : b ∉ G' := fun hm => by
    rcases hs b hm with h1 | h1 | h1
    · exact hbG h1
    · simp at h1
    · omega
  obtain ⟨F', hF', hsub, hnd, _⟩ := hst w2 _ (r ++ [y]) G' hG' hbG' hoff
  have hbl : Below lo w w2 := (hb.mono (by omega)).grown hg (by omega) fun k hk => hge k (hGF k (hvG k hk))
  refine ⟨a', _, c', w2, hrun, ?_, ?_, hbl.setCell (p := ⟨b, i, none⟩) hlob _, ⟨F', hF', hnd hn' (fun q hq hqF => ?_), fun q hq => (hsub q hq).elim (hge q) fun hm => ?_⟩, fun o u hu0 => ?_⟩
  · rw [← hcell]
    simp only [World.cell?, hbb]
  · rw [← hfr]
    simp only [World.frozen?, hbb]
  · rcases hs q hq with h1 | h1 | h1
    · exact h1
    · simp at h1
    · have := hlt q hqF; omega
  · rcases hs q hm with h1 | h1 | h1
    · exact hge q (hGF q h1)
    · simp at h1
    · omega
  · have hl : w0.heap.size < w.heap.size := World.block_lt_of_cell? w ⟨w0.heap.size, o, none⟩ hu0
    have h1 := (hg.block w0.heap.size (by omega) fun e => by have := hlt _ (hGF _ (hvG _ e.symm)); omega).trans (hb.block w0.heap.size hl)
    rw [← hu0]
    simp only [World.cell?, h1]
/-- 'append(v, y)' where y has sz plain cells, as a run of the builtin. -/
theorem New.rowRun {P : Program} {α : Type} {e : TypeId} {sz : Nat} {f : α → List Value} (L : Lay sz f) (t ty : TypeId)
    (z : Value) (bytes : Nat) (ht : P.underlying t = some (.slice e)) (hinfo : (P.info? e).map (fun i => (i.zero, i.size, i.bytes)) = some (some z, sz, bytes)) (hz1 : z.cells.size = sz)
    {lo : Nat} {w : World} {v : Value} {xs : List α} (h0 : New (RowG e sz f) lo w v xs) (hlo : lo ≤ w.heap.size) (y : α) {bb : Nat} (c : Nat) (hcell : ∀ j u, (f y)[j]? = some u → w.cell? ⟨bb, j, none⟩ = some u)
    (hbytes : (xs.length + 1) * bytes ≤ 140737488355328) (h63 : xs.length + 1 ≤ 9223372036854775807) :
    ∃ a' n' c' w', (Builtin.append_ #[t, t] ty #[v, .slice (some ⟨bb, 0, none⟩) 1 c]).run P w = .ok (.slice a' n' c') w' ∧ New (RowG e sz f) lo w' (.slice a' n' c') (xs ++ [y]) ∧ Below lo w w' ∧ (∀ b, b < w.heap.size → b ∉ v.ownBlock.toList → w'.heap[b]? = w.heap[b]?) := by
  obtain ⟨i, hi, hzz⟩ := Option.map_eq_some_iff.1 hinfo
  simp only [Prod.mk.injEq] at hzz
  obtain ⟨hz, hsz, hby⟩ := hzz
  obtain ⟨F, ⟨how, rfl⟩, hnd, hge⟩ := h0
  have hvlt : ∀ k, v.ownBlock = some k → lo ≤ k ∧ k < w.heap.size := fun k hk => ⟨hge k (by simp [hk]), (how.lt k hk).2⟩
  obtain ⟨v', w', hrun, how', hg, _, hat⟩ := run_append_own_at (P := P) w 0 t ty e i z sz bytes ht hi hz hsz hby hz1 L.pos v xs.length (xs.flatMap f) how ⟨bb, 0, none⟩ 1 c (f y) (by rw [L.len]; omega)
    (by
      intro j u' hj
      have e : (⟨bb, 0, none⟩ : Addr).add j = ⟨bb, j, none⟩ := by unfold Addr.add; split <;> simp_all
      rw [e]
      exact hcell j u' hj)
    (fun u hu => L.one y u hu) h63 hbytes (Nat.zero_le _)
  have hR : RowG e sz f w' v' (xs ++ [y]) v'.ownBlock.toList := ⟨by simpa [List.flatMap_append] using how', rfl⟩
  obtain ⟨a', c', rfl⟩ := hR.slice
  refine ⟨a', _, c', w', hrun, ⟨_, hR, by cases (Value.slice a' (xs ++ [y]).length c').ownBlock <;> simp, ?_⟩, Below.of_grown hg hlo (fun k hk => (hvlt k hk).1), fun b hb hn => hg.block b hb (fun e => hn (by rw [← e]; simp))⟩
  intro b hb
  have hb2 : (Value.slice a' (xs ++ [y]).length c').ownBlock = some b := by simpa using hb
  rcases hat with hat | hat
  · rw [hat] at hb2; exact (hvlt b hb2).1
  · rw [hat] at hb2; simp at hb2; omega
theorem New.storeLow {α : Type} {R : OwnRel α} (hR : Held R) {lo : Nat} {w : World} {v : Value} {x : α} (h : New R lo w v x) {p : Addr} (hp : p.block < lo) (u : Value) : New R lo (w.setCell p u) v x := by
  obtain ⟨F, hF, hn, hge⟩ := h
  exact ⟨F, hR.keep _ _ _ _ _ hF fun b hb => Below.heap_setCell _ _ _ _ (fun e => by have := hge b hb; omega), hn, hge⟩
theorem CellsI.other {w : World} {B m : Nat} {f : Nat → Int} (h : CellsI w B m f) {p : Addr} (hp : p.block ≠ B) (u : Value) : CellsI (w.setCell p u) B m f := fun j hj =>
  ⟨(World.cell?_setCell_other _ _ _ _ (by intro e; exact hp (by rw [e]))).trans (h j hj).1, (World.frozen?_setCell _ _ _ _).trans (h j hj).2⟩
theorem Bl.keep {w w' : World} {b lo : Nat} {l : List Bool} (h : Bl w b l) (hb : Below lo w w') (hlt : b < lo) : Bl w' b l :=
  ⟨Nat.lt_of_lt_of_le h.1 hb.size, fun i x hx => ⟨(hb.cell (p := ⟨b, i, none⟩) hlt).trans (h.2 i x hx).1, (hb.frozen (p := ⟨b, i, none⟩) hlt).trans (h.2 i x hx).2⟩⟩
/-- An own slice of bools by its cells. -/
theorem New.bl {e : TypeId} {lo : Nat} {w : World} {v : Value} {l : List Bool} (h : New (OwnOf e (OValR Value.bool)) lo w v l) (h0 : 0 < l.length) : ∃ b c, v = .slice (some ⟨b, 0, none⟩) l.length c ∧ l.length ≤ c ∧ lo ≤ b ∧ Bl w b l := by
  obtain ⟨b, c, hv, hc, hlo, hlt, _, _, _⟩ := h.val_at (fun _ => rfl) (List.getElem?_eq_getElem h0)
  refine ⟨b, c, hv, hc, hlo, hlt, fun i x hx => ?_⟩
  obtain ⟨b', c', hv', _, _, _, hcl, hfr, _⟩ := h.val_at (fun _ => rfl) hx
  have e : b' = b := by rw [hv] at hv'; simp at hv'; exact hv'.1.symm
  rw [e] at hcl hfr
  exact ⟨hcl, hfr⟩
/-- An own slice of numbers by its cells. -/
theorem New.cellsI {e : TypeId} {lo : Nat} {w : World} {v : Value} {xs : List Int} (h : New (OInts e) lo w v xs) (h0 : 0 < xs.length) : ∃ b c, v = .slice (some ⟨b, 0, none⟩) xs.length c ∧ xs.length ≤ c ∧ lo ≤ b ∧ b < w.heap.size ∧ CellsI w b xs.length (fun i => xs.getD i 0) := by
  obtain ⟨b, c, hv, hc, hlo, hlt, _, _, _⟩ := h.int_at (List.getElem?_eq_getElem h0)
  refine ⟨b, c, hv, hc, hlo, hlt, fun i hi => ?_⟩
  obtain ⟨b', c', hv', _, _, _, hcl, hfr, _⟩ := h.int_at (List.getElem?_eq_getElem hi)
  have e : b' = b := by rw [hv] at hv'; simp at hv'; exact hv'.1.symm
  rw [e] at hcl hfr
  refine ⟨?_, hfr⟩
  show _ = some (Value.int .i64 (xs.getD i 0))
  rw [hcl]
  simp [List.getD, List.getElem?_eq_getElem hi]
end Go.Sd
namespace Go.Proofs.Ytdohepngandajaa
open Go.RowKit Go.Deep Go.Sd
def lkey (a : Arc3) : Int := a.1 * 64 + a.2.2 * 16 + a.2.1
/-- A valid graph has few arcs. -/
theorem isLab_len {l : Lb} (h : isLab l = true) : l.2.2.length ≤ 768 := by
  have ho := isLab_arcs h
  have hb := isLab_ok h
  unfold isLab at h
  rw [Bool.and_eq_true, Bool.and_eq_true] at h
  have hL : l.1.toNat ≤ 3 := by omega
  have hS : l.2.1.toNat ≤ 12 := by omega
  have step : ∀ k a b, l.2.2[k]? = some a → l.2.2[k + 1]? = some b → lkey a < lkey b := by
    intro k a b ha hb
    have e1 := allF_get h.2.2 (List.getElem?_eq_some_iff.1 hb).1
    unfold arcB at e1
    rw [Nat.add_sub_cancel, at3_of ha, at3_of hb] at e1
    simp only [Bool.and_eq_true, Bool.or_eq_true, decide_eq_true_eq, Nat.add_one_ne_zero, false_or] at e1
    have hb1 := e1.2
    unfold before at hb1
    have o1 := ho a (List.mem_of_getElem? ha)
    have o2 := ho b (List.mem_of_getElem? hb)
    unfold okArc at o1 o2
    unfold lkey
    by_cases c1 : a.1 = b.1
    · rw [if_neg (by simp [c1])] at hb1
      by_cases c2 : a.2.2 = b.2.2
      · rw [if_neg (by simp [c2]), decide_eq_true_eq] at hb1; omega
      · rw [if_pos c2, decide_eq_true_eq] at hb1; omega
    · rw [if_pos c1, decide_eq_true_eq] at hb1; omega
  have key : ∀ (k : Nat) (a : Arc3), l.2.2[k]? = some a → (k : Int) ≤ lkey a := by
    intro k
    induction k with
    | zero =>
      intro a ha
      have o1 := ho a (List.mem_of_getElem? ha)
      unfold okArc at o1
      unfold lkey
      omega
    | succ k ih =>
      intro a ha
      have hk := (List.getElem?_eq_some_iff.1 ha).1
      have h1 := ih _ (List.getElem?_eq_getElem (show k < l.2.2.length by omega))
      have h2 := step k _ a (List.getElem?_eq_getElem (show k < l.2.2.length by omega)) ha
      omega
  by_cases h0 : l.2.2.length = 0
  · omega
  · have hk : l.2.2.length - 1 < l.2.2.length := by omega
    have h1 := key (l.2.2.length - 1) _ (List.getElem?_eq_getElem hk)
    have o1 := ho _ (List.getElem_mem hk)
    unfold okArc at o1
    unfold lkey at h1
    omega
end Go.Proofs.Ytdohepngandajaa
end

section
/-
  The laws of append as steps of a region that draws its order.
-/
namespace Go.Sd
open Go.RowKit Go.Deep

section
variable {P : Program} {w : World} {ops : Array Oper} {o : Oper} {a : Act} {Q : Exit → Act → World → Prop} {K : Act → World → Prop} {E : Prop}

theorem step_append_run (hw : Region.wanted o (yielded ops a.tmps) = true) (s x : Operand) (t : TypeId)
    (ho : o.op = .call { callee := .builtin .append, args := #[s, x], argTypes := #[t, t] }) {v v2 v' : Value} {w' : World} (hs : a.eval s = v) (hx : a.eval x = v2)
    (hr : (Builtin.append_ #[t, t] o.type #[v, v2]).run P w = .ok v' w') (h : K (a.put o.dst v') w') : if Region.wanted o (yielded ops a.tmps) = true then Oper.wp P o a w K Q else E := by
  rw [if_pos hw]
  unfold Oper.wp execOp
  simp only [ho, resolve, invoke, builtin, Sem.run_bind, Sem.run_pure, Result.andThen_ok, List.map_toArray, List.map_cons, List.map_nil, hs, hx, hr]
  exact h

/-- 'append(v, u)' where v is a slice of the call's own, as it stood in an earlier world w0, and u is an element made since. -/
theorem step_push {α : Type} {R : OwnRel α} (hR : Kept R) (hgd : Region.wanted o (yielded ops a.tmps) = true) (s x : Operand) (t : TypeId)
    (ho : o.op = .call { callee := .builtin .append, args := #[s, x], argTypes := #[t, t] })
    (e : TypeId) (z : Value) (bytes : Nat) (ht : P.underlying t = some (.slice e)) (hinfo : (P.info? e).map (fun i => (i.zero, i.size, i.bytes)) = some (some z, 1, bytes)) (hz1 : z.cells = #[z])
    {w0 : World} {lo : Nat} {v : Value} {xs : List α} (h0 : New (OwnOf e R) lo w0 v xs) (hlo : lo ≤ w0.heap.size) (hb : Below w0.heap.size w0 w)
    {u : Value} {y : α} (hu : New R w0.heap.size w u y) {bb : Nat} {c : Nat} (hcell : w.cell? ⟨bb, 0, none⟩ = some u)
    (hs : a.eval s = v) (hx : a.eval x = .slice (some ⟨bb, 0, none⟩) 1 c)
    (hbytes : (xs.length + 1) * bytes ≤ 140737488355328) (h63 : xs.length + 1 ≤ 9223372036854775807)
    (h : ∀ v' w', New (OwnOf e R) lo w' v' (xs ++ [y]) → w.grownBy w' v.ownBlock → (∀ k, v.ownBlock = some k → lo ≤ k ∧ k < w0.heap.size) → Below lo w0 w' → K (a.put o.dst v') w') :
    if Region.wanted o (yielded ops a.tmps) = true then Oper.wp P o a w K Q else E := by
  obtain ⟨i, hi, hzz⟩ := Option.map_eq_some_iff.1 hinfo
  simp only [Prod.mk.injEq] at hzz
  obtain ⟨hz, hsz, hby⟩ := hzz
  obtain ⟨F, ⟨us, Fs, how, hl, hr, rfl⟩, hnd, hge⟩ := h0
  obtain ⟨G, hG, hGn, hGe⟩ := hu
  have hul : us.length = xs.length := by simpa using how.1
  have hvlt : ∀ k, v.ownBlock = some k → lo ≤ k ∧ k < w0.heap.size := fun k hk => ⟨hge k (by simp [hk]), (how.lt k hk).2⟩
  have how1 : w.ownsRow 0 e 1 v xs.length us := ownsRow_keep how fun b hb' => hb.block b (hvlt b hb').2
  obtain ⟨v', w', hrun, how', hg, _, hat⟩ := run_append_own_at (P := P) w 0 t o.type e i z 1 bytes ht hi hz hsz hby (by rw [hz1]; rfl) (by decide) v xs.length us how1 ⟨bb, 0, none⟩ 1 c [u] (by simp)
    (by
      intro j u' hj
      match j, hj with
      | 0, hj =>
        simp at hj
        subst hj
        simpa [Addr.add] using hcell)
    (by
      intro u' hu'
      simp at hu'
      subst hu'
      exact hR.one _ _ _ _ hG) h63 hbytes (Nat.zero_le _)
  refine step_append_run hgd s x t ho hs hx hrun ?_
  have hlt0 : ∀ b, b ∈ Fs.flatten → b < w0.heap.size := fun b hb' => by
    obtain ⟨H, hH, hb2⟩ := List.mem_flatten.1 hb'
    obtain ⟨j, hj⟩ := List.getElem?_of_mem hH
    have hj1 : j < Fs.length := (List.getElem?_eq_some_iff.1 hj).1
    exact hR.lt _ _ _ _ (hr j us[j] xs[j] H (List.getElem?_eq_getElem (by omega)) (List.getElem?_eq_getElem (by omega)) hj) b hb2
  have hsize := hb.size
  have hGlt : ∀ b, b ∈ G → b < w.heap.size := hR.lt _ _ _ _ hG
  have hnd' := List.nodup_append.1 hnd
  have hnv : ∀ k, v.ownBlock = some k → k ∉ Fs.flatten := fun k hk hm => hnd'.2.2 k (by simp [hk]) k hm rfl
  refine h v' w' ⟨v'.ownBlock.toList ++ (Fs ++ [G]).flatten, ⟨us ++ [u], Fs ++ [G], by simpa using how', by simp [hl], ?_, rfl⟩, ?_, ?_⟩ hg hvlt ?_
  · intro j u' x' G' hu' hx' hG'
    by_cases hj : j < xs.length
    · rw [List.getElem?_append_left (by omega)] at hu' hx' hG'
      refine hR.keep _ _ _ _ _ (hr j u' x' G' hu' hx' hG') fun b hb' => ?_
      have hm : b ∈ Fs.flatten := List.mem_flatten_of_mem (List.mem_of_getElem? hG') hb'
      have h1 := hlt0 b hm
      rw [hg.block b (by omega) (fun e => hnv b e.symm hm), hb.block b h1]
    · have hj2 : j = xs.length := by
        have := (List.getElem?_eq_some_iff.1 hx').1
        simp at this; omega
      subst hj2
      rw [List.getElem?_append_right (by omega)] at hu' hx' hG'
      simp [hul, hl] at hu' hx' hG'
      subst hu' hx' hG'
      refine hR.keep _ _ _ _ _ hG fun b hb' => hg.block b (hGlt b hb') fun e => ?_
      have := hvlt b e.symm
      have := hGe b hb'
      omega
  · simp only [List.flatten_append, List.flatten_cons, List.flatten_nil, List.append_nil]
    refine List.nodup_append.2 ⟨by cases v'.ownBlock <;> simp, List.nodup_append.2 ⟨hnd'.2.1, hGn, ?_⟩, ?_⟩
    · intro p hp q hq e
      subst e
      have := hlt0 p hp
      have := hGe p hq
      omega
    · intro p hp q hq e
      subst e
      simp at hp
      rcases hat with hat | hat
      · rw [hat] at hp
        rcases List.mem_append.1 hq with hq | hq
        · exact hnv p hp hq
        · have := hvlt p hp
          have := hGe p hq
          omega
      · rw [hat] at hp
        simp at hp
        rcases List.mem_append.1 hq with hq | hq
        · have := hlt0 p hq; omega
        · have := hGlt p hq; omega
  · intro b hb'
    rcases List.mem_append.1 hb' with hb' | hb'
    · simp at hb'
      rcases hat with hat | hat
      · rw [hat] at hb'; exact (hvlt b hb').1
      · rw [hat] at hb'; simp at hb'; omega
    · simp at hb'
      rcases hb' with ⟨H, hH, hb'⟩ | hb'
      · exact hge b (by simp; exact Or.inr ⟨H, hH, hb'⟩)
      · have := hGe b hb'; omega
  · exact (hb.mono hlo).grown hg (by omega) (fun k hk => (hvlt k hk).1)

theorem step_append_none (hgd : Region.wanted o (yielded ops a.tmps) = true) (s x : Operand) (t : TypeId)
    (ho : o.op = .call { callee := .builtin .append, args := #[s, x], argTypes := #[t, t] })
    (base : Nat) (e : TypeId) (i : TypeInfo) (size : Nat) (ht : P.underlying t = some (.slice e)) (hi : P.info? e = some i)
    (v : Value) (n : Nat) (xs : List Value) (hs : a.eval s = v) (hown : w.ownsRow base e size v n xs) (hx : a.eval x = .slice none 0 0)
    (h : K (a.put o.dst v) w) : if Region.wanted o (yielded ops a.tmps) = true then Oper.wp P o a w K Q else E :=
  step_append_run hgd s x t ho hs hx (run_append_owned_none (P := P) w base t o.type e i size ht hi v n xs hown) h

theorem step_append_vals {α : Type} {f : α → Value} (hf : ∀ x, (f x).oneCell' = true) (hgd : Region.wanted o (yielded ops a.tmps) = true) (s x : Operand) (t : TypeId)
    (ho : o.op = .call { callee := .builtin .append, args := #[s, x], argTypes := #[t, t] })
    (e : TypeId) (z : Value) (bytes : Nat) (ht : P.underlying t = some (.slice e)) (hinfo : (P.info? e).map (fun i => (i.zero, i.size, i.bytes)) = some (some z, 1, bytes)) (hz1 : z.cells = #[z])
    {lo : Nat} {v : Value} {ys : List α} (h0 : New (OwnOf e (OValR f)) lo w v ys) (hlo : lo ≤ w.heap.size)
    {v2 : Value} {xs : List α} (h2 : SlOf (ValR f) w v2 xs)
    (hs : a.eval s = v) (hx : a.eval x = v2)
    (hbytes : (ys.length + xs.length) * bytes ≤ 140737488355328) (h63 : ys.length + xs.length ≤ 9223372036854775807)
    (h : ∀ v' w', New (OwnOf e (OValR f)) lo w' v' (ys ++ xs) → w.grownBy w' v.ownBlock → (∀ k, v.ownBlock = some k → lo ≤ k ∧ k < w.heap.size) → Below lo w w' → K (a.put o.dst v') w') :
    if Region.wanted o (yielded ops a.tmps) = true then Oper.wp P o a w K Q else E := by
  obtain ⟨i, hi, hzz⟩ := Option.map_eq_some_iff.1 hinfo
  simp only [Prod.mk.injEq] at hzz
  obtain ⟨hz, hsz, hby⟩ := hzz
  have h0' := h0
  obtain ⟨F, ⟨us, Fs, how, hl, hr, rfl⟩, hnd, hge⟩ := h0
  have hul : us.length = ys.length := by simpa using how.1
  have hvlt : ∀ k, v.ownBlock = some k → lo ≤ k ∧ k < w.heap.size := fun k hk => ⟨hge k (by simp [hk]), (how.lt k hk).2⟩
  obtain ⟨vs, hsl, hvl, hvr⟩ := h2
  have hvs : vs = xs.map f := by
    apply List.ext_getElem?
    intro j
    by_cases hj : j < xs.length
    · rw [List.getElem?_map, List.getElem?_eq_getElem hj, List.getElem?_eq_getElem (by omega)]
      exact congrArg some (hvr j _ _ (List.getElem?_eq_getElem (by omega)) (List.getElem?_eq_getElem hj))
    · rw [List.getElem?_eq_none (by omega), List.getElem?_eq_none (by simp; omega)]
  subst hvs
  obtain ⟨_, ad, c, hv2, _, _, hn, hcells⟩ := hsl
  simp only [List.length_map] at hv2
  have key : ∀ (ad : Addr), (∀ (j : Nat) (u : Value), (xs.map f)[j]? = some u → w.cell? (ad.add j) = some u) → v2 = .slice (some ad) xs.length c → (if Region.wanted o (yielded ops a.tmps) = true then Oper.wp P o a w K Q else E) := by
    intro ad had hv2'
    obtain ⟨v', w', hrun, how', hg, _, hat⟩ := run_append_own_at (P := P) w 0 t o.type e i z 1 bytes ht hi hz hsz hby (by rw [hz1]; rfl) (by decide) v ys.length us how ad xs.length c (xs.map f) (by simp) had
      (by
        intro u hu
        obtain ⟨y, _, rfl⟩ := List.mem_map.1 hu
        exact hf y) h63 hbytes (Nat.zero_le _)
    refine step_append_run hgd s x t ho hs (by rw [hx, hv2']) hrun ?_
    have hFs : ∀ G, G ∈ Fs → G = [] := fun G hG => by
      obtain ⟨j, hj⟩ := List.getElem?_of_mem hG
      have hj1 : j < Fs.length := (List.getElem?_eq_some_iff.1 hj).1
      exact (hr j us[j] ys[j] G (List.getElem?_eq_getElem (by omega)) (List.getElem?_eq_getElem (by omega)) hj).2
    have hfl : (Fs ++ List.replicate xs.length []).flatten = [] := by
      rw [List.flatten_eq_nil_iff]
      intro G hG
      rcases List.mem_append.1 hG with hG | hG
      · exact hFs G hG
      · exact (List.mem_replicate.1 hG).2
    refine h v' w' ⟨_, ⟨us ++ xs.map f, Fs ++ List.replicate xs.length [], by simpa using how', by simp [hl], ?_, rfl⟩, ?_, ?_⟩ hg hvlt (Below.of_grown hg hlo fun k hk => (hvlt k hk).1)
    · intro j u' x' G' hu' hx' hG'
      by_cases hj : j < ys.length
      · rw [List.getElem?_append_left (by omega)] at hu' hx' hG'
        exact hr j u' x' G' hu' hx' hG'
      · rw [List.getElem?_append_right (by omega)] at hu' hx' hG'
        rw [hul, List.getElem?_map, hx'] at hu'
        simp at hu'
        exact ⟨hu'.symm, (List.mem_replicate.1 (List.mem_of_getElem? hG')).2⟩
    · rw [hfl]
      cases v'.ownBlock <;> simp
    · intro b hb
      rw [hfl] at hb
      simp at hb
      rcases hat with hat | hat
      · rw [hat] at hb; exact (hvlt b hb).1
      · rw [hat] at hb; simp at hb; omega
  cases ad with
  | none =>
    have hx0 : xs = [] := by
      rcases hcells with h | ⟨b, o, h, _⟩
      · simpa using h
      · cases h
    subst hx0
    have := hn rfl
    subst this
    refine step_append_none hgd s x t ho 0 e i 1 ht hi v _ us hs how (by rw [hx, hv2]; rfl) ?_
    exact h v w (by rw [List.append_nil]; exact h0') ⟨rfl, rfl, rfl, Nat.le_refl _, fun _ _ _ => rfl⟩ hvlt (Below.refl _ _)
  | some ad =>
    rcases hcells with hnil | ⟨b, o, had, _, hc⟩
    · exact key ad (by rw [hnil]; simp) hv2
    · cases had
      refine key _ (fun j u hj => ?_) hv2
      have := hc j u hj
      cases j <;> simpa [Addr.add] using this
end
end Go.Sd
end

section
/-
  A region that draws its order and whose last operation writes a cell that the region reads: the condition on the world is asked only while operations are left.
-/
namespace Go.Sd
open Go.RowKit Go.Deep
section
variable {P : Program} {ops : Array Oper} {Q : Exit → Act → World → Prop} {md : Region.Mode} {S : World → Prop}
/-- Some operation is left. -/
def Rem (listed : Array Bool) : Prop := ∃ k : Nat, listed[k]? = some false
/-- Some operation that is left waits for number i. -/
def waited (md : Region.Mode) (ops : Array Oper) (listed : Array Bool) (i : Nat) : Bool := (List.range ops.size).any fun m => (listed[m]? == some false) && (decide (m ≠ i) && (match ops[m]? with | some om => om.after.any (fun e => Region.binds md e && decide (e.on = i)) | none => false))
def wpAnyL (P : Program) (md : Region.Mode) (ops : Array Oper) (Q : Exit → Act → World → Prop) (S : World → Prop) : Nat → Array Bool → Act → World → Prop
  | 0, listed, a, w => Region.ready md ops listed = [] ∧ Q .normal a w
  | fuel + 1, listed, a, w =>
    (Region.ready md ops listed = [] → Q .normal a w) ∧
    ∀ i ∈ Region.ready md ops listed, wpOp P ops Q i (fun a' w' => (Rem (listed.setIfInBounds i true) → S w') ∧ wpAnyL P md ops Q S fuel (listed.setIfInBounds i true) a' w') a w
theorem wpAny_of_L : ∀ (fuel : Nat) (listed : Array Bool) (a : Act) (w : World), wpAnyL P md ops Q S fuel listed a w → wpAny P md ops Q fuel listed a w
  | 0, _, _, _, h => h
  | fuel + 1, _, _, _, h => ⟨h.1, fun i hi => wpOp_mono (fun _ _ h' => wpAny_of_L fuel _ _ _ h'.2) (h.2 i hi)⟩
theorem wpAnyL_first {i : Nat} {oi : Oper} {v : Value} (hi : ops[i]? = some oi) (hsel : ∀ (j : Nat) (o : Oper) cs b, ops[j]? = some o → o.op ≠ .select cs b)
    (hQ : ∀ c a w, Q (.panic c) (a.put oi.dst v) w → Q (.panic c) a w) :
    ∀ (fuel : Nat) (listed : Array Bool) (a : Act) (w : World),
      (∀ j oj, ops[j]? = some oj → j ≠ i → listed.getD j true = false → (∀ e ∈ oj.after, Region.binds md e = true → e.on ≠ i) → oi.apart ops oj = true) →
      i ∈ Region.ready md ops listed → (∃ m om, ops[m]? = some om ∧ listed[m]? = some false ∧ m ≠ i ∧ ∃ e ∈ om.after, Region.binds md e = true ∧ e.on = i) → YieldsIf P ops S oi v a → S w →
      wpAnyL P md ops Q S fuel (listed.setIfInBounds i true) (a.put oi.dst v) w → wpAnyL P md ops Q S (fuel + 1) listed a w := by
  intro fuel
  induction fuel with
  | zero =>
    intro listed a w _ hr _ hy hS H
    refine ⟨fun h => (by rw [h] at hr; cases hr), fun j hj => ?_⟩
    by_cases e : j = i
    · subst e; exact hy.wpOp hi hS ⟨fun _ => hS, H⟩
    · have h1 := ready_mono hj e
      rw [H.1] at h1
      cases h1
  | succ fuel ih =>
    intro listed a w hfree hr hm hy hS H
    refine ⟨fun h => (by rw [h] at hr; cases hr), fun j hj => ?_⟩
    by_cases e : j = i
    · subst e; exact hy.wpOp hi hS ⟨fun _ => hS, H⟩
    · have hn := H.2 j (ready_mono hj e)
      obtain ⟨hju, oj, hoj, hall⟩ := mem_ready.1 hj
      have hnot : ∀ f ∈ oj.after, Region.binds md f = true → f.on ≠ i := fun f hf hb he => by
        have g1 := hall f hf hb
        have g0 := (mem_ready.1 hr).1
        rw [he] at g1
        by_cases hl : i < listed.size
        · simp [hl] at g0 g1; rw [g0] at g1; cases g1
        · simp [Array.getElem?_eq_none (Nat.le_of_not_lt hl)] at g1
      have hp := wpOp_putIf hoj (hfree j oj hoj e hju hnot) (fun cs b => hsel i oi cs b hi) (fun cs b => hsel j oj cs b hoj) hQ hy hn
      have hir : i ∈ Region.ready md ops (listed.setIfInBounds j true) := ready_mono hr (fun h => e h.symm)
      have hfr : ∀ k ok, ops[k]? = some ok → k ≠ i → (listed.setIfInBounds j true).getD k true = false → (∀ f ∈ ok.after, Region.binds md f = true → f.on ≠ i) → oi.apart ops ok = true := fun k ok hk hki hun hno => by
        refine hfree k ok hk hki ?_ hno
        by_cases hjk : j = k
        · subst hjk; exact hju
        · rw [getD_set_ne true hjk] at hun; exact hun
      refine wpOp_mono (fun a' w' h => ?_) hp
      obtain ⟨m, om, h1, h2, h3, f, hf, hb, he⟩ := hm
      have hjm : j ≠ m := fun h0 => by
        subst h0
        rw [hoj] at h1
        obtain rfl := Option.some.inj h1
        exact hnot f hf hb he
      have hSw : S w' := h.2.1 ⟨m, by rw [Array.getElem?_setIfInBounds_ne hjm, Array.getElem?_setIfInBounds_ne (Ne.symm h3)]; exact h2⟩
      refine ⟨fun _ => hSw, ih _ a' w' hfr hir ⟨m, om, h1, by rw [Array.getElem?_setIfInBounds_ne hjm]; exact h2, h3, f, hf, hb, he⟩ h.1 hSw ?_⟩
      rw [Array.setIfInBounds_comm _ _ e]
      exact h.2.2
theorem waited_spec {listed : Array Bool} {i : Nat} (h : waited md ops listed i = true) : ∃ m om, ops[m]? = some om ∧ listed[m]? = some false ∧ m ≠ i ∧ ∃ e ∈ om.after, Region.binds md e = true ∧ e.on = i := by
  unfold waited at h
  obtain ⟨m, _, h⟩ := List.any_eq_true.1 h
  simp only [Bool.and_eq_true, beq_iff_eq, decide_eq_true_eq] at h
  obtain ⟨h1, h2, h3⟩ := h
  cases hm : ops[m]? with
  | none => rw [hm] at h3; cases h3
  | some om =>
    rw [hm] at h3
    obtain ⟨k, hk, he⟩ := Array.any_eq_true.1 h3
    simp only [Bool.and_eq_true, decide_eq_true_eq] at he
    exact ⟨m, om, hm, h1, h2, _, Array.getElem_mem hk, he⟩
theorem wpAnyL_take (i : Nat) {oi : Oper} {v : Value} {fuel : Nat} {listed : Array Bool} {a : Act} {w : World} (hi : ops[i]? = some oi)
    (hs : Region.noSelect ops = true) (hf : Region.free md ops listed i = true) (hr : (Region.ready md ops listed).contains i = true) (hw : waited md ops listed i = true)
    (hQ : ∀ c a w, Q (.panic c) (a.put oi.dst v) w → Q (.panic c) a w) (hy : YieldsIf P ops S oi v a) (hS : S w)
    (h : wpAnyL P md ops Q S fuel (listed.setIfInBounds i true) (a.put oi.dst v) w) : wpAnyL P md ops Q S (fuel + 1) listed a w :=
  wpAnyL_first hi (Region.noSelect_spec hs) hQ fuel listed a w (Region.free_spec hi hf) (by simpa using hr) (waited_spec hw) hy hS h
/-- One alone may come up. -/
theorem wpAnyL_one (i : Nat) {o : Oper} {fuel : Nat} {listed : Array Bool} {a : Act} {w : World} (hr : Region.ready md ops listed = [i]) (ho : ops[i]? = some o)
    (h : ∀ K' : Act → World → Prop, Shut (∀ a w, (Rem (listed.setIfInBounds i true) → S w) → wpAnyL P md ops Q S fuel (listed.setIfInBounds i true) a w → K' a w) → if Region.wanted o (yielded ops a.tmps) = true then Oper.wp P o a w K' Q else K' (a.put o.dst undef) w) : wpAnyL P md ops Q S (fuel + 1) listed a w :=
  ⟨fun h0 => (by rw [hr] at h0; cases h0), fun j hj => by
    rw [hr] at hj
    obtain rfl := List.mem_singleton.1 hj
    exact wpOp_step ho fun K' hK => h K' fun a w hS hW => hK a w ⟨hS, hW⟩⟩
theorem wpAnyL_done {listed : Array Bool} {a : Act} {w : World} (hr : Region.ready md ops listed = []) (h : Q .normal a w) : ∀ fuel, wpAnyL P md ops Q S fuel listed a w
  | 0 => ⟨hr, h⟩
  | _ + 1 => ⟨fun _ => h, by rw [hr]; simp⟩
theorem wp_region_L (S : World → Prop) {id : Nat} {a : Act} {w : World} (hm : P.follows .mixedOrders = true) (h : wpAnyL P .any ops Q S ops.size (Array.replicate ops.size false) a w.drew) : (Code.region id ops true).wp P Q a w :=
  wp_region_any hm (wpAny_of_L _ _ _ _ h)
/-- All of the listed have come up. -/
def allUp (listed : Array Bool) : Bool := listed.all id
theorem not_rem {listed : Array Bool} (h : allUp listed = true) : ¬ Rem listed := by
  rintro ⟨k, hk⟩
  unfold allUp at h
  have hl := (Array.getElem?_eq_some_iff.1 hk)
  have := Array.all_eq_true.1 h k hl.1
  rw [hl.2] at this
  cases this
end
end Go.Sd
end
