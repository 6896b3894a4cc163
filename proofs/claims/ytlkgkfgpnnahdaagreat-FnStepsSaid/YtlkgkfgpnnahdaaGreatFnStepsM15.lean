/-
  Texts of this claim joined: laws for its walks, contracts of the functions that the law reaches.
-/
import Derived.Test.YtlkgkfgpnnahdaaGreatFnStepsM3
import Derived.Test.YtlkgkfgpnnahdaaGreatFnStepsM4
import Derived.Test.YtlkgkfgpnnahdaaGreatFnStepsM10
import Derived.Test.YtlkgkfgpnnahdaaGreatFnStepsM7
import Derived.Test.YtlkgkfgpnnahdaaGreatFnStepsM9
import Derived.Test.YtlkgkfgpnnahdaaGreatFnStepsM14
import Derived.Test.YtlkgkfgpnnahdaaGreatFnStepsM12
import Derived.Test.YtlkgkfgpnnahdaaGreatFnStepsM2
import Derived.OwnWalk
section
/-
  Finite sums of integers; maps between finite ranges.
-/
namespace Go.Sd
/-- The sum of f over 0 .. n - 1. -/
def sumN : Nat → (Nat → Int) → Int
  | 0, _ => 0
  | n + 1, f => sumN n f + f n
theorem sumN_congr {n : Nat} {f g : Nat → Int} (h : ∀ i, i < n → f i = g i) : sumN n f = sumN n g := by
  induction n with
  | zero => rfl
  | succ n ih => rw [sumN, sumN, ih fun i hi => h i (by omega), h n (by omega)]
theorem sumN_zero {n : Nat} {f : Nat → Int} (h : ∀ i, i < n → f i = 0) : sumN n f = 0 := by
  induction n with
  | zero => rfl
  | succ n ih => rw [sumN, ih fun i hi => h i (by omega), h n (by omega)]; rfl
theorem sumN_add (n : Nat) (f g : Nat → Int) : sumN n (fun i => f i + g i) = sumN n f + sumN n g := by
  induction n with
  | zero => rfl
  | succ n ih => rw [sumN, sumN, sumN, ih]; omega
theorem sumN_sub (n : Nat) (f g : Nat → Int) : sumN n (fun i => f i - g i) = sumN n f - sumN n g := by
  induction n with
  | zero => rfl
  | succ n ih => rw [sumN, sumN, sumN, ih]; omega
theorem sumN_comm (n k : Nat) (F : Nat → Nat → Int) : sumN n (fun i => sumN k (F i)) = sumN k (fun j => sumN n (fun i => F i j)) := by
  induction n with
  | zero => exact (sumN_zero fun j _ => rfl).symm
  | succ n ih =>
    rw [sumN, ih, ← sumN_add]
    exact sumN_congr fun j _ => rfl
theorem sumN_le {n : Nat} {f g : Nat → Int} (h : ∀ i, i < n → f i ≤ g i) : sumN n f ≤ sumN n g := by
  induction n with
  | zero => exact Int.le_refl _
  | succ n ih =>
    rw [sumN, sumN]
    have h1 := ih fun i hi => h i (by omega)
    have h2 := h n (by omega)
    omega
theorem sumN_nonneg {n : Nat} {f : Nat → Int} (h : ∀ i, i < n → 0 ≤ f i) : 0 ≤ sumN n f := by
  have := sumN_le (f := fun _ => 0) h
  rw [sumN_zero fun _ _ => rfl] at this
  exact this
/-- One place alone counts. -/
theorem sumN_one {n p : Nat} (hp : p < n) (F : Nat → Int) : sumN n (fun j => if p = j then F j else 0) = F p := by
  induction n with
  | zero => omega
  | succ n ih =>
    rw [sumN]
    by_cases e : p = n
    · subst e
      rw [if_pos rfl, sumN_zero fun i hi => if_neg (by omega)]
      omega
    · rw [if_neg e, ih (by omega)]
      omega
theorem sumN_term {n p : Nat} (hp : p < n) {f : Nat → Int} (h : ∀ i, i < n → 0 ≤ f i) : f p ≤ sumN n f := by
  have h1 := sumN_le (n := n) (f := fun j => if p = j then f j else 0) (g := f) fun i hi => by
    split
    · exact Int.le_refl _
    · exact h i hi
  rw [sumN_one hp] at h1
  exact h1
/-- By classes. -/
theorem sumN_class {n k : Nat} {f : Nat → Nat} (hf : ∀ i, i < n → f i < k) (t : Nat → Int) : sumN n t = sumN k (fun C => sumN n (fun i => if f i = C then t i else 0)) := by
  rw [← sumN_comm n k fun i C => if f i = C then t i else 0]
  exact sumN_congr fun i hi => (sumN_one (hf i hi) fun _ => t i).symm
/-- What sums to nothing over every class sums to nothing over what is made of classes. -/
theorem sumN_made {n k : Nat} {f : Nat → Nat} (hf : ∀ i, i < n → f i < k) {t : Nat → Int} (ht : ∀ C, C < k → sumN n (fun i => if f i = C then t i else 0) = 0)
    {S : Nat → Prop} [DecidablePred S] (hS : ∀ i j, i < n → j < n → f i = f j → (S i ↔ S j)) : sumN n (fun i => if S i then t i else 0) = 0 := by
  rw [sumN_class hf]
  refine sumN_zero fun C hC => ?_
  by_cases h : ∃ i, i < n ∧ f i = C ∧ S i
  · obtain ⟨i0, h0, h1, h2⟩ := h
    refine (sumN_congr fun i hi => ?_).trans (ht C hC)
    by_cases e : f i = C
    · rw [if_pos e, if_pos e, if_pos ((hS i i0 hi h0 (by rw [e, h1])).2 h2)]
    · rw [if_neg e, if_neg e]
  · refine sumN_zero fun i hi => ?_
    by_cases e : f i = C
    · rw [if_pos e, if_neg fun hs => h ⟨i, hi, e, hs⟩]
    · exact if_neg e
/-- p and q are each other's inverses below n. -/
def Inv (n : Nat) (p q : Nat → Nat) : Prop := (∀ i, i < n → p i < n ∧ q (p i) = i) ∧ ∀ i, i < n → q i < n ∧ p (q i) = i
theorem Inv.symm {n : Nat} {p q : Nat → Nat} (h : Inv n p q) : Inv n q p := ⟨h.2, h.1⟩
theorem sumN_perm {n : Nat} {p q : Nat → Nat} (h : Inv n p q) (F : Nat → Int) : sumN n (fun i => F (p i)) = sumN n F := by
  have h1 : sumN n (fun i => F (p i)) = sumN n (fun i => sumN n (fun j => if p i = j then F j else 0)) := sumN_congr fun i hi => (sumN_one (h.1 i hi).1 F).symm
  rw [h1, sumN_comm n n fun i j => if p i = j then F j else 0]
  refine sumN_congr fun j hj => ?_
  refine (sumN_congr (g := fun i => if q j = i then F j else 0) fun i hi => ?_).trans (sumN_one (h.2 j hj).1 fun _ => F j)
  by_cases e : p i = j
  · rw [if_pos e, if_pos (by rw [← e, (h.1 i hi).2])]
  · rw [if_neg e, if_neg fun e2 => e (by rw [← e2, (h.2 j hj).2])]
/-- No more places than there are. -/
theorem inj_le : ∀ {n k : Nat} {f : Nat → Nat}, (∀ i, i < n → f i < k) → (∀ i j, i < n → j < n → f i = f j → i = j) → n ≤ k
  | 0, k, f, _, _ => Nat.zero_le k
  | n + 1, 0, f, h, _ => absurd (h 0 (by omega)) (by omega)
  | n + 1, k + 1, f, h, hi => by
    have h1 := inj_le (n := n) (k := k) (f := fun i => if f i = k then f n else f i) (fun i hn => by
      show (if f i = k then f n else f i) < k
      have h2 := h i (by omega)
      have h3 := h n (by omega)
      split
      · rename_i e
        have h4 : f n ≠ k := fun e2 => absurd (hi i n (by omega) (by omega) (by omega)) (by omega)
        omega
      · omega) (fun i j hin hjn e => by
      have e' : (if f i = k then f n else f i) = (if f j = k then f n else f j) := e
      by_cases h2 : f i = k <;> by_cases h3 : f j = k
      · exact hi i j (by omega) (by omega) (by omega)
      · rw [if_pos h2, if_neg h3] at e'
        exact absurd (hi n j (by omega) (by omega) e') (by omega)
      · rw [if_neg h2, if_pos h3] at e'
        exact absurd (hi i n (by omega) (by omega) e') (by omega)
      · rw [if_neg h2, if_neg h3] at e'
        exact hi i j (by omega) (by omega) e')
    omega
/-- What is injective has an inverse. -/
theorem inj_inv {n : Nat} {f : Nat → Nat} (h : ∀ i, i < n → f i < n) (hi : ∀ i j, i < n → j < n → f i = f j → i = j) : ∃ q, Inv n f q := by
  have hs : ∀ y, y < n → ∃ i, i < n ∧ f i = y := by
    intro y hy
    apply Classical.byContradiction
    intro hno
    have h1 := inj_le (n := n + 1) (k := n) (f := fun i => if i = n then y else f i) (fun i hin => by
      show (if i = n then y else f i) < n
      split
      · exact hy
      · exact h i (by omega)) (fun i j hin hjn e => by
      have e' : (if i = n then y else f i) = (if j = n then y else f j) := e
      by_cases h2 : i = n <;> by_cases h3 : j = n
      · omega
      · rw [if_pos h2, if_neg h3] at e'
        exact absurd ⟨j, by omega, e'.symm⟩ hno
      · rw [if_neg h2, if_pos h3] at e'
        exact absurd ⟨i, by omega, e'⟩ hno
      · rw [if_neg h2, if_neg h3] at e'
        exact hi i j (by omega) (by omega) e')
    omega
  refine ⟨fun y => if hy : y < n then Classical.choose (hs y hy) else 0, ?_, ?_⟩
  · intro i hin
    refine ⟨h i hin, ?_⟩
    have h1 := Classical.choose_spec (hs (f i) (h i hin))
    show (if hy : f i < n then Classical.choose (hs (f i) hy) else 0) = i
    rw [dif_pos (h i hin)]
    exact hi _ _ h1.1 hin h1.2
  · intro y hy
    have h1 := Classical.choose_spec (hs y hy)
    show (if hy : y < n then Classical.choose (hs y hy) else 0) < n ∧ f (if hy : y < n then Classical.choose (hs y hy) else 0) = y
    rw [dif_pos hy]
    exact h1
end Go.Sd
end

section
/-
  Joining until nothing is left to join gives one graph, but for the numbering.
-/
namespace Go.Proofs.YtlkgkfgpnnahdaaGreat
open Go.RowKit Go.Deep Go.Sd
abbrev Mx := List (List Int)
/-- What of column b lies in class A. -/
def cs (M : Mx) (n : Nat) (f : Nat → Nat) (A b : Nat) : Int := sumN n (fun i => if f i = A then ent M i b else 0)
/-- N is M with the classes of f taken together. -/
structure Quot (M : Mx) (n : Nat) (f : Nat → Nat) (k : Nat) (N : Mx) : Prop where
  sq : Sq k N
  lt : ∀ i, i < n → f i < k
  on : ∀ A, A < k → ∃ i, i < n ∧ f i = A
  val : ∀ A b, A < k → b < n → ent N A (f b) = cs M n f A b
/-- Reached by joins. -/
inductive Reach (M : Mx) (n : Nat) : (Nat → Nat) → Nat → Mx → Prop
  | base : Reach M n id n M
  | step {f : Nat → Nat} {k : Nat} {N : Mx} {i j : Nat} : Reach M n f k N → i < j → j < k → (∀ A, A < k → ent N A i = ent N A j) → Reach M n (fun x => if f x = j then i else cnt j (f x)) (k - 1) (joinT N i j k)
theorem cnt_i {i j : Nat} (h : i < j) : cnt j i = i := by unfold cnt; rw [if_pos (by omega)]
theorem cnt_skip (j k : Nat) : cnt j (skip j k) = k := by unfold cnt skip; split <;> split <;> omega
theorem skip_ne (j k : Nat) : skip j k ≠ j := by unfold skip; split <;> omega
theorem skip_i {i j : Nat} (h : i < j) : skip j i = i := by unfold skip; rw [if_pos h]
theorem Reach.quot {M : Mx} {n : Nat} (hM : Sq n M) {f : Nat → Nat} {k : Nat} {N : Mx} (h : Reach M n f k N) : Quot M n f k N := by
  induction h with
  | base => exact ⟨hM, fun i hi => hi, fun A hA => ⟨A, hA, rfl⟩, fun A b hA hb => by
      show ent M A b = sumN n (fun i => if i = A then ent M i b else 0)
      rw [← sumN_one hA fun i => ent M i b]
      exact sumN_congr fun i _ => by
        by_cases e : i = A
        · rw [if_pos e, if_pos e.symm]
        · rw [if_neg e, if_neg fun e2 => e e2.symm]⟩
  | @step f k N i j hr hij hj hcol ih =>
    have hg : ∀ x, x < n → (if f x = j then i else cnt j (f x)) < k - 1 := fun x hx => by
      have := ih.lt x hx
      split
      · omega
      · exact cnt_lt (by assumption) hj this
    -- the class that place A' stands for
    have hcls : ∀ A' x, x < n → ((if f x = j then i else cnt j (f x)) = A' ↔ f x = skip j A' ∨ (skip j A' = i ∧ f x = j)) := by
      intro A' x hx
      by_cases e : f x = j
      · rw [if_pos e]
        constructor
        · intro h; exact Or.inr ⟨by rw [← h, skip_i hij], e⟩
        · rintro (h | ⟨h, _⟩)
          · exact absurd (h.symm.trans e) (skip_ne j A')
          · have h5 := cnt_skip j A'
            rw [h, cnt_i hij] at h5
            exact h5
      · rw [if_neg e]
        constructor
        · intro h; exact Or.inl (by rw [← h, skip_cnt e])
        · rintro (h | ⟨_, h⟩)
          · rw [h, cnt_skip]
          · exact absurd h e
    refine ⟨⟨tabOf_len _ _ _, fun _ hx => mem_tabOf hx⟩, hg, ?_, ?_⟩
    · intro A' hA
      obtain ⟨x, hx, e⟩ := ih.on (skip j A') (skip_lt hA)
      exact ⟨x, hx, (hcls A' x hx).2 (Or.inl e)⟩
    · intro A' b hA hb
      have hA2 : skip j A' < k := skip_lt hA
      show ent (joinT N i j k) A' (if f b = j then i else cnt j (f b)) = _
      unfold joinT
      rw [ent_tabOf hA (hg b hb)]
      -- the column is that of b's class
      have hc : ∀ C, C < k → ent N C (skip j (if f b = j then i else cnt j (f b))) = cs M n f C b := by
        intro C hC
        by_cases e : f b = j
        · rw [if_pos e, skip_i hij, hcol C hC, ← e]
          exact ih.val C b hC hb
        · rw [if_neg e, skip_cnt e]
          exact ih.val C b hC hb
      unfold joinE
      unfold cs
      by_cases e : skip j A' = i
      · rw [if_pos e, hc _ hA2, hc j hj]
        unfold cs
        rw [← sumN_add]
        refine sumN_congr fun x hx => ?_
        have h1 := hcls A' x hx
        by_cases e1 : f x = j
        · have h2 : f x ≠ skip j A' := by rw [e1]; exact fun h => skip_ne j A' h.symm
          rw [if_neg h2, if_pos e1, if_pos (h1.2 (Or.inr ⟨e, e1⟩))]
          omega
        · by_cases e2 : f x = skip j A'
          · rw [if_pos e2, if_neg e1, if_pos (h1.2 (Or.inl e2))]
            omega
          · rw [if_neg e2, if_neg e1, if_neg fun h => (h1.1 h).elim e2 fun h3 => e1 h3.2]
            omega
      · rw [if_neg e, hc _ hA2]
        unfold cs
        refine sumN_congr fun x hx => ?_
        have h1 := hcls A' x hx
        by_cases e2 : f x = skip j A'
        · rw [if_pos e2, if_pos (h1.2 (Or.inl e2))]
        · rw [if_neg e2, if_neg fun h => (h1.1 h).elim e2 fun h3 => e h3.1]
/-- No two columns are alike. -/
def Nrm (k : Nat) (N : Mx) : Prop := ∀ x y, x < k → y < k → (∀ A, A < k → ent N A x = ent N A y) → x = y
/-- What joins take together is together in what cannot be joined further. -/
theorem Reach.ker {M : Mx} {n : Nat} (hM : Sq n M) {f : Nat → Nat} {k : Nat} {N : Mx} (h : Reach M n f k N) {g : Nat → Nat} {k' : Nat} {L : Mx} (hg : Quot M n g k' L) (hn : Nrm k' L) :
    ∀ x y, x < n → y < n → f x = f y → g x = g y := by
  induction h with
  | base => intro x y _ _ e; exact congrArg g e
  | @step f k N i j hr hij hj hcol ih =>
    have hq := hr.quot hM
    have key : ∀ x y, x < n → y < n → f x = i → f y = j → g x = g y := by
      intro x y hx hy e1 e2
      refine hn _ _ (hg.lt x hx) (hg.lt y hy) fun A hA => ?_
      rw [hg.val A x hA hx, hg.val A y hA hy]
      have h0 : sumN n (fun z => if g z = A then ent M z x - ent M z y else 0) = 0 :=
        sumN_made (S := fun z => g z = A) hq.lt (t := fun z => ent M z x - ent M z y) (fun C hC => by
          have h1 := hq.val C x hC hx
          have h2 := hq.val C y hC hy
          rw [e1] at h1
          rw [e2] at h2
          have h3 := hcol C hC
          rw [h1, h2] at h3
          unfold cs at h3
          have h4 := sumN_sub n (fun z => if f z = C then ent M z x else 0) (fun z => if f z = C then ent M z y else 0)
          rw [h3] at h4
          rw [show sumN n (fun z => if f z = C then ent M z x - ent M z y else 0) = sumN n (fun z => (if f z = C then ent M z x else 0) - (if f z = C then ent M z y else 0)) from sumN_congr fun z _ => by split <;> omega, h4]
          omega) (fun z z' hz hz' e => by show g z = A ↔ g z' = A; rw [ih z z' hz hz' e])
      unfold cs
      have h4 := sumN_sub n (fun z => if g z = A then ent M z x else 0) (fun z => if g z = A then ent M z y else 0)
      rw [show sumN n (fun z => if g z = A then ent M z x - ent M z y else 0) = sumN n (fun z => (if g z = A then ent M z x else 0) - (if g z = A then ent M z y else 0)) from sumN_congr fun z _ => by split <;> omega, h4] at h0
      omega
    intro x y hx hy e
    have e' : (if f x = j then i else cnt j (f x)) = (if f y = j then i else cnt j (f y)) := e
    by_cases h1 : f x = j <;> by_cases h2 : f y = j
    · exact ih x y hx hy (by rw [h1, h2])
    · rw [if_pos h1, if_neg h2] at e'
      have h3 := skip_cnt h2
      rw [← e', skip_i hij] at h3
      exact (key y x hy hx h3.symm h1).symm
    · rw [if_neg h1, if_pos h2] at e'
      have h3 := skip_cnt h1
      rw [e', skip_i hij] at h3
      exact key x y hx hy h3.symm h2
    · rw [if_neg h1, if_neg h2] at e'
      have h3 := skip_cnt h1
      rw [e', skip_cnt h2] at h3
      exact ih x y hx hy h3.symm
/-- Alike, in any numbering. -/
def Alk (k : Nat) (N : Mx) (k' : Nat) (L : Mx) : Prop := k = k' ∧ ∃ p q, Inv k p q ∧ ∀ A B, A < k → B < k → ent N A B = ent L (p A) (p B)
theorem Quot.alike {M : Mx} {n : Nat} {f g : Nat → Nat} {k k' : Nat} {N L : Mx} (hf : Quot M n f k N) (hg : Quot M n g k' L) (h1 : ∀ x y, x < n → y < n → f x = f y → g x = g y) (h2 : ∀ x y, x < n → y < n → g x = g y → f x = f y) : Alk k N k' L := by
  have hrep : ∀ A, ∃ x, A < k → x < n ∧ f x = A := fun A => by
    by_cases h : A < k
    · obtain ⟨x, hx⟩ := hf.on A h
      exact ⟨x, fun _ => hx⟩
    · exact ⟨0, fun h' => absurd h' h⟩
  have hrep' : ∀ A, ∃ x, A < k' → x < n ∧ g x = A := fun A => by
    by_cases h : A < k'
    · obtain ⟨x, hx⟩ := hg.on A h
      exact ⟨x, fun _ => hx⟩
    · exact ⟨0, fun h' => absurd h' h⟩
  obtain ⟨r, hr⟩ := Classical.axiomOfChoice hrep
  obtain ⟨s, hs⟩ := Classical.axiomOfChoice hrep'
  have hp : ∀ A, A < k → g (r A) < k' ∧ f (s (g (r A))) = A := fun A hA => by
    have h3 := hr A hA
    have h4 := hg.lt _ h3.1
    have h5 := hs _ h4
    exact ⟨h4, by rw [h2 _ _ h5.1 h3.1 h5.2, h3.2]⟩
  have hq : ∀ A, A < k' → f (s A) < k ∧ g (r (f (s A))) = A := fun A hA => by
    have h3 := hs A hA
    have h4 := hf.lt _ h3.1
    have h5 := hr _ h4
    exact ⟨h4, by rw [h1 _ _ h5.1 h3.1 h5.2, h3.2]⟩
  have hk : k = k' := by
    have a1 := inj_le (n := k) (k := k') (f := fun A => g (r A)) (fun A hA => (hp A hA).1) (fun A B hA hB e => by
      have e' : g (r A) = g (r B) := e
      rw [← (hp A hA).2, e', (hp B hB).2])
    have a2 := inj_le (n := k') (k := k) (f := fun A => f (s A)) (fun A hA => (hq A hA).1) (fun A B hA hB e => by
      have e' : f (s A) = f (s B) := e
      rw [← (hq A hA).2, e', (hq B hB).2])
    omega
  subst hk
  refine ⟨rfl, fun A => g (r A), fun A => f (s A), ⟨hp, hq⟩, fun A B hA hB => ?_⟩
  have h3 := hr A hA
  have h4 := hr B hB
  have e1 := hf.val A (r B) hA h4.1
  rw [h4.2] at e1
  rw [e1]
  show _ = ent L (g (r A)) (g (r B))
  rw [hg.val _ _ (hp A hA).1 h4.1]
  unfold cs
  refine sumN_congr fun x hx => ?_
  by_cases e : f x = A
  · rw [if_pos e, if_pos (h1 _ _ hx h3.1 (by rw [e, h3.2]))]
  · rw [if_neg e, if_neg fun e2 => e (by rw [h2 _ _ hx h3.1 e2, h3.2])]
/-- Two ways of joining until nothing is left to join end alike. -/
theorem Reach.conf {M : Mx} {n : Nat} (hM : Sq n M) {f g : Nat → Nat} {k k' : Nat} {N L : Mx} (hf : Reach M n f k N) (hg : Reach M n g k' L) (hN : Nrm k N) (hL : Nrm k' L) : Alk k N k' L :=
  (hf.quot hM).alike (hg.quot hM) (hf.ker hM (hg.quot hM) hL) (hg.ker hM (hf.quot hM) hN)
/-- The same over another numbering. -/
theorem Quot.rename {c d : Mx} {n : Nat} {p q : Nat → Nat} (hi : Inv n p q) (he : ∀ i j, i < n → j < n → ent c i j = ent d (p i) (p j)) {g : Nat → Nat} {k : Nat} {L : Mx} (h : Quot d n g k L) : Quot c n (fun x => g (p x)) k L := by
  refine ⟨h.sq, fun i hi' => h.lt _ (hi.1 i hi').1, fun A hA => ?_, fun A b hA hb => ?_⟩
  · obtain ⟨x, hx, e⟩ := h.on A hA
    exact ⟨q x, (hi.2 x hx).1, by show g (p (q x)) = A; rw [(hi.2 x hx).2, e]⟩
  · show ent L A (g (p b)) = _
    rw [h.val A (p b) hA (hi.1 b hb).1]
    unfold cs
    rw [← sumN_perm hi fun i => if g i = A then ent d i (p b) else 0]
    refine sumN_congr fun x hx => ?_
    rw [he x b hx hb]
theorem Reach.rename_ker {c d : Mx} {n : Nat} (hc : Sq n c) (hd : Sq n d) {p q : Nat → Nat} (hi : Inv n p q) (he : ∀ i j, i < n → j < n → ent c i j = ent d (p i) (p j)) {f g : Nat → Nat} {k k' : Nat} {N L : Mx}
    (hf : Reach c n f k N) (hg : Reach d n g k' L) (hN : Nrm k N) (hL : Nrm k' L) : Alk k N k' L := by
  have h1 := (hg.quot hd).rename hi he
  have he' : ∀ i j, i < n → j < n → ent d i j = ent c (q i) (q j) := fun i j hi' hj => by
    rw [he _ _ (hi.2 i hi').1 (hi.2 j hj).1, (hi.2 i hi').2, (hi.2 j hj).2]
  have h2 := (hf.quot hc).rename hi.symm he'
  refine (hf.quot hc).alike h1 (hf.ker hc h1 hL) fun x y hx hy e => ?_
  have h3 := hg.ker hd h2 hN (p x) (p y) (hi.1 x hx).1 (hi.1 y hy).1 e
  have h4 : f (q (p x)) = f (q (p y)) := h3
  rw [(hi.1 x hx).2, (hi.1 y hy).2] at h4
  exact h4
end Go.Proofs.YtlkgkfgpnnahdaaGreat
end

section
/-
  Joining until nothing is left: what the code's own loop reaches, and that it is fully joined where the numbers are small.
-/
namespace Go.Proofs.YtlkgkfgpnnahdaaGreat
open Go.RowKit Go.Deep Go.Sd
theorem allF_of {f : Nat → Bool} : ∀ {m k : Nat}, (∀ j, j < m → f (k + j) = true) → allF f m k = true
  | 0, _, _ => rfl
  | m + 1, k, h => by
    have h0 := h 0 (by omega)
    rw [Nat.add_zero] at h0
    show (if f k = true then allF f m (k + 1) else false) = true
    rw [if_pos h0]
    exact allF_of fun j hj => by
      have := h (j + 1) (by omega)
      rw [show k + 1 + j = k + (j + 1) by omega]
      exact this
theorem allF_get {f : Nat → Bool} : ∀ {m k : Nat}, allF f m k = true → ∀ j, j < m → f (k + j) = true
  | 0, _, _, j, hj => by omega
  | m + 1, k, h, j, hj => by
    have h1 : (if f k = true then allF f m (k + 1) else false) = true := h
    by_cases hk : f k = true
    · rw [if_pos hk] at h1
      cases j with
      | zero => exact hk
      | succ j => rw [show k + (j + 1) = k + 1 + j by omega]; exact allF_get h1 j (by omega)
    · rw [if_neg hk] at h1; cases h1
theorem colsEq_iff {m : Mx} {i j n : Nat} : colsEq m i j n = true ↔ ∀ k, k < n → ent m k i = ent m k j := by
  unfold colsEq
  constructor
  · intro h k hk
    have := allF_get h k hk
    rw [Nat.zero_add] at this
    exact of_decide_eq_true this
  · intro h
    exact allF_of fun j hj => by rw [Nat.zero_add]; exact decide_eq_true (h j hj)
theorem joinOk_nat {m : Mx} {i j : Nat} : joinOk m i j = true ↔ isMat m = true ∧ (i < j ∧ j < m.length) ∧ (∀ k, k < m.length → ent m k i = ent m k j) ∧ isMat (joinT m i j m.length) = true := by
  unfold joinOk
  rw [Bool.and_eq_true, Bool.and_eq_true, Bool.and_eq_true, decide_eq_true_eq, Int.toNat_natCast, Int.toNat_natCast, colsEq_iff]
  constructor
  · rintro ⟨⟨⟨h1, h2⟩, h3⟩, h4⟩
    exact ⟨h1, ⟨by omega, by omega⟩, h3, h4⟩
  · rintro ⟨h1, h2, h3, h4⟩
    exact ⟨⟨⟨h1, by omega⟩, h3⟩, h4⟩
theorem rowF_some {m : Mx} {i : Nat} {x : Mx} : ∀ {g j : Nat}, rowF m i g j = some x → ∃ j', j ≤ j' ∧ j' < j + g ∧ joinOk m i j' = true ∧ x = joinV m i j'
  | 0, _, h => by cases h
  | g + 1, j, h => by
    unfold rowF at h
    by_cases e : joinOk m i j = true
    · rw [if_pos e] at h
      exact ⟨j, Nat.le_refl _, by omega, e, (Option.some.inj h).symm⟩
    · rw [if_neg e] at h
      obtain ⟨j', h1, h2, h3⟩ := rowF_some h
      exact ⟨j', by omega, by omega, h3⟩
theorem rowF_none {m : Mx} {i : Nat} : ∀ {g j : Nat}, rowF m i g j = none → ∀ j', j ≤ j' → j' < j + g → ¬ joinOk m i j' = true
  | 0, _, _, j', h1, h2 => by omega
  | g + 1, j, h, j', h1, h2 => by
    unfold rowF at h
    by_cases e : joinOk m i j = true
    · rw [if_pos e] at h; cases h
    · rw [if_neg e] at h
      by_cases e2 : j' = j
      · rw [e2]; exact e
      · exact rowF_none h j' (by omega) (by omega)
theorem firstF_get {m : Mx} {x : Mx} : ∀ {g i : Nat}, firstF m g i = some x → ∃ i' j' : Nat, i ≤ i' ∧ joinOk m i' j' = true ∧ x = joinV m i' j'
  | 0, _, h => by cases h
  | g + 1, i, h => by
    cases e : rowF m i (m.length - (i + 1)) (i + 1) with
    | some y =>
      rw [firstF_some e] at h
      obtain ⟨j', _, _, h3, h4⟩ := rowF_some e
      exact ⟨i, j', Nat.le_refl _, h3, by rw [← Option.some.inj h, h4]⟩
    | none =>
      rw [firstF_none e] at h
      obtain ⟨i', j', h1, h2⟩ := firstF_get h
      exact ⟨i', j', by omega, h2⟩
theorem firstF_no {m : Mx} : ∀ {g i : Nat}, firstF m g i = none → ∀ i' j' : Nat, i ≤ i' → i' < i + g → i' < j' → j' < m.length → ¬ joinOk m i' j' = true
  | 0, _, _, i', j', h1, h2, _, _ => by omega
  | g + 1, i, h, i', j', h1, h2, h3, h4 => by
    cases e : rowF m i (m.length - (i + 1)) (i + 1) with
    | some y => rw [firstF_some e] at h; cases h
    | none =>
      rw [firstF_none e] at h
      by_cases e2 : i' = i
      · subst e2
        exact rowF_none e j' (by omega) (by omega)
      · exact firstF_no h i' j' (by omega) (by omega) h3 h4
theorem firstJ_get {m x : Mx} (h : firstJ m = some x) : ∃ i j, i < j ∧ j < m.length ∧ (∀ k, k < m.length → ent m k i = ent m k j) ∧ x = joinT m i j m.length ∧ isMat x = true := by
  obtain ⟨i, j, _, h1, h2⟩ := firstF_get h
  have h3 := joinOk_nat.1 h1
  unfold joinV at h2
  rw [if_pos h1, Int.toNat_natCast, Int.toNat_natCast] at h2
  exact ⟨i, j, h3.2.1.1, h3.2.1.2, h3.2.2.1, h2, by rw [h2]; exact h3.2.2.2⟩
theorem firstJ_no {m : Mx} (h : firstJ m = none) {i j : Nat} (hij : i < j) (hj : j < m.length) : ¬ joinOk m i j = true :=
  firstF_no h i j (by omega) (by omega) hij hj
/-- The loop's end is reached by joins, and nothing is left for the code to join. -/
theorem joinIter_reach {M : Mx} {n : Nat} (hM : Sq n M) : ∀ (g : Nat) {f : Nat → Nat} {k : Nat} {N : Mx}, Reach M n f k N → isMat N = true → k ≤ g → ∃ f' k', Reach M n f' k' (joinIter g N) ∧ isMat (joinIter g N) = true ∧ firstJ (joinIter g N) = none
  | 0, f, k, N, hr, hm, hg => by
    have h1 := (hr.quot hM).sq.1
    have h2 := (isMat_sq hm).2
    omega
  | g + 1, f, k, N, hr, hm, hg => by
    have hl := (hr.quot hM).sq.1
    cases e : firstJ N with
    | none =>
      rw [joinIter_none e]
      exact ⟨f, k, hr, hm, e⟩
    | some x =>
      rw [joinIter_some e]
      obtain ⟨i, j, h1, h2, h3, h4, h5⟩ := firstJ_get e
      rw [hl] at h2 h3 h4
      subst h4
      exact joinIter_reach hM g (hr.step h1 h2 h3) h5 (by omega)
/-- Numbers so small that no join is ever held up. -/
def Bdd (M : Mx) (n : Nat) : Prop := (∀ i b, i < n → b < n → 0 ≤ ent M i b) ∧ n ≤ 9 ∧ ((∀ b, b < n → sumN n (fun i => ent M i b) ≤ 1000000) ∨ ∃ v, ∀ i b, i < n → b < n → (i ≠ v ∨ b ≠ v) → ent M i b ≤ 9)
theorem cs_le {M : Mx} {n : Nat} (h0 : ∀ i b, i < n → b < n → 0 ≤ ent M i b) (f : Nat → Nat) (A : Nat) {b : Nat} (hb : b < n) : 0 ≤ cs M n f A b ∧ cs M n f A b ≤ sumN n (fun i => ent M i b) := by
  unfold cs
  constructor
  · exact sumN_nonneg fun i hi => by
      split
      · exact h0 i b hi hb
      · exact Int.le_refl _
  · exact sumN_le fun i hi => by
      split
      · exact Int.le_refl _
      · exact h0 i b hi hb
theorem sumN_const (n : Nat) (c : Int) : sumN n (fun _ => c) = n * c := by
  induction n with
  | zero => simp [sumN]
  | succ n ih => rw [sumN, ih, Int.natCast_succ, Int.add_mul, Int.one_mul]
theorem isMat_mk9 {k : Nat} {N : Mx} (hs : Sq k N) (h1 : 1 ≤ k) (h9 : k ≤ 9) (h : ∀ A B, A < k → B < k → 0 ≤ ent N A B ∧ ent N A B ≤ 1000000) : isMat N = true := by
  unfold isMat
  rw [Bool.and_eq_true]
  refine ⟨decide_eq_true (by rw [hs.1]; omega), ?_⟩
  rw [List.all_eq_true]
  intro r hr
  obtain ⟨A, hA⟩ := List.getElem?_of_mem hr
  have hA2 := (List.getElem?_eq_some_iff.1 hA).1
  rw [rowOk_yes (by rw [hs.1]; exact hs.2 r hr), List.all_eq_true]
  intro x hx
  obtain ⟨B, hB⟩ := List.getElem?_of_mem hx
  have hB2 := (List.getElem?_eq_some_iff.1 hB).1
  rw [hs.2 r hr] at hB2
  have h2 := h A B (by rw [← hs.1]; exact hA2) hB2
  have h3 : ent N A B = x := by simp [ent, List.getD, hA, hB]
  rw [h3] at h2
  unfold entOk
  exact decide_eq_true h2
theorem isMat_ent {k : Nat} {N : Mx} (hs : Sq k N) (h : isMat N = true) {A B : Nat} (hA : A < k) (hB : B < k) : 0 ≤ ent N A B ∧ ent N A B ≤ 1000000 := by
  obtain ⟨r, hr, hx⟩ := ent_mem hs.2 (by rw [hs.1]; exact hA) hB
  exact isMat_bd h r hr _ hx
/-- Where the numbers are small, what the code cannot join cannot be joined. -/
theorem Bdd.nrm {M : Mx} {n : Nat} (hM : Sq n M) (hb : Bdd M n) {f : Nat → Nat} {k : Nat} {N : Mx} (hr : Reach M n f k N) (hN : isMat N = true) (hf : firstJ N = none) : Nrm k N := by
  have hq := hr.quot hM
  have hk := (isMat_sq hN).2
  rw [hq.sq.1] at hk
  -- one way round is enough
  have key : ∀ x y, x < y → y < k → (∀ A, A < k → ent N A x = ent N A y) → False := by
    intro x y hxy hy hcol
    have hs := hr.step hxy hy hcol
    have hq2 := hs.quot hM
    apply firstJ_no hf hxy (by rw [hq.sq.1]; exact hy)
    rw [joinOk_nat, hq.sq.1]
    refine ⟨hN, ⟨hxy, hy⟩, hcol, ?_⟩
    refine isMat_mk9 hq2.sq (by omega) (by omega) fun A B hA hB => ?_
    obtain ⟨b, hbn, hfb⟩ := hq2.on B hB
    rw [← hfb, hq2.val A b hA hbn]
    generalize hf' : (fun z => if f z = y then x else cnt y (f z)) = f'
    have h1 := cs_le hb.1 f' A hbn
    refine ⟨h1.1, ?_⟩
    rcases hb.2.2 with h2 | ⟨v, h2⟩
    · exact Int.le_trans h1.2 (h2 b hbn)
    · -- at most 81 but for the one great number
      have h3 : sumN n (fun i => if i = v ∧ b = v then 0 else ent M i b) ≤ n * 9 := by
        rw [← sumN_const]
        refine sumN_le fun i hi => ?_
        by_cases e : i = v ∧ b = v
        · rw [if_pos e]; decide
        · rw [if_neg e]
          exact h2 i b hi hbn (by omega)
      have h9 := hb.2.1
      by_cases hbv : b = v
      · subst hbv
        -- the great number is M b b
        have h4 : sumN n (fun i => ent M i b) = sumN n (fun i => if i = b ∧ b = b then 0 else ent M i b) + ent M b b := by
          have h5 := sumN_one hbn fun i => ent M i b
          rw [← h5, ← sumN_add]
          refine sumN_congr fun i _ => ?_
          by_cases e : i = b
          · rw [if_pos ⟨e, rfl⟩, if_pos e.symm]; omega
          · rw [if_neg fun h => e h.1, if_neg fun h => e h.symm]; omega
        -- a class other than b's column: small
        have hsm : ∀ C z, z < n → z ≠ b → cs M n f C z ≤ n * 9 := fun C z hz hzb => by
          refine Int.le_trans (cs_le hb.1 f C hz).2 ?_
          rw [← sumN_const]
          exact sumN_le fun i hi => h2 i z hi hz (Or.inr hzb)
        have hbb : cs M n f (f b) b = ent N (f b) (f b) := (hq.val (f b) b (hq.lt b hbn) hbn).symm
        have hge : ent M b b ≤ cs M n f (f b) b := by
          unfold cs
          have h6 := sumN_term hbn (f := fun i => if f i = f b then ent M i b else 0) fun i hi => by
            split
            · exact hb.1 i b hi hbn
            · exact Int.le_refl _
          rw [if_pos rfl] at h6
          exact h6
        by_cases hx : f b = x
        · obtain ⟨z, hz, ez⟩ := hq.on y hy
          have h7 := hq.val x z (by omega) hz
          rw [ez, ← hcol x (by omega), ← hx, ← hbb, hx] at h7
          rw [hx] at hge
          have h8 := hsm x z hz (fun e => by rw [e, hx] at ez; omega)
          omega
        · by_cases hy2 : f b = y
          · obtain ⟨z, hz, ez⟩ := hq.on x (by omega)
            have h7 := hq.val y z hy hz
            rw [ez, hcol y hy, ← hy2, ← hbb, hy2] at h7
            rw [hy2] at hge
            have h8 := hsm y z hz (fun e => by rw [e, hy2] at ez; omega)
            omega
          · -- b's class stays as it was
            by_cases hA2 : f' b = A
            · have h7 : cs M n f' A b = cs M n f (f b) b := by
                unfold cs
                refine sumN_congr fun i hi => ?_
                have h8 : f' i = A ↔ f i = f b := by
                  rw [← hA2, ← hf']
                  show ((if f i = y then x else cnt y (f i)) = if f b = y then x else cnt y (f b)) ↔ _
                  rw [if_neg hy2]
                  constructor
                  · intro h
                    by_cases e : f i = y
                    · rw [if_pos e] at h
                      have := skip_cnt hy2
                      rw [← h, skip_i hxy] at this
                      exact absurd this.symm hx
                    · rw [if_neg e] at h
                      rw [← skip_cnt e, h, skip_cnt hy2]
                  · intro h
                    rw [h, if_neg hy2]
                by_cases e : f' i = A
                · rw [if_pos e, if_pos (h8.1 e)]
                · rw [if_neg e, if_neg fun h => e (h8.2 h)]
              rw [h7, hbb]
              exact (isMat_ent hq.sq hN (hq.lt b hbn) (hq.lt b hbn)).2
            · have h7 : cs M n f' A b ≤ sumN n (fun i => if i = b ∧ b = b then 0 else ent M i b) := by
                unfold cs
                refine sumN_le fun i hi => ?_
                by_cases e : f' i = A
                · rw [if_pos e, if_neg fun h => hA2 (by rw [← h.1]; exact e)]
                  exact Int.le_refl _
                · rw [if_neg e]
                  split
                  · exact Int.le_refl _
                  · exact hb.1 i b hi hbn
              omega
      · have h5 : sumN n (fun i => if i = v ∧ b = v then 0 else ent M i b) = sumN n (fun i => ent M i b) := sumN_congr fun i _ => if_neg fun h => hbv h.2
        rw [h5] at h3
        omega
  intro x y hx hy h
  rcases Nat.lt_trichotomy x y with h1 | h1 | h1
  · exact (key x y h1 hy h).elim
  · exact h1
  · exact (key y x h1 hx fun A hA => (h A hA).symm).elim
end Go.Proofs.YtlkgkfgpnnahdaaGreat
end

section
/-
  The draw of a chain of steps.
-/
namespace Go.Sd
open Go.RowKit Go.Deep
/-- A thing that lies nowhere. -/
def Res.none : Res := ⟨fun _ F => F = [], fun _ _ _ h _ => h, fun _ F h b hb => by rw [h] at hb; cases hb⟩
/-- Two things that are made besides, apart from each other. -/
theorem Sep.new2 {α β : Type} {R : OwnRel α} {S : OwnRel β} (hR : Held R) (hS : Held S) {lo : Nat} {w w' : World} {rs : List Res} (h : Sep lo w rs) (hb : Below w.heap.size w w') (hlo : lo ≤ w.heap.size) {v u : Value} {x : α} {y : β} (hn : Apart R S w.heap.size w' v x u y) : Sep lo w' (Res.of R hR v x :: Res.of S hS u y :: rs) := by
  obtain ⟨F, G, hF, hG, fF, fG, hd⟩ := hn
  obtain ⟨H, h1, h2, h3⟩ := h
  have h4 := h1.lt
  refine ⟨F ++ (G ++ H), ⟨F, _, rfl, hF, G, H, rfl, hG, h1.keep fun b hm => hb.block b (h4 b hm)⟩, List.nodup_append.2 ⟨fF.1, List.nodup_append.2 ⟨fG.1, h2, fun p hp q hq e => ?_⟩, fun p hp q hq e => ?_⟩, fun b hm => ?_⟩
  · subst e
    have := fG.2 p hp
    have := h4 p hq
    omega
  · subst e
    rcases List.mem_append.1 hq with hq | hq
    · exact hd p hp hq
    · have := fF.2 p hp
      have := h4 p hq
      omega
  · rcases List.mem_append.1 hm with hm | hm
    · exact Nat.le_trans hlo (fF.2 b hm)
    · rcases List.mem_append.1 hm with hm | hm
      · exact Nat.le_trans hlo (fG.2 b hm)
      · exact h3 b hm
end Go.Sd
namespace Go.Proofs.YtlkgkfgpnnahdaaGreat
open Go.RowKit Go.Deep Go.Sd
set_option linter.unusedSimpArgs false
/-! Matrices of numbers from 0 to 9. -/
def NineT (m : Tb) : Prop := Sq m.length m ∧ ∀ i j, i < m.length → j < m.length → 0 ≤ ent m i j ∧ ent m i j ≤ 9
theorem NineT.nil : NineT [] := ⟨⟨rfl, fun r hr => by cases hr⟩, fun i j hi => by simp at hi⟩
theorem bd_ent {m : Tb} {B : Int} {r : Nat} (hr : ∀ x, x ∈ m → x.length = r) (h : ∀ i j, i < m.length → j < r → -B ≤ ent m i j ∧ ent m i j ≤ B) : Bd B m := by
  intro x hx y hy
  obtain ⟨i, hi⟩ := List.getElem?_of_mem hx
  obtain ⟨j, hj⟩ := List.getElem?_of_mem hy
  have h1 := (List.getElem?_eq_some_iff.1 hi).1
  have h2 := (List.getElem?_eq_some_iff.1 hj).1
  have h3 := h i j h1 (by rw [← hr x hx]; exact h2)
  have e : ent m i j = y := by simp [ent, List.getD, hi, hj]
  rw [e] at h3
  exact h3
theorem NineT.bd {m : Tb} (h : NineT m) : Bd 9 m := bd_ent h.1.2 fun i j hi hj => by have := h.2 i j hi hj; omega
theorem bd_tabOf {p r : Nat} {B : Int} {f : Nat → Nat → Int} (h : ∀ i j, i < p → j < r → -B ≤ f i j ∧ f i j ≤ B) : Bd B (tabOf p r f) := by
  intro x hx y hy
  obtain ⟨i, hi, rfl⟩ := List.mem_map.1 hx
  obtain ⟨j, hj, rfl⟩ := List.mem_map.1 hy
  exact h i j (List.mem_range.1 hi) (List.mem_range.1 hj)
theorem bd_nil (B : Int) : Bd B [] := fun r hr => by cases hr
theorem split_nine {m : Tb} (hm : NineT m) (i : Int) (P : List Int) : NineT (splitV m i P) ∧ Bd 9 (pairRV m i P) ∧ Bd 9 (pairSV m i P) := by
  cases h : splitOk m i P with
  | false =>
    have e : splitV m i P = [] := by unfold splitV; rw [if_neg (by rw [h]; simp)]
    rw [e, pairRV_no h, pairSV_no h]
    exact ⟨NineT.nil, bd_nil 9, bd_nil 9⟩
  | true =>
    obtain ⟨I, n, hi, hn, hI, h8, hP, e1, e2, e3⟩ := splitOk_of h
    have h0 := h
    unfold splitOk at h0
    simp only [Bool.and_eq_true, decide_eq_true_eq] at h0
    have hI2 : i.toNat = I := by omega
    rw [hI2, hn] at h0
    have hp := partOk_of h0.1.1 hn hI h0.2
    have h9 := hm.2
    rw [hn] at h9
    have hR : ∀ A B, A < n + 1 → B < n → 0 ≤ splitR m I P n A B ∧ splitR m I P n A B ≤ 9 := fun A B hA hB => by
      have q1 := hp B hB
      have q2 := h9 I B hI hB
      unfold splitR
      split
      · omega
      · split
        · omega
        · exact h9 A B (by omega) hB
    rw [e1, e2, e3]
    refine ⟨⟨by rw [splitT_len]; exact splitT_sq m I P n, fun A B hA hB => ?_⟩, bd_tabOf fun A B _ _ => ?_, bd_tabOf fun A B hA hB => ?_⟩
    · rw [splitT_len] at hA hB
      by_cases hB2 : B < n
      · rw [ent_splitT hA hB2]; exact hR A B hA hB2
      · have hj2 : B = n := by omega
        subst hj2
        have e4 : ent (splitT m I P B) A B = splitR m I P B A I := by
          have e5 : (splitT m I P B).getD A [] = rowOf' B (splitR m I P B A) ++ [splitR m I P B A I] := by rw [List.getD_eq_getElem?_getD, splitT_at hA]; rfl
          unfold ent
          rw [e5, List.getD_eq_getElem?_getD, List.getElem?_append_right (by rw [rowOf_len]; exact Nat.le_refl _), rowOf_len, Nat.sub_self]
          rfl
        rw [e4]
        exact hR A I hA hI
    · unfold pairE
      split <;> omega
    · have := hR A B hA hB
      omega
theorem SmallD.nine {m : Tb} (h : SmallD m) : NineT m := by
  have hs := isMat_sq h.1
  refine ⟨hs.1, fun i j hi hj => ?_⟩
  obtain ⟨r, hr, hx⟩ := ent_mem hs.1.2 hi hj
  have h1 := isMat_bd h.1 r hr _ hx
  have h2 := h.2.2 r hr _ hx
  omega
/-! The lists. -/
def scell (y : Tr × Tr) : List Value := [slV y.1, slV y.2]
theorem scell_lay : Lay 2 scell := ⟨by decide, fun _ => rfl, fun x u hu => by
  simp [scell] at hu
  rcases hu with rfl | rfl <;> rfl⟩
abbrev ResTs (v : Value) (ts : List Tr) : Res := Res.of (OwnOf 24 (OValR slV)) (OwnOf.kept slV_kept).held v ts
abbrev ResSt (v : Value) (ys : List (Tr × Tr)) : Res := Res.row 26 2 scell v ys
/-- What the lists stand for. -/
structure ChI (ss : List Res) (ts : List Tr) (ms : List Tb) (ys : List (Tr × Tr)) (zs : List (Tb × Tb)) : Prop where
  tl : ts.length = ms.length
  t : ∀ (i : Nat) (t : Tr) (x : Tb), ts[i]? = some t → ms[i]? = some x → ResM (slV t) x ∈ ss
  yl : ys.length = zs.length
  y : ∀ (i : Nat) (y : Tr × Tr) (z : Tb × Tb), ys[i]? = some y → zs[i]? = some z → ResM (slV y.1) z.1 ∈ ss ∧ ResM (slV y.2) z.2 ∈ ss
  bt : ∀ x, x ∈ ms → Bd 9 x
  bz : ∀ z, z ∈ zs → (Bd 9 z.1 ∧ Bd 9 z.2) ∧ StpSz z
theorem ChI.more {ss : List Res} {ts : List Tr} {ms : List Tb} {ys : List (Tr × Tr)} {zs : List (Tb × Tb)} (h : ChI ss ts ms ys zs) (qs : List Res) : ChI (qs ++ ss) ts ms ys zs :=
  ⟨h.tl, fun i t x h1 h2 => List.mem_append_right _ (h.t i t x h1 h2), h.yl, fun i y z h1 h2 => ⟨List.mem_append_right _ (h.y i y z h1 h2).1, List.mem_append_right _ (h.y i y z h1 h2).2⟩, h.bt, h.bz⟩
theorem snoc_at {α : Type} {l : List α} {x y : α} {i : Nat} (h : (l ++ [x])[i]? = some y) : l[i]? = some y ∨ (i = l.length ∧ y = x) := by
  by_cases hi : i < l.length
  · rw [List.getElem?_append_left hi] at h
    exact Or.inl h
  · rw [List.getElem?_append_right (by omega)] at h
    have h1 := (List.getElem?_eq_some_iff.1 h).1
    simp at h1
    have : i = l.length := by omega
    subst this
    simp at h
    exact Or.inr ⟨rfl, h.symm⟩
theorem ChI.push {ss : List Res} {ts : List Tr} {ms : List Tb} {ys : List (Tr × Tr)} {zs : List (Tb × Tb)} (h : ChI ss ts ms ys zs) {t : Tr} {m : Tb} {y : Tr × Tr} {z : Tb × Tb} (h1 : ResM (slV t) m ∈ ss) (h2 : ResM (slV y.1) z.1 ∈ ss) (h3 : ResM (slV y.2) z.2 ∈ ss) (b1 : Bd 9 m) (b2 : (Bd 9 z.1 ∧ Bd 9 z.2) ∧ StpSz z) :
    ChI ss (ts ++ [t]) (ms ++ [m]) (ys ++ [y]) (zs ++ [z]) := by
  refine ⟨by simp [h.tl], fun i t' x ht hx => ?_, by simp [h.yl], fun i y' z' hy hz => ?_, fun x hx => ?_, fun z' hz => ?_⟩
  · rcases snoc_at ht with e1 | ⟨e1, rfl⟩ <;> rcases snoc_at hx with e2 | ⟨e2, rfl⟩
    · exact h.t i t' x e1 e2
    · have := (List.getElem?_eq_some_iff.1 e1).1; have := h.tl; omega
    · have := (List.getElem?_eq_some_iff.1 e2).1; have := h.tl; omega
    · exact h1
  · rcases snoc_at hy with e1 | ⟨e1, rfl⟩ <;> rcases snoc_at hz with e2 | ⟨e2, rfl⟩
    · exact h.y i y' z' e1 e2
    · have := (List.getElem?_eq_some_iff.1 e1).1; have := h.yl; omega
    · have := (List.getElem?_eq_some_iff.1 e2).1; have := h.yl; omega
    · exact ⟨h2, h3⟩
  · rcases List.mem_append.1 hx with hx | hx
    · exact h.bt x hx
    · simp at hx; subst hx; exact b1
  · rcases List.mem_append.1 hz with hz | hz
    · exact h.bz z' hz
    · simp at hz; subst hz; exact b2
theorem tab_get {lo : Nat} {w : World} {rs : List Res} (h : Sep lo w rs) {v : Value} {m : Tb} (hm : ResM v m ∈ rs) : Tab w v m := by
  obtain ⟨G, hG, -⟩ := h.get hm
  have hG' : OTab 3 46 w v m G := hG
  exact hG'.reads
theorem tabs_get {lo : Nat} {w : World} {rs : List Res} (h : Sep lo w rs) {v : Value} {ts : List Tr} {ms : List Tb} {ys : List (Tr × Tr)} {zs : List (Tb × Tb)} (hL : ResTs v ts ∈ rs) (hI : ChI rs ts ms ys zs) : Tabs w v ms := by
  obtain ⟨G, hG, -⟩ := h.get hL
  have hG' : OwnOf 24 (OValR slV) w v ts G := hG
  exact vals_tabs (OwnOf.reads (R' := ValR slV) (fun _ _ _ _ h => h.1) hG') hI.tl fun i t x ht hx => tab_get h (hI.t i t x ht hx)
theorem stps_get {lo : Nat} {w : World} {rs : List Res} {v : Value} {ts : List Tr} {ms : List Tb} {ys : List (Tr × Tr)} {zs : List (Tb × Tb)} (h : Sep lo w (ResSt v ys :: rs)) (hI : ChI rs ts ms ys zs) (hl : zs.length ≤ 1000) : StpsR w v zs := by
  obtain ⟨a, c, rfl⟩ := (h.headNew).rowSlice
  by_cases h0 : 0 < ys.length
  · obtain ⟨g, c', hv, hc1, hc2, -, hg, hx⟩ := (h.headNew).rowAt scell_lay h0
    simp only [Value.slice.injEq] at hv
    obtain ⟨rfl, -, rfl⟩ := hv
    refine ⟨by omega, _, c, by rw [hI.yl], by rw [← hI.yl]; exact hc1, by have : c ≤ maxLen := hc2; unfold maxLen at this; omega, by simp, fun _ => ⟨g, 0, rfl, hg, fun i z hz => ?_⟩⟩
    have hi := (List.getElem?_eq_some_iff.1 hz).1
    have hiy : i < ys.length := by rw [hI.yl]; exact hi
    have hy : ys[i]? = some ys[i] := List.getElem?_eq_getElem hiy
    have q := hI.y i _ z hy hz
    have t0 := (hx i _ 0 _ hy rfl).1
    have t1 := (hx i _ 1 _ hy rfl).1
    exact ⟨slV ys[i].1, slV ys[i].2, by simpa using t0, by simpa using t1, tab_get h.tail q.1, tab_get h.tail q.2⟩
  · have e : ys = [] := List.eq_nil_of_length_eq_zero (by omega)
    subst e
    have e2 : zs = [] := List.eq_nil_of_length_eq_zero (by rw [← hI.yl]; rfl)
    subst e2
    obtain ⟨F, hF, -⟩ := h.headNew
    have hF' : RowG 26 2 scell w (.slice a [].length c) [] F := hF
    obtain ⟨⟨-, ho⟩, -⟩ := hF'
    rcases ho with ⟨hv, -⟩ | ⟨b, cap, cur, hv, -, hg, hnc, hcm, hcs, -⟩
    · simp only [Value.slice.injEq] at hv
      obtain ⟨rfl, -, rfl⟩ := hv
      exact ⟨by simp, none, 0, rfl, by simp, by simp, by simp, by simp⟩
    · simp only [Value.slice.injEq] at hv
      obtain ⟨rfl, -, rfl⟩ := hv
      exact ⟨by simp, _, c, rfl, by simp, by have : c ≤ maxLen := hcm; unfold maxLen at this; omega, by simp, by simp⟩
theorem l1Below_any {lo : Nat} {w : World} {cb : Nat} {K : Value} {xs : List Int} {rs : List Res} {N : Nat} (hK : ∀ w', Below lo w w' → BytR w' K xs) (hc : Cur lo w cb K xs.length rs) (hlo : lo ≤ w.heap.size) (hN2 : N ≤ 256) :
    Calls Tryz.prog 42 #[.pointer (some ⟨cb, 0, none⟩), .int .i64 N] w fun e w' => ∃ x : Nat, e = .returned (.int .i64 x) ∧ (0 < N → x < N) ∧ Cur lo w' cb K xs.length rs ∧ Below lo w w' := by
  by_cases h0 : N = 0
  · subst h0
    refine (l1Below_zero (N := ((0 : Nat) : Int)) (by decide)).mono ?_
    rintro e w' ⟨rfl, rfl⟩
    exact ⟨0, rfl, by omega, hc, Below.refl _ _⟩
  · refine (l1Below_c hK hc hlo (by omega) hN2).mono ?_
    rintro e w' ⟨x, rfl, hx, hc', hb, -⟩
    exact ⟨x, rfl, fun _ => hx, hc', hb⟩
/-- A chain drawn. -/
def ChP (w' : World) (v1 v2 : Value) : Prop := ∃ (ms : List Tb) (zs : List (Tb × Tb)), (zs.length ≤ 2 ∧ (∀ x, x ∈ ms → Bd 9 x) ∧ ∀ z, z ∈ zs → Bd 9 z.1 ∧ Bd 9 z.2) ∧ Tabs w' v1 ms ∧ StpsR w' v2 zs
theorem ch_done {lo : Nat} {w : World} {cb : Nat} {K : Value} {n : Nat} {ss : List Res} {sv lv : Value} {ts : List Tr} {ms : List Tb} {ys : List (Tr × Tr)} {zs : List (Tb × Tb)} (hc : Cur lo w cb K n (ResSt sv ys :: ResTs lv ts :: ss)) (hI : ChI ss ts ms ys zs) (hl : ys.length ≤ 2) : ChP w lv sv := by
  obtain ⟨i, z, -, hs⟩ := hc
  have hzl : zs.length ≤ 2 := by rw [← hI.yl]; exact hl
  exact ⟨ms, zs, ⟨hzl, hI.bt, fun z hz => (hI.bz z hz).1⟩, tabs_get hs (by simp) (hI.more [Res.box cb [K, .int .i64 i, .int .i64 z], ResSt sv ys, ResTs lv ts]), stps_get hs.swap (hI.more [Res.box cb [K, .int .i64 i, .int .i64 z], ResTs lv ts]) (by omega)⟩
/-- The first step stored anew. -/
theorem ch_turn {lo : Nat} {w : World} {cb : Nat} {K : Value} {n : Nat} {ss : List Res} {lv : Value} {g sc : Nat} {ts : List Tr} {ms : List Tb} {ys : List (Tr × Tr)} {zs : List (Tb × Tb)} (hc : Cur lo w cb K n (ResSt (.slice (some ⟨g, 0, none⟩) ys.length sc) ys :: ResTs lv ts :: ss)) (hI : ChI ss ts ms ys zs) (hl : ys.length ≤ 2) (hlo : lo ≤ w.heap.size) (h0 : 0 < ys.length)
    {r1 r2 : Value} {z0 : Tb × Tb} (hz0 : zs[0]? = some z0) (t1 : Far (g + 1) w r1 z0.2) (t2 : Far (g + 1) w r2 z0.1) :
    ChP ((w.setCell ⟨g, 0, none⟩ r1).setCell ⟨g, 1, none⟩ r2) lv (.slice (some ⟨g, 0, none⟩) ys.length sc) := by
  obtain ⟨i, z, -, hs⟩ := hc
  have hzl : zs.length ≤ 2 := by rw [← hI.yl]; exact hl
  obtain ⟨g', c', hv, hc1, hc2, -, hg, hx⟩ := (hs.swap.headNew).rowAt scell_lay h0
  simp only [Value.slice.injEq, Option.some.injEq, Addr.mk.injEq] at hv
  obtain ⟨⟨rfl, -⟩, -, rfl⟩ := hv
  obtain ⟨G, hG, hfr, hK⟩ := hs.swap.head
  have hG' : RowG 26 2 scell w (.slice (some ⟨g, 0, none⟩) ys.length sc) ys G := hG
  obtain ⟨-, rfl⟩ := hG'
  have ho : Off [g] w ((w.setCell ⟨g, 0, none⟩ r1).setCell ⟨g, 1, none⟩ r2) := (Off.setCell (p := ⟨g, 0, none⟩) (by simp) _).trans (Off.setCell (p := ⟨g, 1, none⟩) (by simp) _)
  have hs2 := hK ((w.setCell ⟨g, 0, none⟩ r1).setCell ⟨g, 1, none⟩ r2) Res.none [] rfl (by simp) (by simp) hlo (fun b hb hn => ho.block b hb (by simpa [Value.ownBlock] using hn))
  have hF : ∀ b, b ∈ [g] → b < g + 1 := by simp
  have hy0 : ys[0]? = some ys[0] := List.getElem?_eq_getElem h0
  have k0 := (hx 0 _ 0 _ hy0 rfl).1
  have k1 := (hx 0 _ 1 _ hy0 rfl).1
  simp only [Nat.zero_mul, Nat.zero_add] at k0 k1
  have hz00 : 0 < zs.length := by rw [← hI.yl]; exact h0
  refine ⟨ms, zs.set 0 (z0.2, z0.1), ⟨by rw [List.length_set]; exact hzl, hI.bt, fun q hq => ?_⟩, tabs_get hs2 (by simp) (hI.more [Res.none, Res.box cb [K, .int .i64 i, .int .i64 z], ResTs lv ts]), ?_⟩
  · rcases List.mem_or_eq_of_mem_set hq with h1 | h1
    · exact (hI.bz q h1).1
    · rw [h1]
      have := (hI.bz z0 (List.mem_of_getElem? hz0)).1
      exact ⟨this.2, this.1⟩
  · refine ⟨by rw [List.length_set]; omega, _, sc, by rw [List.length_set, hI.yl], by rw [List.length_set, ← hI.yl]; exact hc1, by have : sc ≤ maxLen := hc2; unfold maxLen at this; omega, by simp, fun _ => ⟨g, 0, rfl, by simpa using hg, fun j q hq => ?_⟩⟩
    by_cases hj : j = 0
    · subst hj
      rw [List.getElem?_set_self hz00] at hq
      obtain rfl := Option.some.inj hq
      refine ⟨r1, r2, ?_, ?_, (t1.off ho hF).tab, (t2.off ho hF).tab⟩
      · simp only [Nat.zero_mul, Nat.add_zero]
        exact (World.cell?_setCell_other _ _ _ _ (by simp)).trans (World.cell?_setCell_same _ _ _ k0)
      · simp only [Nat.zero_mul, Nat.zero_add]
        exact World.cell?_setCell_same _ _ _ ((World.cell?_setCell_other _ _ _ _ (by simp)).trans k1)
    · rw [List.getElem?_set_ne (Ne.symm hj)] at hq
      have hji := (List.getElem?_eq_some_iff.1 hq).1
      have hjy : j < ys.length := by rw [hI.yl]; exact hji
      have hy : ys[j]? = some ys[j] := List.getElem?_eq_getElem hjy
      have q2 := hI.y j _ q hy hq
      have u0 := (hx j _ 0 _ hy rfl).1
      have u1 := (hx j _ 1 _ hy rfl).1
      refine ⟨slV ys[j].1, slV ys[j].2, ?_, ?_, tab_get hs2 (List.mem_cons_of_mem _ (List.mem_cons_of_mem _ (List.mem_cons_of_mem _ q2.1))), tab_get hs2 (List.mem_cons_of_mem _ (List.mem_cons_of_mem _ (List.mem_cons_of_mem _ q2.2)))⟩
      · rw [Nat.zero_add]
        exact ((World.cell?_setCell_other _ _ _ _ (by first | (simp; done) | (simp; omega))).trans (World.cell?_setCell_other _ _ _ _ (by first | (simp; done) | (simp; omega)))).trans u0
      · rw [Nat.zero_add]
        exact ((World.cell?_setCell_other _ _ _ _ (by first | (simp; done) | (simp; omega))).trans (World.cell?_setCell_other _ _ _ _ (by first | (simp; done) | (simp; omega)))).trans u1
set_option maxHeartbeats 8000000 in
set_option maxRecDepth 100000 in
theorem DrawIsChain_c {w : World} {vc : Value} {xs : List Int} (h : BytR w vc xs) :
    Calls Tryz.prog 9 #[vc] w fun e w' => ∃ v1 v2 : Value, e = .returned (.tuple #[v1, v2]) ∧ ChP w' v1 v2 ∧ Below w.heap.size w w' := by
  have HN := Lib.hid (l1New_c h)
  have HK := Lib.hid (fun w' (hb : Below w.heap.size w w') => BytR.frame _ _ _ _ h hb)
  obtain ⟨a, c, rfl, -⟩ := h.cellsB
  clear h
  go_enter Tryz.func9, Tryz.ntmps9
  go_wp2_with fail
  (with_reducible refine HN.out.mono ?_)
  rintro e w1 ⟨rfl, ⟨hh, hs⟩, hb⟩
  have HB := Lib.hid hb
  have HD := Lib.hid (show Calls Tryz.prog 41 #[.pointer (some ⟨w.heap.size, 0, none⟩), .int .i64 2] w1 _ from l4Draw_c (most := 2) (lo := w.heap.size) (cb := w.heap.size) (rs := []) (K := .slice a xs.length c) (xs := xs) (fun w' hb' => HK.out w' (hb.trans hb')) ⟨0, hh, Nat.zero_le _, hs⟩ hb.size (by omega) (by omega))
  clear hs hb HN
  go_wp2_with fail
  (with_reducible refine HD.out.mono ?_)
  rintro e w2 ⟨v0, rfl, m0, hm, hc, hb⟩
  have HB2 := Lib.hid (HB.out.trans hb)
  have hz2 : w.heap.size ≤ w2.heap.size := HB2.out.size
  have hn0 := hm.nine
  have hm4 := hm.2.1
  obtain ⟨a0, c0, rfl, -⟩ := (hc.out.headNew).tab.shape
  generalize hnm : m0.length = n0 at hc hm4 ⊢
  have Hnm := Lib.hid hnm
  have Hn0 := Lib.hid hn0
  clear hm hb HB HD hnm hn0
  obtain ⟨w3, e3, hb3⟩ : ∃ y, w2.alloc (.cells #[.slice a0 n0 c0] 24) = y ∧ Below w2.heap.size w2 y := ⟨_, rfl, (Below.refl _ _).alloc (Nat.le_refl _) _⟩
  have hnL : New (OwnOf 24 (OValR slV)) w2.heap.size w3 (.slice (some ⟨w2.heap.size, 0, none⟩) 1 1) [(a0, n0, c0)] := by
    rw [← e3]
    exact New.oneG slV_kept ⟨[], ⟨rfl, rfl⟩, by simp [Fresh]⟩ (Nat.le_refl _)
  have hc3 := hc.new (OwnOf.kept slV_kept).held hb3 hz2 hnL
  have hz3 : w.heap.size ≤ w3.heap.size := Nat.le_trans hz2 hb3.size
  obtain ⟨w4, e4, hb4⟩ : ∃ y, w3.alloc (.cells #[] 26) = y ∧ Below w3.heap.size w3 y := ⟨_, rfl, (Below.refl _ _).alloc (Nat.le_refl _) _⟩
  have hnS : New (RowG 26 2 scell) w3.heap.size w4 (.slice (some ⟨w3.heap.size, 0, none⟩) 0 0) [] := by
    rw [← e4]
    exact ⟨[w3.heap.size], ⟨⟨by simp, .inr ⟨w3.heap.size, 0, #[], rfl, Nat.zero_le _, heap_alloc_new w3 _, Nat.le_refl _, by simp [maxLen], by simp, by simp⟩⟩, by simp [Value.ownBlock]⟩, by simp [Fresh]⟩
  have HC4 := Lib.hid (show Cur w.heap.size w4 w.heap.size (.slice a xs.length c) xs.length (ResSt (.slice (some ⟨w3.heap.size, 0, none⟩) 0 0) [] :: ResTs (.slice (some ⟨w2.heap.size, 0, none⟩) 1 1) [(a0, n0, c0)] :: [ResM (.slice a0 n0 c0) m0]) from hc3.new RowG.held hb4 hz3 hnS)
  have HB4 := Lib.hid ((HB2.out.trans (hb3.mono hz2)).trans (hb4.mono hz3))
  have HI4 := Lib.hid (show ChI [ResM (.slice a0 n0 c0) m0] [(a0, n0, c0)] [m0] [] [] from ⟨rfl, fun i t x ht hx => by
    cases i with
    | zero =>
      simp at ht hx
      subst ht hx
      simp [slV]
    | succ i => simp at ht, rfl, fun i y z hy => by simp at hy, fun x hx => by simp at hx; subst hx; exact Hn0.out.bd, fun z hz => by simp at hz⟩)
  have HM4 := Lib.hid (show ResM (.slice a0 n0 c0) m0 ∈ [ResM (.slice a0 n0 c0) m0] from by simp)
  have HP := Lib.hid (l1Below_i (z := 3) (fun w' hb' => HK.out w' (HB4.out.trans hb')) HC4.out HB4.out.size (by decide) (by decide))
  clear hc hb3 hnL hc3 hz3 hb4 hnS HB2 hz2
  go_wp2_with fail
  (with_reducible refine HP.out.mono ?_)
  rintro e w5 ⟨kk, rfl, hkk, hc, hb, -⟩
  have hkk3 : kk ≤ 2 := by have : kk < 3 := hkk; omega
  have HC5 := Lib.hid hc
  have HB5 := Lib.hid (HB4.out.trans hb)
  clear hc hb HP hkk HC4 HB4 e3 e4
  go_wp2
  go_loopg [5, 6, 7, 8] kk (fun g mv lv sv kv wr => ∃ (k : Nat) (ma : Option Addr) (mn mc : Nat) (la : Option Addr) (ln lc : Nat) (sa : Option Addr) (sn sc : Nat) (m : Tb) (ts : List Tr) (ms : List Tb) (ys : List (Tr × Tr)) (zs : List (Tb × Tb)) (ss : List Res), mv = .slice ma mn mc ∧ lv = .slice la ln lc ∧ sv = .slice sa sn sc ∧ kv = .int .i64 k ∧ Hid (k = g) ∧ sn + k ≤ 2 ∧ Hid (ln = sn + 1) ∧ mn ≤ 4 + sn ∧ Hid (m.length = mn ∧ NineT m ∧ ts.length = ln ∧ ys.length = sn) ∧ Hid (ResM (.slice ma mn mc) m ∈ ss) ∧ Hid (ChI ss ts ms ys zs) ∧ Hid (Cur w.heap.size wr w.heap.size (.slice a xs.length c) xs.length (ResSt (.slice sa sn sc) ys :: ResTs (.slice la ln lc) ts :: ss)) ∧ Hid (Below w.heap.size w wr))
  case atStart => exact ⟨kk, a0, n0, c0, _, 1, 1, _, 0, 0, m0, _, _, _, _, _, rfl, rfl, rfl, rfl, Lib.hid rfl, by omega, Lib.hid rfl, hm4, Lib.hid ⟨Hnm.out, Hn0.out, rfl, rfl⟩, HM4, HI4, HC5, HB5⟩
  case round =>
    clear HI4 HM4 HC5 HB5 Hnm Hn0 hm4 hkk3
    obtain ⟨k, ma, mn, mc, la, ln, lc, sa, sn, sc, m, ts, ms, ys, zs, ss, rfl, rfl, rfl, rfl, hkg, hsn, hln, hmn, HL, HM, HI, HC, HB⟩ := hrel
    obtain ⟨wB, rfl⟩ : ∃ x, x = wr := ⟨_, rfl⟩
    have hz : w.heap.size ≤ wB.heap.size := HB.out.size
    by_cases hk0 : 0 < k
    · have hki : (k : Int) > 0 := by omega
      obtain ⟨g, rfl⟩ : ∃ x, gk = x + 1 := ⟨gk - 1, by have := hkg.out; omega⟩
      have hln3 : ln ≤ 3 := by have := hln.out; omega
      have HP := Lib.hid (l1Below_any (N := mn) (fun w' hb' => HK.out w' (HB.out.trans hb')) HC.out hz (by omega))
      go_wp2_with fail
      (with_reducible refine HP.out.mono ?_)
      rintro e w2 ⟨i, rfl, hi, hc, hb⟩
      have HB2 := Lib.hid (HB.out.trans hb)
      have hz2 : w.heap.size ≤ w2.heap.size := HB2.out.size
      have HC2 := Lib.hid (hc.new (OInts.kept 3).held ((Below.refl w2.heap.size w2).alloc (Nat.le_refl _) (.cells #[] 3)) hz2 (New.empty w2 (Nat.le_refl _)))
      have HBa := Lib.hid (HB2.out.alloc hz2 (.cells #[] 3))
      have Hi := Lib.hid hi
      clear hc hb HP HC HB hz HB2 hi
      go_wp2
      go_loopg [10, 11] mn (fun g2 pv jv wr => ∃ (j : Nat) (pa : Option Addr) (pc : Nat) (P : List Int), pv = .slice pa j pc ∧ jv = .int .i64 j ∧ j + g2 = mn ∧ Hid (P.length = j) ∧ Hid (Cur w.heap.size wr w.heap.size (.slice a xs.length c) xs.length (Res.ints 3 (.slice pa j pc) P :: ResSt (.slice sa sn sc) ys :: ResTs (.slice la ln lc) ts :: ss)) ∧ Hid (Below w.heap.size w wr))
      case atStart => exact ⟨0, _, 0, [], rfl, rfl, by omega, Lib.hid rfl, HC2, HBa⟩
      case round =>
        clear HC2 HBa hz2
        obtain ⟨j, pa, pc, P, rfl, rfl, hj, HPl, HC, HB⟩ := hrel
        obtain ⟨w3, rfl⟩ : ∃ x, x = wr := ⟨_, rfl⟩
        have hz : w.heap.size ≤ w3.heap.size := HB.out.size
        have HMm := Lib.hid (show ResM (.slice ma mn mc) m ∈ Res.ints 3 (.slice pa j pc) P :: ResSt (.slice sa sn sc) ys :: ResTs (.slice la ln lc) ts :: ss from List.mem_cons_of_mem _ (List.mem_cons_of_mem _ (List.mem_cons_of_mem _ HM.out)))
        by_cases hjn : j < mn
        · have hji : (j : Int) < (mn : Int) := by omega
          obtain ⟨g2, rfl⟩ : ∃ x, gk = x + 1 := ⟨gk - 1, by omega⟩
          have hmn0 : 0 < m.length := by rw [HL.out.1]; omega
          have hin : i < mn := Hi.out (by omega)
          obtain ⟨mb, mo, mc', hmv, -, he⟩ := (HC.out.tabOf HMm.out).entAt rfl HL.out.2.1.1.2 hmn0
          simp only [Value.slice.injEq] at hmv
          obtain ⟨rfl, -, rfl⟩ := hmv
          obtain ⟨b', o', c', gr, hb', -, gx⟩ := he.at (i := i) (by rw [HL.out.1]; exact hin) hmn0
          have gxj := gx j (by rw [HL.out.1]; exact hjn)
          have hx0 := HL.out.2.1.2 i j (by rw [HL.out.1]; exact hin) (by rw [HL.out.1]; exact hjn)
          rw [HL.out.1] at gr
          generalize ent m i j = x at gxj hx0
          obtain ⟨hx1, hx9⟩ := hx0
          have hii : (i : Int) < (mn : Int) := by omega
          clear gx he hb' hmn0
          have HP := Lib.hid (l1Below_i (z := x + 1) (fun w' hb => HK.out w' (HB.out.trans hb)) HC.out hz (by omega) (by omega))
          go_wp2_with fail
          (with_reducible refine HP.out.mono ?_)
          rintro e w4 ⟨t, rfl, -, hc, hb, -⟩
          have hz4 : w.heap.size ≤ w4.heap.size := Nat.le_trans hz hb.size
          obtain ⟨pa', pc', w5, hr5, hc5, hb5⟩ := hc.pushInt hz4 (t : Int) (by have := HPl.out; omega)
          rw [HPl.out] at hr5 hc5
          have Hr5 := Lib.hid hr5
          have HC5 := Lib.hid hc5
          have HB5 := Lib.hid ((HB.out.trans hb).trans hb5)
          have HPl5 := Lib.hid (show (P ++ [(t : Int)]).length = j + 1 from by simp [HPl.out])
          clear hc hb hr5 hc5 hb5 HP gxj gr HC HB hx1 hx9
          go_wp2_with (at_builtin; refine wpl_append_run rfl (.tmp 39) (.tmp 50) 46 rfl rfl rfl Hr5.out ?_)
          go_roundg g2
          case measure => omega
          case rel => exact ⟨j + 1, pa', pc', P ++ [(t : Int)], rfl, by go_num, by omega, HPl5, HC5, HB5⟩
        · have hji : ¬ ((j : Int) < (mn : Int)) := by omega
          have HSp := Lib.hid (spec_SplitPair_c (i := (i : Int)) (HC.out.tabOf HMm.out) (HC.out.intsOf (List.mem_cons_self)))
          go_wp2_with fail
          (with_reducible refine HSp.out.mono ?_)
          rintro e w4 ⟨r, s, rfl, hn, hb⟩
          obtain ⟨i0, z0, hi0, hs0⟩ := HC.out
          have hs4 := hs0.new2 (OTab.kept 3 46).held (OTab.kept 3 46).held hb hz hn
          have HS4 := Lib.hid hs4
          have HB4 := Lib.hid (HB.out.trans (hb.mono hz))
          have hz4 : w.heap.size ≤ w4.heap.size := HB4.out.size
          obtain ⟨ra, rc, rfl, -⟩ := (hs4.headNew).tab.shape
          obtain ⟨s1, s2, rfl, -⟩ := (hs4.tail.headNew).tab.shape
          have HSO := Lib.hid (spec_SplitOut_c (i := (i : Int)) (tab_get hs4 (List.mem_cons_of_mem _ (List.mem_cons_of_mem _ (List.mem_cons_of_mem _ HMm.out)))) (show Ints w4 (.slice pa j pc) P from by
            obtain ⟨G, hG, -⟩ := hs4.get (r := Res.ints 3 (.slice pa j pc) P) (by simp)
            have hG' : OInts 3 w4 (.slice pa j pc) P G := hG
            exact hG'.reads))
          have hpn : (pairRV m i P).length ≤ 9 ∧ (pairSV m i P).length ≤ 9 := ⟨(pairRV_bd m i P).1, (pairSV_bd m i P).1⟩
          have HBd := Lib.hid (split_nine HL.out.2.1 (i : Int) P)
          have HSz := Lib.hid (show StpSz (pairRV m i P, pairSV m i P) from ⟨⟨Nat.le_trans (pairRV_bd m i P).1 (by decide), fun r hr => Nat.le_trans ((pairRV_bd m i P).2 r hr) (by decide)⟩, Nat.le_trans (pairSV_bd m i P).1 (by decide), fun r hr => Nat.le_trans ((pairSV_bd m i P).2 r hr) (by decide)⟩)
          obtain ⟨ok, hok⟩ : ∃ ok, ok = splitOk m i P := ⟨_, rfl⟩
          rw [← hok]
          generalize hR : pairRV m i P = R at HS4 HBd HSz hpn HSO ⊢
          generalize hS : pairSV m i P = S at HS4 HBd HSz hpn HSO ⊢
          generalize hrn : R.length = rn at HS4 hpn HSO ⊢
          generalize hsn' : S.length = s0 at HS4 hpn HSO ⊢
          clear hn hb HSp HC HB hz hs4 hs0 hok hR hS hrn hsn'
          go_wp2_with fail
          (with_reducible refine HSO.out.mono ?_)
          rintro e w5 ⟨vm, rfl, hn, hb⟩
          have hs5 := HS4.out.new (OTab.kept 3 46).held hb hz4 hn
          have HB5 := Lib.hid (HB4.out.trans (hb.mono hz4))
          have hz5 : w.heap.size ≤ w5.heap.size := HB5.out.size
          obtain ⟨xa, xc, rfl, -⟩ := hn.tab.shape
          have hVl : (splitV m i P).length ≤ 4 + (sn + 1) := by
            unfold splitV
            split
            · rw [splitT_len, HL.out.1]; omega
            · simp
          have HB9 := Lib.hid HBd.out.1
          generalize hV : splitV m i P = V at hs5 hVl HB9 ⊢
          generalize hvn : V.length = vn at hs5 hVl ⊢
          have Hvn := Lib.hid hvn
          have hsL := Sep.front [ResM (.slice xa vn xc) V, ResM (.slice ra rn rc) R, ResM (.slice s1 s0 s2) S, Res.box w.heap.size [.slice a xs.length c, .int .i64 i0, .int .i64 z0], Res.ints 3 (.slice pa j pc) P, ResSt (.slice sa sn sc) ys] (r := ResTs (.slice la ln lc) ts) (b := ss) hs5
          obtain ⟨v6, w6, hr6, hs6, hb6⟩ := Sep.push (P := Tryz.prog) slV_kept 33 33 (.slice none 0 0) 24 Tryz.underlying33 infoT' rfl hsL hz5 (w1 := w5.alloc (.cells #[.slice xa vn xc] 24)) ((Below.refl _ _).alloc (Nat.le_refl _) _) (q := .slice xa vn xc) (x := (xa, vn, xc)) ⟨[], ⟨rfl, rfl⟩, by simp [Fresh]⟩ (bb := w5.heap.size) (c := 1) (World.cell?_alloc_at _ _ _ 0 rfl) (by rw [HL.out.2.2.1]; omega) (by rw [HL.out.2.2.1]; omega)
          have hz6 : w.heap.size ≤ w6.heap.size := Nat.le_trans hz5 hb6.size
          obtain ⟨l6, n6, c6, rfl⟩ := (hs6.headNew).slice
          have e6 : n6 = ln + 1 := by
            obtain ⟨F, hF, -⟩ := hs6.headNew
            obtain ⟨a', c', hv, -⟩ := (OwnOf.reads (R' := ValR slV) (fun _ _ _ _ h => h.1) hF).shape
            simp only [Value.slice.injEq] at hv
            rw [hv.2.1, List.length_append, HL.out.2.2.1]
            rfl
          subst e6
          have hsS := Sep.front [ResTs (.slice l6 (ln + 1) c6) (ts ++ [(xa, vn, xc)]), ResM (.slice xa vn xc) V, ResM (.slice ra rn rc) R, ResM (.slice s1 s0 s2) S, Res.box w.heap.size [.slice a xs.length c, .int .i64 i0, .int .i64 z0], Res.ints 3 (.slice pa j pc) P] (r := ResSt (.slice sa sn sc) ys) (b := ss) hs6
          obtain ⟨v7, w7, hr7, hs7, hb7⟩ := Sep.pushG (P := Tryz.prog) scell_lay 34 34 (.agg #[.slice none 0 0, .slice none 0 0]) 48 Tryz.underlying34 infoS rfl hsS hz6 (w1 := w6.alloc (.cells #[.slice ra rn rc, .slice s1 s0 s2] 26)) ((Below.refl _ _).alloc (Nat.le_refl _) _) ((ra, rn, rc), (s1, s0, s2)) (bb := w6.heap.size) 1 (fun q u hu => (World.cell?_alloc_at _ _ _ q rfl).trans (by
            match q, hu with
            | 0, hu => simpa [scell, slV] using hu
            | 1, hu => simpa [scell, slV] using hu
            | q + 2, hu => simp [scell] at hu)) (by rw [HL.out.2.2.2]; omega) (by rw [HL.out.2.2.2]; omega)
          obtain ⟨t7, tc7, rfl⟩ := (hs7.headNew).rowSlice
          have e7 : (ys ++ [(((ra, rn, rc) : Tr), ((s1, s0, s2) : Tr))]).length = sn + 1 := by rw [List.length_append, HL.out.2.2.2]; rfl
          rw [e7] at hr7 hs7
          have hs8 := Sep.front [ResSt (.slice t7 (sn + 1) tc7) (ys ++ [((ra, rn, rc), (s1, s0, s2))]), ResTs (.slice l6 (ln + 1) c6) (ts ++ [(xa, vn, xc)]), ResM (.slice xa vn xc) V, ResM (.slice ra rn rc) R, ResM (.slice s1 s0 s2) S] (r := Res.box w.heap.size [.slice a xs.length c, .int .i64 i0, .int .i64 z0]) (b := Res.ints 3 (.slice pa j pc) P :: ss) hs7
          have HC8 := Lib.hid (show Cur w.heap.size w7 w.heap.size (.slice a xs.length c) xs.length (ResSt (.slice t7 (sn + 1) tc7) (ys ++ [((ra, rn, rc), (s1, s0, s2))]) :: ResTs (.slice l6 (ln + 1) c6) (ts ++ [(xa, vn, xc)]) :: ([ResM (.slice xa vn xc) V, ResM (.slice ra rn rc) R, ResM (.slice s1 s0 s2) S, Res.ints 3 (.slice pa j pc) P] ++ ss)) from ⟨i0, z0, hi0, hs8⟩)
          have HI8 := Lib.hid (show ChI ([ResM (.slice xa vn xc) V, ResM (.slice ra rn rc) R, ResM (.slice s1 s0 s2) S, Res.ints 3 (.slice pa j pc) P] ++ ss) (ts ++ [(xa, vn, xc)]) (ms ++ [V]) (ys ++ [((ra, rn, rc), (s1, s0, s2))]) (zs ++ [(R, S)]) from (HI.out.more _).push (by simp [slV]) (by simp [slV]) (by simp [slV]) HB9.out.bd ⟨HBd.out.2, HSz.out⟩)
          have HM8 := Lib.hid (show ResM (.slice xa vn xc) V ∈ ([ResM (.slice xa vn xc) V, ResM (.slice ra rn rc) R, ResM (.slice s1 s0 s2) S, Res.ints 3 (.slice pa j pc) P] ++ ss) from by simp)
          have HL8 := Lib.hid (show V.length = vn ∧ NineT V ∧ (ts ++ [(xa, vn, xc)]).length = ln + 1 ∧ (ys ++ [(((ra, rn, rc) : Tr), ((s1, s0, s2) : Tr))]).length = sn + 1 from ⟨Hvn.out, HB9.out, by rw [List.length_append, HL.out.2.2.1]; rfl, e7⟩)
          have HB8 := Lib.hid ((HB5.out.trans hb6).trans hb7)
          have Hr6 := Lib.hid hr6
          have Hr7 := Lib.hid hr7
          clear hn hb HSO HB4 hz4 HS4 hs5 hsL hr6 hs6 hb6 hz6 hsS hr7 hs7 hb7 e7 hs8 hi0 HB5 hz5 hV hvn hpn HBd HSz
          go_wp2_with (first
            | (at_builtin; refine wpl_append_run rfl (.tmp 67) (.tmp 69) 33 rfl rfl rfl Hr6.out ?_)
            | (at_builtin; refine wpl_append_run rfl (.tmp 71) (.tmp 75) 34 rfl rfl rfl Hr7.out ?_))
          go_roundg g
          case measure => omega
          case rel => exact ⟨k - 1, _, vn, _, _, ln + 1, _, _, sn + 1, _, V, _, _, _, _, _, rfl, rfl, rfl, by congr 1; omega, Lib.hid (by have := hkg.out; omega), by omega, Lib.hid (by have := hln.out; omega), by omega, HL8, HM8, HI8, HC8, HB8⟩
    · have hki : ¬ ((k : Int) > 0) := by omega
      have hsl : sn ≤ 2 := by omega
      by_cases hs0 : 0 < sn
      · have hsi : (sn : Int) > 0 := by omega
        have HO := Lib.hid (l1Once_i (z := 6) (fun w' hb' => HK.out w' (HB.out.trans hb')) HC.out hz (by omega) (by omega))
        go_wp2_with fail
        (with_reducible refine HO.out.mono ?_)
        rintro e w2 ⟨q, rfl, hc, hb, -⟩
        have HC2 := Lib.hid hc
        have HB2 := Lib.hid (HB.out.trans hb)
        clear hc hb HO HC HB hz
        cases q with
        | false =>
          have HD := Lib.hid (ch_done HC2.out HI.out (by rw [HL.out.2.2.2]; exact hsl))
          go_wp2
          go_ret2
          exact ⟨_, _, rfl, HD.out, HB2.out⟩
        | true =>
          have hyl : 0 < ys.length := by rw [HL.out.2.2.2]; exact hs0
          obtain ⟨i0, z0, hi0, hs⟩ := HC2.out
          obtain ⟨g', c', hv, -, -, hlg, hg, hx⟩ := (hs.swap.headNew).rowAt scell_lay hyl
          simp only [Value.slice.injEq] at hv
          obtain ⟨rfl, -, rfl⟩ := hv
          have hy0 : ys[0]? = some ys[0] := List.getElem?_eq_getElem hyl
          have hzl : 0 < zs.length := by rw [← HI.out.yl]; exact hyl
          have hz0 : zs[0]? = some zs[0] := List.getElem?_eq_getElem hzl
          have k0 := hx 0 _ 0 _ hy0 rfl
          have k1 := hx 0 _ 1 _ hy0 rfl
          simp only [Nat.zero_mul, Nat.zero_add] at k0 k1
          have hq := HI.out.y 0 _ _ hy0 hz0
          have hsz := (HI.out.bz _ (List.getElem_mem hzl)).2
          have HT1 := tab_get hs.tail (List.mem_cons_of_mem _ (List.mem_cons_of_mem _ hq.1))
          have HT2 := tab_get hs.tail (List.mem_cons_of_mem _ (List.mem_cons_of_mem _ hq.2))
          obtain ⟨z1, hz1⟩ : ∃ z, z = zs[0] := ⟨_, rfl⟩
          rw [← hz1] at hz0 hsz HT1 HT2
          have HZ0 := Lib.hid hz0
          generalize ys[0] = y0 at k0 k1 HT1 HT2
          obtain ⟨⟨p1, p2, p3⟩, ⟨q1, q2, q3⟩⟩ := y0
          have HTu := Lib.hid (show Calls Tryz.prog 21 #[.agg #[.slice p1 p2 p3, .slice q1 q2 q3]] w2 _ from spec_TurnStep_c (x := z1) ⟨_, _, rfl, HT1, HT2⟩ hsz)
          have g0 : w2.cell? ⟨g', 0, none⟩ = some (.slice p1 p2 p3) := k0.1
          have g1 : w2.cell? ⟨g', 1, none⟩ = some (.slice q1 q2 q3) := k1.1
          have f0 : w2.frozen? ⟨g', 0, none⟩ = false := k0.2
          have f1 : w2.frozen? ⟨g', 1, none⟩ = false := k1.2
          have hz2 : w.heap.size ≤ w2.heap.size := HB2.out.size
          clear hx hy0 hz0 hq hsz HT1 HT2 hs k0 k1 hz1 hzl hi0
          go_wp2_with fail
          (with_reducible refine HTu.out.mono ?_)
          rintro e w3 ⟨r, rfl, hn, hb⟩
          obtain ⟨r1, r2, rfl, hn1, hn2⟩ := New.fst_snd hn
          obtain ⟨x1, x2, x3, rfl⟩ := hn1.slice
          obtain ⟨x4, x5, x6, rfl⟩ := hn2.slice
          have HF := Lib.hid (ch_turn (r1 := .slice x1 x2 x3) (r2 := .slice x4 x5 x6) (z0 := z1) (sc := sc) (g := g') (lv := .slice la ln lc) (w := w3) (K := .slice a xs.length c) (cb := w.heap.size) (lo := w.heap.size) (n := xs.length) (ss := ss) (by rw [HL.out.2.2.2]; exact HC2.out.below hb) HI.out (by rw [HL.out.2.2.2]; exact hsl) (Nat.le_trans hz2 hb.size) hyl HZ0.out ((Far.new hn1).mono hg) ((Far.new hn2).mono hg))
          rw [HL.out.2.2.2] at HF
          have HB3 := Lib.hid (((HB2.out.trans (hb.mono hz2)).setCell (p := ⟨g', 0, none⟩) hlg (.slice x1 x2 x3)).setCell (p := ⟨g', 1, none⟩) hlg (.slice x4 x5 x6))
          replace g0 := (hb.cell (p := ⟨g', 0, none⟩) hg).trans g0
          replace g1 := (hb.cell (p := ⟨g', 1, none⟩) hg).trans g1
          replace f0 := (hb.frozen (p := ⟨g', 0, none⟩) hg).trans f0
          replace f1 := (hb.frozen (p := ⟨g', 1, none⟩) hg).trans f1
          clear hn hn1 hn2 hb HTu HC2 HB2 hz2 hyl HZ0 HL HI HM
          go_wp2
          go_ret2
          exact ⟨_, _, rfl, HF.out, HB3.out⟩
      · have hsi : ¬ ((sn : Int) > 0) := by omega
        have HD := Lib.hid (ch_done HC.out HI.out (by rw [HL.out.2.2.2]; exact hsl))
        go_wp2
        go_ret2
        exact ⟨_, _, rfl, HD.out, HB.out⟩
end Go.Proofs.YtlkgkfgpnnahdaaGreat
end
