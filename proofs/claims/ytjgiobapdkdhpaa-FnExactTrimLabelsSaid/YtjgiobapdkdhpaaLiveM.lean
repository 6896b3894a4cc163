/-
  The places of a graph that lie on a path that is infinite in both directions: the greatest set in which each has an arc from and an arc to others. What removes only places that lack one, and stops at a set where none lacks one, finds it.
-/
import Derived.Test.YtjgiobapdkdhpaaRows
import Derived.Test.YtjgiobapdkdhpaaBase
namespace Go.Sd
open Go.RowKit Go.Deep
def Clos (E : Nat → Nat → Prop) (n : Nat) (S : Nat → Prop) : Prop := ∀ i, S i → i < n ∧ (∃ j, S j ∧ E i j) ∧ ∃ j, S j ∧ E j i
def Gr (E : Nat → Nat → Prop) (n : Nat) (i : Nat) : Prop := ∃ S, Clos E n S ∧ S i
open Classical in
noncomputable def liveL (E : Nat → Nat → Prop) (n : Nat) : List Bool := (List.range n).map fun i => decide (Gr E n i)
def On (l : List Bool) (i : Nat) : Prop := l[i]? = some true
def Sup (E : Nat → Nat → Prop) (n : Nat) (l : List Bool) : Prop := l.length = n ∧ ∀ i, Gr E n i → On l i
def Both (E : Nat → Nat → Prop) (l : List Bool) (i : Nat) : Prop := (∃ j, On l j ∧ E i j) ∧ ∃ j, On l j ∧ E j i
def cntT (l : List Bool) : Nat := l.countP id
section
variable {E : Nat → Nat → Prop} {n : Nat} {l l' : List Bool}
theorem On.lt {i : Nat} (h : On l i) : i < l.length := (List.getElem?_eq_some_iff.1 h).1
theorem Gr.both {i : Nat} (h : Gr E n i) : i < n ∧ (∃ j, Gr E n j ∧ E i j) ∧ ∃ j, Gr E n j ∧ E j i := by
  obtain ⟨S, hS, hi⟩ := h
  obtain ⟨h1, ⟨j, hj, he⟩, k, hk, hf⟩ := hS i hi
  exact ⟨h1, ⟨j, ⟨S, hS, hj⟩, he⟩, k, ⟨S, hS, hk⟩, hf⟩
theorem liveL_len : (liveL E n).length = n := by simp [liveL]
theorem live_of (h : Sup E n l) (hc : Clos E n (On l)) : l = liveL E n := by
  apply List.ext_getElem?
  intro i
  by_cases hi : i < n
  · have h1 : (liveL E n)[i]? = some (@decide (Gr E n i) (Classical.propDecidable _)) := by simp [liveL, hi]
    rw [h1]
    by_cases hg : Gr E n i
    · rw [h.2 i hg]; simp [hg]
    · have hl : i < l.length := by rw [h.1]; exact hi
      rw [List.getElem?_eq_getElem hl]
      cases hb : l[i] with
      | false => simp [hg]
      | true =>
        exact absurd ⟨On l, hc, by unfold On; rw [List.getElem?_eq_getElem hl, hb]⟩ hg
  · rw [List.getElem?_eq_none (by rw [h.1]; omega), List.getElem?_eq_none (by rw [liveL_len]; omega)]
theorem Sup.start : Sup E n (List.replicate n true) := by
  refine ⟨by simp, fun i hi => ?_⟩
  unfold On
  rw [List.getElem?_replicate, if_pos hi.both.1]
theorem Sup.both (h : Sup E n l) {i : Nat} (hi : Gr E n i) : Both E l i := by
  obtain ⟨_, ⟨j, hj, he⟩, k, hk, hf⟩ := hi.both
  exact ⟨⟨j, h.2 j hj, he⟩, k, h.2 k hk, hf⟩
theorem Sup.unset (h : Sup E n l) {i : Nat} (hi : ¬ Both E l i) : Sup E n (l.set i false) := by
  refine ⟨by rw [List.length_set]; exact h.1, fun j hj => ?_⟩
  have hne : i ≠ j := fun e => hi (e ▸ h.both hj)
  unfold On
  rw [List.getElem?_set_ne hne]
  exact h.2 j hj
theorem cntT_replicate : cntT (List.replicate n true) = n := by
  unfold cntT; simp [List.countP_replicate]
theorem cntT_le : cntT l ≤ l.length := List.countP_le_length
theorem cntT_unset : ∀ {l : List Bool} {i : Nat}, On l i → cntT (l.set i false) + 1 = cntT l
  | [], i, h => by simp [On] at h
  | b :: l, 0, h => by
    simp [On] at h
    subst h
    simp [cntT]
  | b :: l, i + 1, h => by
    have h2 : On l i := by simpa [On] using h
    have := cntT_unset (l := l) (i := i) h2
    unfold cntT at this ⊢
    simp only [List.set_cons_succ, List.countP_cons]
    omega
/-- A smaller set has fewer. -/
theorem cntT_mono : ∀ {l l' : List Bool}, l'.length = l.length → (∀ i, On l' i → On l i) → cntT l' ≤ cntT l ∧ (cntT l' = cntT l → l' = l)
  | [], [], _, _ => ⟨Nat.le_refl _, fun _ => rfl⟩
  | [], _ :: _, h, _ => by simp at h
  | _ :: _, [], h, _ => by simp at h
  | b :: l, b' :: l', h, hs => by
    have ih := cntT_mono (l := l) (l' := l') (by simpa using h) (fun i hi => by simpa [On] using hs (i + 1) (by simpa [On] using hi))
    have h0 : b' = true → b = true := fun e => by have := hs 0 (by simp [On, e]); simpa [On] using this
    unfold cntT at ih ⊢
    simp only [List.countP_cons, id]
    cases b <;> cases b'
    · simp only [Bool.false_eq_true, if_false]
      exact ⟨by omega, fun e => by rw [ih.2 (by omega)]⟩
    · exact absurd (h0 rfl) (by simp)
    · simp only [Bool.false_eq_true, if_false, if_true]
      exact ⟨by omega, fun e => by omega⟩
    · simp only [if_true]
      exact ⟨by omega, fun e => by rw [ih.2 (by omega)]⟩
/-- All at once: who lacks an arc goes. -/
def Rnd (E : Nat → Nat → Prop) (l l' : List Bool) : Prop := l'.length = l.length ∧ ∀ i, On l' i ↔ On l i ∧ Both E l i
/-- After k rounds: it is found, or k are gone. -/
def Inv (E : Nat → Nat → Prop) (n k : Nat) (l : List Bool) : Prop := Sup E n l ∧ (Clos E n (On l) ∨ cntT l + k ≤ n)
theorem Inv.start : Inv E n 0 (List.replicate n true) := ⟨Sup.start, .inr (by rw [cntT_replicate]; omega)⟩
theorem Inv.step {k : Nat} (h : Inv E n k l) (hr : Rnd E l l') : Inv E n (k + 1) l' := by
  obtain ⟨hs, hc⟩ := h
  have hs' : Sup E n l' := ⟨hr.1.trans hs.1, fun i hi => (hr.2 i).2 ⟨hs.2 i hi, hs.both hi⟩⟩
  have hm := cntT_mono hr.1 (fun i hi => ((hr.2 i).1 hi).1)
  refine ⟨hs', ?_⟩
  by_cases e : l' = l
  · refine .inl fun i hi => ?_
    have hb := ((hr.2 i).1 hi).2
    rw [← e] at hb
    exact ⟨by rw [← hs'.1]; exact hi.lt, hb.1, hb.2⟩
  · rcases hc with hc | hc
    · exact absurd (hm.2 (by
        have h2 : l' = l := by
          apply List.ext_getElem?
          intro i
          by_cases hi : i < l.length
          · have h1 : On l i → On l' i := fun h => (hr.2 i).2 ⟨h, (hc i h).2⟩
            have h2 : On l' i → On l i := fun h => ((hr.2 i).1 h).1
            unfold On at h1 h2
            rw [List.getElem?_eq_getElem hi, List.getElem?_eq_getElem (by rw [hr.1]; exact hi)] at h1 h2 ⊢
            cases hb : l[i] <;> cases hb' : l'[i]'(by rw [hr.1]; exact hi) <;> simp_all
          · rw [List.getElem?_eq_none (by rw [hr.1]; omega), List.getElem?_eq_none (by omega)]
        rw [h2])) e
    · right
      have : cntT l' ≠ cntT l := fun h => e (hm.2 h)
      omega
theorem Inv.end (h : Inv E n n l) : l = liveL E n := by
  refine live_of h.1 ?_
  rcases h.2 with hc | hc
  · exact hc
  · intro i hi
    have h0 := cntT_unset (l := l) (i := i) hi
    omega
/-- One after the other: a pass over the first i. -/
def Pas (E : Nat → Nat → Prop) (n : Nat) (l0 : List Bool) (i : Nat) (l : List Bool) (ch : Bool) : Prop :=
  Sup E n l ∧ (ch = false → l = l0 ∧ ∀ j, j < i → On l0 j → Both E l0 j) ∧ (ch = true → cntT l < cntT l0)
theorem Pas.start {l0 : List Bool} (h : Sup E n l0) : Pas E n l0 0 l0 false := ⟨h, fun _ => ⟨rfl, fun j hj => absurd hj (Nat.not_lt_zero _)⟩, fun h => by cases h⟩
theorem Pas.keep {l0 : List Bool} {i : Nat} {ch : Bool} (h : Pas E n l0 i l ch) (hi : On l i → Both E l i) : Pas E n l0 (i + 1) l ch := by
  refine ⟨h.1, fun hc => ?_, h.2.2⟩
  obtain ⟨e, hb⟩ := h.2.1 hc
  refine ⟨e, fun j hj hon => ?_⟩
  by_cases hji : j < i
  · exact hb j hji hon
  · obtain rfl : j = i := by omega
    rw [← e] at hon ⊢
    exact hi hon
theorem Pas.unset {l0 : List Bool} {i : Nat} {ch : Bool} (h : Pas E n l0 i l ch) (hi : On l i) (hb : ¬ Both E l i) : Pas E n l0 (i + 1) (l.set i false) true := by
  refine ⟨h.1.unset hb, (fun hc => by cases hc), fun _ => ?_⟩
  have h1 := cntT_unset hi
  cases ch with
  | false => rw [(h.2.1 rfl).1] at h1 ⊢; omega
  | true => have := h.2.2 rfl; omega
theorem Pas.end {l0 : List Bool} (h : Pas E n l0 n l false) : l = liveL E n := by
  obtain ⟨rfl, hb⟩ := h.2.1 rfl
  refine live_of h.1 fun i hi => ?_
  have hlt : i < n := by rw [← h.1.1]; exact hi.lt
  exact ⟨hlt, (hb i hlt hi).1, (hb i hlt hi).2⟩
theorem Pas.less {l0 : List Bool} (h : Pas E n l0 n l true) : Sup E n l ∧ cntT l < cntT l0 := ⟨h.1, h.2.2 rfl⟩
end
end Go.Sd
