/-
  MatrixOf, both sides.
-/
import Derived.Test.YtjgiobapdkdhpaaRows
import Derived.Test.YtjgiobapdkdhpaaBase
import Derived.Test.YtjgiobapdkdhpaaTabs
import Derived.Test.YtjgiobapdkdhpaaZero
import Derived.Test.YtjgiobapdkdhpaaRename
import Derived.Test.YtjgiobapdkdhpaaLab
import Derived.Test.YtjgiobapdkdhpaaLabC
import Derived.Test.YtjgiobapdkdhpaaLabM
import Derived.Test.YtjgiobapdkdhpaaLabV
import Derived.Test.YtjgiobapdkdhpaaLabVS
import Derived.IntWalk
import Derived.StillTailTactics
namespace Go.Proofs.Ytjgiobapdkdhpaa
open Go.RowKit Go.Deep Go.Sd

def bump (m : List (List Int)) (a : Arc3) : List (List Int) := m.set a.1.toNat ((m.getD a.1.toNat []).set a.2.1.toNat (ent m a.1.toNat a.2.1.toNat + 1))
def bumps : List Arc3 → List (List Int) → List (List Int)
  | [], m => m
  | a :: l, m => bumps l (bump m a)
def matOk (l : Lb) : Bool := isLab l && decide (l.2.1 ≤ 9)
def matV (l : Lb) : List (List Int) := if matOk l = true then bumps l.2.2 (List.replicate l.2.1.toNat (List.replicate l.2.1.toNat 0)) else []
def EB (B : Int) (m : List (List Int)) : Prop := ∀ i j, 0 ≤ ent m i j ∧ ent m i j ≤ B
theorem EB.set {B : Int} {m : List (List Int)} (h : EB B m) (a b : Nat) {y : Int} (h0 : 0 ≤ y) (h1 : y ≤ B + 1) : EB (B + 1) (m.set a ((m.getD a []).set b y)) := by
  intro i j
  have hij := h i j
  have haj := h a j
  unfold ent at hij haj ⊢
  simp only [List.getD_eq_getElem?_getD, List.getElem?_set] at hij haj ⊢
  by_cases e : a = i
  · subst e
    rw [if_pos rfl]
    by_cases hl : a < m.length
    · rw [if_pos hl]
      simp only [Option.getD_some, List.getElem?_set]
      by_cases e2 : b = j
      · subst e2
        rw [if_pos rfl]
        split
        · simp; omega
        · simp; omega
      · rw [if_neg e2]; omega
    · rw [if_neg hl]
      simp
      omega
  · rw [if_neg e]
    omega
theorem EB.zeros (n : Nat) : EB 0 (List.replicate n (List.replicate n 0)) := by
  intro i j
  have h : ent (List.replicate n (List.replicate n 0)) i j = 0 := by
    unfold ent
    simp only [List.getD_eq_getElem?_getD, List.getElem?_replicate]
    split
    · simp only [Option.getD_some, List.getElem?_replicate]; split <;> rfl
    · rfl
  rw [h]; omega
theorem bump_sq {n : Nat} {m : List (List Int)} (h : Sq n m) {a : Arc3} (ha : a.1.toNat < n) : Sq n (bump m a) := h.set ha _ _
theorem bumps_sq {n : Nat} : ∀ {xs : List Arc3} {m : List (List Int)}, Sq n m → (∀ a, a ∈ xs → a.1.toNat < n) → Sq n (bumps xs m)
  | [], _, h, _ => h
  | a :: l, m, h, ha => bumps_sq (xs := l) (bump_sq h (ha a (by simp))) fun b hb => ha b (List.mem_cons_of_mem _ hb)
theorem matV_bd (l : Lb) : (matV l).length ≤ 9 ∧ ∀ r, r ∈ matV l → r.length ≤ 9 := by
  unfold matV
  by_cases h : matOk l = true
  · rw [if_pos h]
    unfold matOk at h
    rw [Bool.and_eq_true, decide_eq_true_eq] at h
    obtain ⟨ho, h1, h2, _⟩ := isLab_ok h.1
    have hs := bumps_sq (n := l.2.1.toNat) (xs := l.2.2) (Sq.zeros l.2.1.toNat) fun a ha => by have := ho a ha; omega
    have h9 : l.2.1.toNat ≤ 9 := by omega
    exact ⟨by rw [hs.1]; exact h9, fun r hr => by rw [hs.2 r hr]; exact h9⟩
  · rw [if_neg h]; simp
end Go.Proofs.Ytjgiobapdkdhpaa
