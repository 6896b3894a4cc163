/-
  Labelled graphs: the sets of states to which letters and words lead: the model.
-/
import Derived.Test.YtdohepngandajaaDoorBase
import Derived.Test.YtdohepngandajaaDoorLab
import Derived.Test.YtdohepngandajaaDoorLabC
import Derived.Test.YtdohepngandajaaDoorLabD
import Derived.Test.YtdohepngandajaaDoorAllF
import Derived.Laws.BitsLemmas
namespace Go.Proofs.YtdohepngandajaaDoor
open Go.RowKit Go.Deep Go.Sd

theorem i64_and1 (n : Int) : bits .and .i64 n 1 = n % 2 := by
  have h1 : (BitVec.ofInt 64 1).toNat = 2 ^ 1 - 1 := by decide
  have key : (BitVec.ofInt 64 n &&& BitVec.ofInt 64 1).toNat = (n % ((2 ^ 64 : Nat) : Int)).toNat % 2 ^ 1 := by
    rw [BitVec.toNat_and, BitVec.toNat_ofInt, h1, Nat.and_two_pow_sub_one_eq_mod]
  show IntKind.i64.wrap ((BitVec.ofInt 64 n &&& BitVec.ofInt 64 1).toNat : Nat) = n % 2
  rw [key, IntKind.wrap_i64]
  omega
theorem ofInt_i64 (a : Nat) (ha : a < 9223372036854775808) : (BitVec.ofInt 64 (a : Int)).toNat = a := by
  rw [BitVec.ofInt_natCast, BitVec.toNat_ofNat]; exact Nat.mod_eq_of_lt (by omega)
theorem i64_or (a b : Nat) (ha : a < 9223372036854775808) (hb : b < 9223372036854775808) : bits .or .i64 (a : Int) (b : Int) = ((a ||| b : Nat) : Int) := by
  have hx : a ||| b < 2 ^ 63 := Nat.or_lt_two_pow (by omega) (by omega)
  show IntKind.i64.wrap ((BitVec.ofInt 64 (a : Int) ||| BitVec.ofInt 64 (b : Int)).toNat : Nat) = _
  rw [BitVec.toNat_or, ofInt_i64 a ha, ofInt_i64 b hb, IntKind.wrap_i64]
  omega

/-- An arc leads on from a set, with a letter. -/
def hit (s : Nat) (x : Int) (a : Arc3) : Bool := decide (a.2.2 = x) && s.testBit a.1.toNat
def stepL (s : Nat) (x : Int) : List Arc3 → Nat → Nat
  | [], out => out
  | a :: ys, out => stepL s x ys (if hit s x a = true then out ||| 2 ^ a.2.1.toNat else out)
def stepN (xs : List Arc3) (s : Nat) (x : Int) : Nat := stepL s x xs 0
def readL (xs : List Arc3) : List Int → Nat → Nat
  | [], s => s
  | x :: w, s => readL xs w (stepN xs s x)

def okArcs (S : Int) (xs : List Arc3) : Prop := ∀ a, a ∈ xs → 0 ≤ a.1 ∧ a.1 < S ∧ 0 ≤ a.2.1 ∧ a.2.1 < S
theorem allF_at {f : Nat → Bool} : ∀ {m k : Nat}, allF f m k = true → ∀ j, j < m → f (k + j) = true
  | 0, _, _, j, hj => by omega
  | m + 1, k, h, j, hj => by
    have h1 : (if f k = true then allF f m (k + 1) else false) = true := h
    by_cases hk : f k = true
    · rw [if_pos hk] at h1
      cases j with
      | zero => exact hk
      | succ j => rw [show k + (j + 1) = k + 1 + j by omega]; exact allF_at h1 j (by omega)
    · rw [if_neg hk] at h1; cases h1
theorem isLab_ok {l : Lb} (h : isLab l = true) : okArcs l.2.1 l.2.2 ∧ 1 ≤ l.2.1 ∧ l.2.1 ≤ 12 ∧ 1 ≤ l.1 ∧ l.1 ≤ 3 := by
  unfold isLab at h
  rw [Bool.and_eq_true, Bool.and_eq_true, decide_eq_true_eq, decide_eq_true_eq] at h
  refine ⟨fun a ha => ?_, h.2.1.1, h.2.1.2, h.1.1, h.1.2⟩
  obtain ⟨k, hk⟩ := List.getElem?_of_mem ha
  have h1 := allF_at h.2.2 k (List.getElem?_eq_some_iff.1 hk).1
  rw [Nat.zero_add] at h1
  unfold arcB at h1
  rw [Bool.and_eq_true, at3_of hk] at h1
  have h2 := h1.1
  unfold arcOk at h2
  rw [decide_eq_true_eq] at h2
  exact ⟨h2.1, h2.2.1, h2.2.2.1, h2.2.2.2.1⟩
theorem stepL_lt {S : Int} {N : Nat} (hN : S.toNat ≤ N) : ∀ {xs : List Arc3}, okArcs S xs → ∀ (s : Nat) (x : Int) (out : Nat), out < 2 ^ N → stepL s x xs out < 2 ^ N
  | [], _, _, _, _, h => h
  | a :: ys, ha, s, x, out, h => by
    unfold stepL
    refine stepL_lt hN (fun b hb => ha b (List.mem_cons_of_mem _ hb)) s x _ ?_
    split
    · have := ha a (by simp)
      exact Nat.or_lt_two_pow h (Nat.pow_lt_pow_right (by omega) (by omega))
    · exact h
theorem stepN_lt {S : Int} {xs : List Arc3} (h : okArcs S xs) (hS : S ≤ 12) (s : Nat) (x : Int) : stepN xs s x < 4096 :=
  stepL_lt (N := 12) (by omega) h s x 0 (by decide)
theorem readL_lt {S : Int} {xs : List Arc3} (h : okArcs S xs) (hS : S ≤ 12) : ∀ (w : List Int) (s : Nat), s < 4096 → readL xs w s < 4096
  | [], _, hs => hs
  | x :: w, s, _ => readL_lt h hS w _ (stepN_lt h hS s x)
theorem okArcs_at {S : Int} {xs : List Arc3} (h : okArcs S xs) {k : Nat} {x : Arc3} (hx : xs[k]? = some x) : 0 ≤ x.1 ∧ x.1 < S ∧ 0 ≤ x.2.1 ∧ x.2.1 < S := h x (List.mem_of_getElem? hx)

end Go.Proofs.YtdohepngandajaaDoor
