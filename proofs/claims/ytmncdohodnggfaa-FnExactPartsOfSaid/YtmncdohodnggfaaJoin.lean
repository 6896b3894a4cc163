/-
  JoinOut, the program's: two vertices joined to which the same arcs lead.
-/
import Derived.Test.YtmncdohodnggfaaRows
import Derived.Test.YtmncdohodnggfaaBase
import Derived.Test.YtmncdohodnggfaaTabs
import Derived.Test.YtmncdohodnggfaaMat
import Derived.Test.YtmncdohodnggfaaAlike
import Derived.Test.YtmncdohodnggfaaPower
namespace Go.Proofs.Ytmncdohodnggfaa
open Go.RowKit Go.Deep Go.Sd

/-- All of the next g numbers from k on. -/
def allF (h : Nat → Bool) : Nat → Nat → Bool
  | 0, _ => true
  | g + 1, k => if h k = true then allF h g (k + 1) else false
def skip (j k : Nat) : Nat := if k < j then k else k + 1
def cnt (j k : Nat) : Nat := if k ≤ j then k else k - 1
theorem skip_cnt {j k : Nat} (h : k ≠ j) : skip j (cnt j k) = k := by unfold skip cnt; split <;> split <;> omega
theorem cnt_same (j : Nat) : cnt j (j + 1) = cnt j j := by unfold cnt; split <;> split <;> omega
theorem cnt_next {j k : Nat} (h : k ≠ j) : cnt j (k + 1) = cnt j k + 1 := by unfold cnt; split <;> split <;> omega
theorem cnt_lt {j k n : Nat} (h : k ≠ j) (hj : j < n) (hk : k < n) : cnt j k < n - 1 := by unfold cnt; split <;> omega
theorem cnt_full {j n : Nat} (hj : j < n) : cnt j n = n - 1 := by unfold cnt; split <;> omega
theorem cnt_le (j k : Nat) : cnt j k ≤ k := by unfold cnt; split <;> omega
theorem cnt_zero (j : Nat) : cnt j 0 = 0 := by unfold cnt; split <;> omega
theorem skip_lt {j k n : Nat} (hk : k < n - 1) : skip j k < n := by unfold skip; split <;> omega

def joinE (m : List (List Int)) (i j k l : Nat) : Int := if k = i then ent m k l + ent m j l else ent m k l
def joinT (m : List (List Int)) (i j n : Nat) : List (List Int) := tabOf (n - 1) (n - 1) (fun k l => joinE m i j (skip j k) (skip j l))
def colsEq (m : List (List Int)) (i j n : Nat) : Bool := allF (fun k => decide (ent m k i = ent m k j)) n 0
def joinOk (m : List (List Int)) (i j : Int) : Bool :=
  isMat m && decide (0 ≤ i ∧ i < j ∧ j < m.length) && colsEq m i.toNat j.toNat m.length && isMat (joinT m i.toNat j.toNat m.length)
def joinV (m : List (List Int)) (i j : Int) : List (List Int) := if joinOk m i j = true then joinT m i.toNat j.toNat m.length else []

theorem joinE_bd {m : List (List Int)} (h : isMat m = true) {j k l : Nat} (hk : k < m.length) (hj : j < m.length) (hl : l < m.length) :
    0 ≤ ent m k l ∧ ent m k l ≤ 1000000 ∧ 0 ≤ ent m j l ∧ ent m j l ≤ 1000000 := by
  obtain ⟨r, hr, hx⟩ := ent_mem (isMat_sq h).1.2 hk hl
  obtain ⟨r2, hr2, hx2⟩ := ent_mem (isMat_sq h).1.2 hj hl
  have h1 := isMat_bd h r hr _ hx
  have h2 := isMat_bd h r2 hr2 _ hx2
  omega

end Go.Proofs.Ytmncdohodnggfaa
