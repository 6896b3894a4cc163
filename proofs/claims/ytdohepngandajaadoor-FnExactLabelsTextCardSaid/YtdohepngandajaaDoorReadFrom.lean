/-
  ReadFrom and ReadsWord, both sides.
-/
import Derived.Test.YtdohepngandajaaDoorRows
import Derived.Test.YtdohepngandajaaDoorBase
import Derived.Test.YtdohepngandajaaDoorMoeb
import Derived.Test.YtdohepngandajaaDoorLab
import Derived.Test.YtdohepngandajaaDoorLabC
import Derived.Test.YtdohepngandajaaDoorLabM
import Derived.Test.YtdohepngandajaaDoorLabV
import Derived.Test.YtdohepngandajaaDoorLabVS
import Derived.Test.YtdohepngandajaaDoorWord
import Derived.Test.YtdohepngandajaaDoorRead
import Derived.IntWalk
import Derived.Deep.RegionHeld3
import Derived.Deep.DeepCutAuto
namespace Go.Proofs.YtdohepngandajaaDoor
open Go.RowKit Go.Deep Go.Sd

/-- All states. -/
def allN (S : Int) : Nat := 2 ^ S.toNat - 1
theorem shl_one (p : Nat) (h : p ≤ 12) : ∃ P : Nat, 2 ^ p = P ∧ 1 ≤ P ∧ P ≤ 4096 ∧ wrap64 ((2 : Int) ^ p) = (P : Int) := by
  have h1 : 2 ^ p ≤ 2 ^ 12 := Nat.pow_le_pow_right (by decide) h
  have h0 : 0 < 2 ^ p := Nat.pow_pos (by decide)
  refine ⟨2 ^ p, rfl, h0, h1, ?_⟩
  rw [show ((2 : Int) ^ p) = ((2 ^ p : Nat) : Int) by simp]
  generalize 2 ^ p = P at h0 h1 ⊢
  exact IntWalk.wrap64_in _ (by omega)
theorem allN_lt {S : Int} (h : S ≤ 12) : allN S < 4096 := by
  have h1 : 2 ^ S.toNat ≤ 2 ^ 12 := Nat.pow_le_pow_right (by decide) (by omega)
  have h0 : 0 < 2 ^ S.toNat := Nat.pow_pos (by decide)
  unfold allN
  omega
def readFromM (l : Lb) (set : Int) (s : ByteArray) : Int :=
  if (isLab l && (decide (0 ≤ set ∧ set ≤ (allN l.2.1 : Int)) && wordM l.1 s)) = true then (readB l.2.2 s.data.toList set.toNat : Int) else -1
def readsM (l : Lb) (s : ByteArray) : Bool := isLab l && (wordM l.1 s && decide (0 < readB l.2.2 s.data.toList (allN l.2.1)))
theorem wordM_ge {k : Int} {s : ByteArray} (h : wordM k s = true) : ∀ c, c ∈ s.data.toList → 97 ≤ c.toNat := by
  unfold wordM at h
  rw [Bool.and_eq_true, Bool.and_eq_true] at h
  exact fun c hc => (letB_ge h.2.2 c hc).1
set_option maxHeartbeats 400000 in
theorem impl_all_c {w : World} {v : Value} {l : Lb} (h : LabR w v l) (h1 : 1 ≤ l.2.1) (h2 : l.2.1 ≤ 12) :
    Calls Tryd.prog 28 #[v] w fun e w' => e = .returned (.int .i64 (allN l.2.1)) ∧ Below w.heap.size w w' := by
  obtain ⟨L, S, xs⟩ := l
  obtain ⟨va, rfl, _⟩ := h
  simp only at h1 h2
  obtain ⟨p, rfl⟩ := Int.eq_ofNat_of_zero_le (show 0 ≤ S by omega)
  obtain ⟨P, hP, hP1, hP2, hw⟩ := shl_one p (by omega)
  have H := Lib.hid (show allN (p : Int) = P - 1 from by unfold allN; rw [show (p : Int).toNat = p from rfl, hP])
  clear hP
  go_enter Tryd.func28, Tryd.ntmps28
  go_wp2
  go_ret
  exact ⟨by simp only [H.out]; rw [show ((P - 1 : Nat) : Int) = (P : Int) - 1 by omega]; rfl, (Below.refl _ _).alloc (Nat.le_refl _) _⟩
end Go.Proofs.YtdohepngandajaaDoor
