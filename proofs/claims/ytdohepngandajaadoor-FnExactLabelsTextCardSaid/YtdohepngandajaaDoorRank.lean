/-
  How many states a set has; the only state of a set: both sides.
-/
import Derived.Test.YtdohepngandajaaDoorRows
import Derived.Test.YtdohepngandajaaDoorBase
import Derived.Test.YtdohepngandajaaDoorLabM
import Derived.Test.YtdohepngandajaaDoorLabStep
import Derived.IntWalk
namespace Go.Proofs.YtdohepngandajaaDoor
open Go.RowKit Go.Deep Go.Sd

def popL : Nat → Nat → Nat
  | 0, _ => 0
  | f + 1, x => if x = 0 then 0 else x % 2 + popL f (x / 2)
def popN (x : Nat) : Nat := popL 12 x
def onlyL (x : Nat) : Nat → Nat → Int
  | 0, _ => -1
  | g + 1, p => if x = 2 ^ p then (p : Int) else onlyL x g (p + 1)
def onlyN (x : Nat) : Int := onlyL x 12 0
theorem two_level {p : Nat → Prop} (h : ∀ a, a < 64 → ∀ b, b < 64 → p (64 * a + b)) (x : Nat) (hx : x < 4096) : p x := by
  have h1 := h (x / 64) (by omega) (x % 64) (by omega)
  rw [show 64 * (x / 64) + x % 64 = x by omega] at h1
  exact h1
set_option maxRecDepth 100000 in
theorem only_pop (x : Nat) (hx : x < 4096) : (decide (popN x = 1)) = decide (0 ≤ onlyN x) :=
  two_level (p := fun x => (decide (popN x = 1)) = decide (0 ≤ onlyN x)) (by decide +kernel) x hx
def oc1 (x : Int) : Int := IntKind.u64.wrap (bits BinOp.and IntKind.u64 (x / 2) 6148914691236517205 + bits BinOp.and IntKind.u64 x 6148914691236517205)
def oc2 (x : Int) : Int := IntKind.u64.wrap (bits BinOp.and IntKind.u64 (x / 4) 3689348814741910323 + bits BinOp.and IntKind.u64 x 3689348814741910323)
def oc3 (x : Int) : Int := bits BinOp.and IntKind.u64 (IntKind.u64.wrap (x / 16 + x)) 1085102592571150095
def oc4 (x : Int) : Int := IntKind.u64.wrap (x + x / 256)
def oc5 (x : Int) : Int := IntKind.u64.wrap (x + x / 65536)
def oc6 (x : Int) : Int := IntKind.u64.wrap (x + x / 4294967296)
def oc7 (x : Int) : Int := bits BinOp.and IntKind.i64 (wrap64 x) 127
set_option maxRecDepth 100000 in
theorem oc_pop (x : Nat) (hx : x < 4096) : oc7 (oc6 (oc5 (oc4 (oc3 (oc2 (oc1 x)))))) = (popN x : Int) :=
  two_level (p := fun x => oc7 (oc6 (oc5 (oc4 (oc3 (oc2 (oc1 (x : Int))))))) = (popN x : Int)) (by decide +kernel) x hx
theorem popL_zero (f : Nat) : popL f 0 = 0 := by cases f <;> simp [popL]
theorem popL_le : ∀ (f x : Nat), popL f x ≤ f
  | 0, _ => Nat.le_refl _
  | f + 1, x => by
    unfold popL
    split
    · omega
    · have := popL_le f (x / 2); omega
theorem onlyL_bd (x : Nat) : ∀ (g p : Nat), -1 ≤ onlyL x g p ∧ onlyL x g p ≤ (g : Int) + p
  | 0, p => by unfold onlyL; omega
  | g + 1, p => by
    unfold onlyL
    split
    · omega
    · have := onlyL_bd x g (p + 1); omega

set_option maxHeartbeats 1000000 in
theorem l16Only_c (x : Nat) (_hx : x < 4096) (w : World) : Calls Tryd.prog 23 #[.int .i64 x] w fun e w' => e = .returned (.int .i64 (onlyN x)) ∧ w = w' := by
  have H0 := Lib.hid (show onlyN x = onlyL x 12 0 from rfl)
  generalize onlyN x = T at H0 ⊢
  go_enter Tryd.func23, Tryd.ntmps23
  go_wp2
  go_loopg [3] 12 (fun g i wr => ∃ (p : Nat), i = .int .i64 p ∧ p + g = 12 ∧ Hid (T = onlyL x g p) ∧ w = wr)
  case atStart => exact ⟨0, rfl, by omega, H0, rfl⟩
  case round =>
    obtain ⟨p, rfl, hp, HK, rfl⟩ := hrel
    obtain ⟨g, hg⟩ : ∃ g, g = gk := ⟨_, rfl⟩
    rw [← hg] at hp HK
    by_cases hlt : p < 12
    · obtain ⟨g', rfl⟩ : ∃ t, g = t + 1 := ⟨g - 1, by omega⟩
      have HK1 := Lib.hid (show T = if x = 2 ^ p then (p : Int) else onlyL x g' (p + 1) from HK.out)
      have h1 : 2 ^ p < 4096 := Nat.pow_lt_pow_right (n := 12) (by decide) hlt
      have hw : wrap64 ((2 : Int) ^ p) = ((2 ^ p : Nat) : Int) := by
        rw [show ((2 : Int) ^ p) = ((2 ^ p : Nat) : Int) by simp]
        generalize 2 ^ p = P at h1 ⊢
        exact IntWalk.wrap64_in _ (by omega)
      obtain ⟨P, hP⟩ : ∃ P, P = 2 ^ p := ⟨_, rfl⟩
      rw [← hP] at h1 hw HK1
      clear HK H0 hP
      by_cases he : x = P
      · have HF := Lib.hid (show T = (p : Int) from by rw [HK1.out, if_pos he])
        have t1 : ((x : Int) == (P : Int)) = true := by simp [he]
        clear HK1 he hg
        go_wp2
        go_ret
        exact ⟨by rw [HF.out]; rfl, rfl⟩
      · have HF := Lib.hid (show T = onlyL x g' (p + 1) from by rw [HK1.out, if_neg he])
        have t1 : ((x : Int) == (P : Int)) = false := by simp; omega
        clear HK1 he
        go_wp2
        go_roundg g'
        case measure => omega
        case rel => exact ⟨p + 1, by go_num, by omega, HF, rfl⟩
    · have e : g = 0 := by omega
      subst e
      have HF := Lib.hid (show T = -1 from HK.out)
      clear HK H0 hg
      go_wp2
      go_ret
      exact ⟨by rw [HF.out]; rfl, rfl⟩
set_option maxHeartbeats 1000000 in
theorem OnesCount64_c (x : Nat) (hx : x < 4096) (w : World) : Calls Tryd.prog 60 #[.int .u64 x] w fun e w' => e = .returned (.int .i64 (popN x)) ∧ w = w' := by
  have H := Lib.hid (oc_pop x hx)
  go_enter Tryd.func60, Tryd.ntmps60
  go_wp2
  go_ret
  refine ⟨?_, rfl⟩
  rw [← H.out]
  rfl
set_option maxHeartbeats 1000000 in
theorem OnesCount_c (x : Nat) (hx : x < 4096) (w : World) : Calls Tryd.prog 52 #[.int .u64 x] w fun e w' => e = .returned (.int .i64 (popN x)) ∧ w = w' := by
  have H := Lib.hid (fun w => OnesCount64_c x hx w)
  go_enter Tryd.func52, Tryd.ntmps52
  go_wp2_with fail
  refine (H.out _).mono ?_
  rintro e w' ⟨rfl, rfl⟩
  go_wp2
  go_ret
  exact ⟨rfl, rfl⟩
end Go.Proofs.YtdohepngandajaaDoor
