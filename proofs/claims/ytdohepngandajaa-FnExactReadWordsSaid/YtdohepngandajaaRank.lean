/-
  How many states a set has; the only state of a set: both sides.
-/
import Derived.Test.YtdohepngandajaaRows
import Derived.Test.YtdohepngandajaaBase
import Derived.Test.YtdohepngandajaaLabM
import Derived.Test.YtdohepngandajaaLabStep
import Derived.IntWalk
namespace Go.Proofs.Ytdohepngandajaa
open Go.RowKit Go.Deep Go.Sd

def popL : Nat → Nat → Nat
  | 0, _ => 0
  | f + 1, x => if x = 0 then 0 else x % 2 + popL f (x / 2)
def popN (x : Nat) : Nat := popL 12 x
def onlyL (x : Nat) : Nat → Nat → Int
  | 0, _ => -1
  | g + 1, p => if x = 2 ^ p then (p : Int) else onlyL x g (p + 1)
def onlyN (x : Nat) : Int := onlyL x 12 0
theorem two_level {p : Nat → Prop} (h : ∀ a, a < 64 → ∀ b, b < 64 → p (64 * a + b)) (x : Nat) (hx : x < 4096) : p x := by
  have h1 := h (x / 64) (by omega) (x % 64) (by omega)
  rw [show 64 * (x / 64) + x % 64 = x by omega] at h1
  exact h1
set_option maxRecDepth 100000 in
theorem only_pop (x : Nat) (hx : x < 4096) : (decide (popN x = 1)) = decide (0 ≤ onlyN x) :=
  two_level (p := fun x => (decide (popN x = 1)) = decide (0 ≤ onlyN x)) (by decide +kernel) x hx
def oc1 (x : Int) : Int := IntKind.u64.wrap (bits BinOp.and IntKind.u64 (x / 2) 6148914691236517205 + bits BinOp.and IntKind.u64 x 6148914691236517205)
def oc2 (x : Int) : Int := IntKind.u64.wrap (bits BinOp.and IntKind.u64 (x / 4) 3689348814741910323 + bits BinOp.and IntKind.u64 x 3689348814741910323)
def oc3 (x : Int) : Int := bits BinOp.and IntKind.u64 (IntKind.u64.wrap (x / 16 + x)) 1085102592571150095
def oc4 (x : Int) : Int := IntKind.u64.wrap (x + x / 256)
def oc5 (x : Int) : Int := IntKind.u64.wrap (x + x / 65536)
def oc6 (x : Int) : Int := IntKind.u64.wrap (x + x / 4294967296)
def oc7 (x : Int) : Int := bits BinOp.and IntKind.i64 (wrap64 x) 127
set_option maxRecDepth 100000 in
theorem oc_pop (x : Nat) (hx : x < 4096) : oc7 (oc6 (oc5 (oc4 (oc3 (oc2 (oc1 x)))))) = (popN x : Int) :=
  two_level (p := fun x => oc7 (oc6 (oc5 (oc4 (oc3 (oc2 (oc1 (x : Int))))))) = (popN x : Int)) (by decide +kernel) x hx
theorem popL_zero (f : Nat) : popL f 0 = 0 := by cases f <;> simp [popL]
theorem popL_le : ∀ (f x : Nat), popL f x ≤ f
  | 0, _ => Nat.le_refl _
  | f + 1, x => by
    unfold popL
    split
    · omega
    · have := popL_le f (x / 2); omega
theorem onlyL_bd (x : Nat) : ∀ (g p : Nat), -1 ≤ onlyL x g p ∧ onlyL x g p ≤ (g : Int) + p
  | 0, p => by unfold onlyL; omega
  | g + 1, p => by
    unfold onlyL
    split
    · omega
    · have := onlyL_bd x g (p + 1); omega

end Go.Proofs.Ytdohepngandajaa
