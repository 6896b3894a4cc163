/-
  Two matrices that are alike: the program's search for places and the reference's answer alike.
-/
import Derived.Test.YtmncdohodnggfaaRows
import Derived.Test.YtmncdohodnggfaaBase
import Derived.Test.YtmncdohodnggfaaHarn
import Derived.Test.YtmncdohodnggfaaMat
import Derived.Deep.DeepMust
namespace Go.Proofs.Ytmncdohodnggfaa
open Go.RowKit Go.Deep Go.Sd

/-- The places that are given fit with p as the next one. -/
def okL (a b : List (List Int)) (k p : Nat) : List Nat → Nat → Bool
  | [], _ => true
  | q :: qs, i => (decide (q ≠ p) && decide (ent a k i = ent b p q) && decide (ent a i k = ent b q p)) && okL a b k p qs (i + 1)
def okAt (a b : List (List Int)) (ps : List Nat) (p : Nat) : Bool := decide (ent a ps.length ps.length = ent b p p) && okL a b ps.length p ps 0

/-- Some number from p on, of the next g ones. -/
def anyF (h : Nat → Bool) : Nat → Nat → Bool
  | 0, _ => false
  | g + 1, p => if h p then true else anyF h g (p + 1)

def fitM (a b : List (List Int)) (n : Nat) : Nat → List Nat → Bool
  | 0, _ => true
  | f + 1, ps => anyF (fun p => okAt a b ps p && fitM a b n f (ps ++ [p])) n 0

def alikeM (a b : List (List Int)) : Bool := isMat a && isMat b && decide (a.length = b.length) && decide (a.length ≤ 6) && fitM a b a.length a.length []

def nats (ps : List Nat) : List Int := ps.map fun (q : Nat) => (q : Int)
theorem nats_at {ps : List Nat} {i q : Nat} (h : ps[i]? = some q) : (nats ps)[i]? = some (q : Int) := by simp [nats, h]

theorem isMat_sq {m : List (List Int)} (h : isMat m = true) : Sq m.length m ∧ 1 ≤ m.length ∧ m.length ≤ 9 := by
  unfold isMat at h
  simp only [Bool.and_eq_true, decide_eq_true_eq, List.all_eq_true] at h
  refine ⟨⟨rfl, fun r hr => ?_⟩, h.1.1, h.1.2⟩
  have := h.2 r hr
  unfold rowOk at this
  simp at this
  exact this.1


end Go.Proofs.Ytmncdohodnggfaa
