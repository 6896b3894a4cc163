/-
  CountSync, the reference's.
-/
import Derived.Test.YtdohepngandajaaRows
import Derived.Test.YtdohepngandajaaBase
import Derived.Test.YtdohepngandajaaHarn
import Derived.Test.YtdohepngandajaaLab
import Derived.Test.YtdohepngandajaaLabC
import Derived.Test.YtdohepngandajaaLabM
import Derived.Test.YtdohepngandajaaResolv
import Derived.Test.YtdohepngandajaaRead
import Derived.Test.YtdohepngandajaaReadFrom
import Derived.Test.YtdohepngandajaaRank
import Derived.Test.YtdohepngandajaaWordRank
import Derived.Test.YtdohepngandajaaLeastRS
import Derived.Test.YtdohepngandajaaWordM
import Derived.Test.YtdohepngandajaaWordI
import Derived.Test.YtdohepngandajaaL2All
import Derived.Test.YtdohepngandajaaWalkH
import Derived.IntWalk
import Derived.Deep.RegionHeld3
import Derived.Deep.DeepCutAuto
import Derived.Test.YtdohepngandajaaCountSI
import Derived.Test.YtdohepngandajaaWord
namespace Go.Proofs.Ytdohepngandajaa
open Go.RowKit Go.Deep Go.Sd
set_option linter.unusedSimpArgs false
theorem letB_of {N : Nat} (hN : N ≤ 3) : ∀ wd : List Nat, (∀ x, x ∈ wd → x < N) → letB (N : Int) (wd.map fun x => UInt8.ofNat (97 + x)) = true
  | [], _ => rfl
  | x :: wd, h => by
    have hx := h x (by simp)
    have e4 : (UInt8.ofNat (97 + x)).toNat = 97 + x := by simp; omega
    simp only [List.map_cons, letB]
    rw [e4, if_pos (by omega)]
    exact letB_of hN wd fun y hy => h y (List.mem_cons_of_mem _ hy)
theorem wordM_of {N : Nat} (h1 : 1 ≤ N) (hN : N ≤ 3) {wd : List Nat} (hl : wd.length ≤ 16) (hw : ∀ x, x ∈ wd → x < N) : wordM (N : Int) (wordT wd) = true := by
  unfold wordM
  rw [decide_eq_true (by omega), wordT_size, decide_eq_true hl]
  exact letB_of hN wd hw
theorem rank_cnt {L : Lb} {N : Nat} (hr : resolvM L = true) (hL : L.1 = (N : Int)) (h1 : 1 ≤ N) (hN : N ≤ 3) {wd : List Nat} (hl : wd.length ≤ 16) (hw : ∀ x, x ∈ wd → x < N) : decide (rankM L (wordT wd) = 1) = cntF L wd := by
  unfold rankM cntF endN
  rw [hr, hL, wordM_of h1 hN hl hw, if_pos (show (true && true) = true from rfl)]
  by_cases h : popN (readB L.2.2 (wordT wd).data.toList (allN L.2.1)) = 1
  · rw [decide_eq_true h, decide_eq_true (by omega)]
  · rw [decide_eq_false h, decide_eq_false (by omega)]
end Go.Proofs.Ytdohepngandajaa
