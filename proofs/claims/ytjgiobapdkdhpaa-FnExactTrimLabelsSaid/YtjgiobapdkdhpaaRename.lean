/-
  RenameGraph, the program's and the reference's.
-/
import Derived.Test.YtjgiobapdkdhpaaRows
import Derived.Test.YtjgiobapdkdhpaaBase
import Derived.Test.YtjgiobapdkdhpaaTabs
import Derived.Test.YtjgiobapdkdhpaaMat
import Derived.Test.YtjgiobapdkdhpaaZero
import Derived.Test.YtjgiobapdkdhpaaAlike
import Derived.StillTailTactics
namespace Go.Proofs.Ytjgiobapdkdhpaa
open Go.RowKit Go.Deep Go.Sd

theorem infoB : (Try.prog.info? 4).map (fun i => (i.zero, i.size, i.bytes)) = some (some (.bool false), 1, 1) := by kernel_rfl



def renOk (m : List (List Int)) (xs : List Int) : Bool := isMat m && (namesL m.length xs [] && decide (xs.length = m.length))
def renV (m : List (List Int)) (xs : List Int) : List (List Int) := if renOk m xs = true then renI m (xs.map Int.toNat) m.length m.length else []

theorem nats_toNat {xs : List Int} {n : Nat} (h : ∀ x, x ∈ xs → 0 ≤ x ∧ x < n) : xs = nats (xs.map Int.toNat) ∧ ∀ i, i < xs.length → (xs.map Int.toNat).getD i 0 < n := by
  constructor
  · unfold nats
    rw [List.map_map]
    refine (List.map_id xs).symm.trans (List.map_congr_left fun x hx => ?_)
    have := h x hx
    simp; omega
  · intro i hi
    have := h xs[i] (List.getElem_mem hi)
    simp [List.getD, hi]; omega


end Go.Proofs.Ytjgiobapdkdhpaa
