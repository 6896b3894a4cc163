/-
  The empty pair of tables.
-/
import Derived.Test.YtjgiobapdkdhpaaRows
import Derived.Test.YtjgiobapdkdhpaaBase
import Derived.Test.YtjgiobapdkdhpaaStepH
namespace Go.Proofs.Ytjgiobapdkdhpaa
open Go.RowKit Go.Deep Go.Sd
theorem New.none2 {eI eR : TypeId} {lo : Nat} {w : World} (h : lo ≤ w.heap.size) : New (OStep eI eR) lo w (.agg #[.slice none 0 0, .slice none 0 0]) ([], []) :=
  New.pair (New.nil lo w) (New.nil w.heap.size w) (Below.refl _ _) h
end Go.Proofs.Ytjgiobapdkdhpaa
