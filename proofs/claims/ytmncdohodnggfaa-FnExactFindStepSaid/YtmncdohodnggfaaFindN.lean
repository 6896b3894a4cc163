/-
  The empty pair of tables.
-/
import Derived.Test.YtmncdohodnggfaaRows
import Derived.Test.YtmncdohodnggfaaBase
import Derived.Test.YtmncdohodnggfaaStepH
namespace Go.Proofs.Ytmncdohodnggfaa
open Go.RowKit Go.Deep Go.Sd
theorem New.none2 {eI eR : TypeId} {lo : Nat} {w : World} (h : lo ≤ w.heap.size) : New (OStep eI eR) lo w (.agg #[.slice none 0 0, .slice none 0 0]) ([], []) :=
  New.pair (New.nil lo w) (New.nil w.heap.size w) (Below.refl _ _) h
end Go.Proofs.Ytmncdohodnggfaa
