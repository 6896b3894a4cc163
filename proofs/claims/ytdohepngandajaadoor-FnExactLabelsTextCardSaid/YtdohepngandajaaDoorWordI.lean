/-
  All words of a length: the program's power, wordAt, wordsOf.
-/
import Derived.Test.YtdohepngandajaaDoorRows
import Derived.Test.YtdohepngandajaaDoorBase
import Derived.Test.YtdohepngandajaaDoorTabs
import Derived.Test.YtdohepngandajaaDoorHarn
import Derived.Test.YtdohepngandajaaDoorPairLib
import Derived.Test.YtdohepngandajaaDoorShortCl
import Derived.Test.YtdohepngandajaaDoorShortS
import Derived.Test.YtdohepngandajaaDoorWordM
import Derived.Test.YtdohepngandajaaDoorReachK
import Derived.IntWalk
namespace Go.Proofs.YtdohepngandajaaDoor
open Go.RowKit Go.Deep Go.Sd
set_option linter.unusedSimpArgs false
theorem SlOf.comap {α β : Type} {f : β → Value} {h : α → β} {w : World} {v : Value} {xs : List α} (hs : SlOf (ValR f) w v (xs.map h)) : SlOf (ValR fun x => f (h x)) w v xs := by
  obtain ⟨us, h1, h2, h3⟩ := hs
  exact ⟨us, h1, by simpa using h2, fun i u x hu hx => h3 i u (h x) hu (by rw [List.getElem?_map, hx]; rfl)⟩
abbrev OStrL (e : TypeId) : OwnRel (List ByteArray) := OwnOf e (OValR Value.string)
/-- append of a text, laid in a block of its own. -/
theorem New.pushStr {lo : Nat} {w : World} {v : Value} {xs : List ByteArray} (h : New (OStrL 9) lo w v xs) (hlo : lo ≤ w.heap.size) {w0 : World} (hb : Below w.heap.size w w0) (s : ByteArray) (hl : xs.length ≤ 1000000) :
    ∃ a c w', (Builtin.append_ #[38, 38] 38 #[v, .slice (some ⟨w0.heap.size, 0, none⟩) 1 1]).run Tryd.prog (w0.alloc (.cells #[.string s] 9)) = .ok (.slice a (xs.length + 1) c) w' ∧ New (OStrL 9) lo w' (.slice a (xs.length + 1) c) (xs ++ [s]) ∧ Below lo w w' := by
  obtain ⟨v', w', hr, hs, hb'⟩ := Sep.push (P := Tryd.prog) OStr.kept 38 38 (.string ⟨#[]⟩) 16 Tryd.underlying38 infoStr rfl (Sep.one (OwnOf.kept OStr.kept).held h) hlo (w1 := w0.alloc (.cells #[.string s] 9)) (hb.alloc hb.size _) (q := .string s) (x := s) ⟨[], ⟨rfl, rfl⟩, by simp [Fresh]⟩ (bb := w0.heap.size) (c := 1) (World.cell?_alloc_at _ _ _ 0 rfl) (by omega) (by omega)
  have hn := hs.headNew
  obtain ⟨a, c, e, _⟩ := hs.strsAt
  subst e
  rw [show (xs ++ [s]).length = xs.length + 1 by simp] at hr hn
  exact ⟨a, c, w', hr, hn, hb'⟩
end Go.Proofs.YtdohepngandajaaDoor
