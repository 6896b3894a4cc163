/-
  A pair of slices in a variable of its own: the block that the laws' own walks lay it in.
-/
import Derived.Test.YtjgiobapdkdhpaaRows
import Derived.Test.YtjgiobapdkdhpaaBase
import Derived.Test.YtjgiobapdkdhpaaLawKit
namespace Go.Sd
open Go.RowKit Go.Deep

def boxW (w : World) (ty : TypeId) (v1 v2 : Value) : World := ((w.alloc (.cells #[.slice none 0 0, .slice none 0 0] ty)).setCell ⟨w.heap.size, 0, none⟩ v1).setCell ⟨w.heap.size, 1, none⟩ v2
theorem boxW_ex (w : World) (ty : TypeId) (v1 v2 : Value) : ∃ w', boxW w ty v1 v2 = w' ∧ Below w.heap.size w w' ∧ w'.cell? ⟨w.heap.size, 0, none⟩ = some v1 ∧ w'.cell? ⟨w.heap.size, 1, none⟩ = some v2 ∧ w.heap.size < w'.heap.size := by
  have h0 : (w.alloc (.cells #[.slice none 0 0, .slice none 0 0] ty)).cell? ⟨w.heap.size, 0, none⟩ = some (.slice none 0 0) := by simp
  have h1 : (w.alloc (.cells #[.slice none 0 0, .slice none 0 0] ty)).cell? ⟨w.heap.size, 1, none⟩ = some (.slice none 0 0) := by simp
  refine ⟨_, rfl, (((Below.refl w.heap.size w).alloc (Nat.le_refl _) _).setCell (Nat.le_refl _) _).setCell (Nat.le_refl _) _, ?_, ?_, ?_⟩
  · exact (World.cell?_setCell_other _ _ _ _ (by simp)).trans (World.cell?_setCell_same _ _ _ h0)
  · exact World.cell?_setCell_same _ _ _ ((World.cell?_setCell_other _ _ _ _ (by simp)).trans h1)
  · simp [boxW]
theorem boxA_ex (w : World) (ty : TypeId) (v1 v2 : Value) : ∃ w', w.alloc (.cells #[v1, v2] ty) = w' ∧ Below w.heap.size w w' ∧ w'.cell? ⟨w.heap.size, 0, none⟩ = some v1 ∧ w'.cell? ⟨w.heap.size, 1, none⟩ = some v2 ∧ w.heap.size < w'.heap.size :=
  ⟨_, rfl, (Below.refl w.heap.size w).alloc (Nat.le_refl _) _, by simp, by simp, by simp⟩
theorem OffIn.cell {lo hi : Nat} {w w' : World} (h : OffIn lo hi w w') {b o : Nat} (hb : b < w.heap.size) (hd : b < lo ∨ hi ≤ b) : w'.cell? ⟨b, o, none⟩ = w.cell? ⟨b, o, none⟩ := by
  have h1 := h.block b hb (by omega)
  simp only [World.cell?, h1]
end Go.Sd
