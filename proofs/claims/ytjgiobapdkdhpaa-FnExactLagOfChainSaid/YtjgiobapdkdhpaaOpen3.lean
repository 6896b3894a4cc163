/-
  Lists of tables: how the laws' arguments are opened.
-/
import Derived.Test.YtjgiobapdkdhpaaBase
import Derived.Test.YtjgiobapdkdhpaaOpen
import Derived.ProofKit
import Derived.OpenShut
import Derived.Deep.Matrix
namespace Go.Sd
open Go.ChangeShapes Go.WideShapes Go.ChangeAt Go.RowKit Go.Deep
section
variable {H : Type} {enc : TypeId × Value → H} {P : Program} {W : World} {base : Nat}
theorem open_Tabs_cells {t0 t e q : TypeId} (ht0 : P.underlying t0 = some (.slice t)) (ht : P.underlying t = some (.slice e)) (he : P.underlying e = some (.slice q)) (hq : P.underlying q = some (.int .i64)) (ct : P.cellsOf t = 1) (ce : P.cellsOf e = 1) (cq : P.cellsOf q = 1) {a : Option Addr} {len cap fuel : Nat} {x : DataW H × List MemPlace}
    (h : DataW.trod enc P W base (fun _ => true) true fuel t0 [.slice a len cap] = some x) : ∃ m, Tabs W (.slice a len cap) m ∧ ∀ t, t ∈ m → ∀ r, r ∈ t → ∀ x, x ∈ r → I64 x := by
  rcases open_slice1 ht0 ct h with ⟨hcs, _⟩ | ⟨a', l, c, mm, n, V, D, Pl, hcs, hb, hl, hm, hmm, _, hx⟩
  · simp at hcs
    obtain ⟨rfl, rfl, rfl⟩ := hcs
    exact ⟨[], ⟨[], Sl.mk' rfl (by simp) (by simp) (by simp) (by simp), rfl, by simp⟩, by simp⟩
  · simp at hcs
    obtain ⟨rfl, rfl, rfl⟩ := hcs
    simp only [if_true] at hmm
    have hmm2 := hmm.symm
    subst hmm2
    have hm' : cap ≤ 9223372036854775807 := hm
    have each : ∀ u, u ∈ (List.range len).map V → ∃ r : List (List Int), Tab W u r ∧ ∀ x, x ∈ r → ∀ y, y ∈ x → I64 y := by
      intro u hu
      obtain ⟨i, hi, rfl⟩ := List.mem_map.1 hu
      have hi' := List.mem_range.1 hi
      have h2 := (hx i (by omega)).2
      rcases open_slice1 ht ce h2 with ⟨hcs, _⟩ | ⟨a2, l2, c2, mm2, n2, V2, D2, Pl2, hcs, _⟩
      · simp at hcs
        rw [hcs] at h2 ⊢
        exact open_Tab_cells ht he hq ce cq h2
      · simp at hcs
        rw [hcs] at h2 ⊢
        exact open_Tab_cells ht he hq ce cq h2
    obtain ⟨m, hml, hmr⟩ := gather (R := fun w u r => Tab w u r ∧ ∀ x, x ∈ r → ∀ y, y ∈ x → I64 y) (w := W) each
    refine ⟨m, ⟨(List.range len).map V, Sl.mk' (by simp) hl hm' ?_ (by simp), hml, fun i u r hu hr => (hmr i u r hu hr).1⟩, fun r hr => ?_⟩
    · intro a'' ha i u hu
      cases ha
      rw [List.getElem?_map, Option.map_eq_some_iff] at hu
      obtain ⟨j, hj, rfl⟩ := hu
      have hj2 := List.getElem?_eq_some_iff.1 hj
      obtain ⟨hj3, hj4⟩ := hj2
      simp at hj3 hj4
      subst hj4
      exact (hx i (by omega)).1
    · obtain ⟨i, hi⟩ := List.getElem?_of_mem hr
      have hi2 : i < m.length := (List.getElem?_eq_some_iff.1 hi).1
      exact (hmr i _ r (List.getElem?_eq_getElem (by omega)) hi).2

theorem open_Tabs {t0 t e q : TypeId} (ht0 : P.underlying t0 = some (.slice t)) (ht : P.underlying t = some (.slice e)) (he : P.underlying e = some (.slice q)) (hq : P.underlying q = some (.int .i64)) (ct : P.cellsOf t = 1) (ce : P.cellsOf e = 1) (cq : P.cellsOf q = 1) {v : Value} {d : DataW H} {p : List MemPlace}
    (hv : Value.okWide P W .any base t0 v) (h : DataW.Trod enc P W 0 (fun _ => true) true t0 v d p) : ∃ m, Tabs W v m ∧ ∀ t, t ∈ m → ∀ r, r ∈ t → ∀ x, x ∈ r → I64 x := by
  obtain ⟨a, len, cap, rfl⟩ := okWide_slice ht0 hv
  obtain ⟨fuel, hf⟩ := h
  exact open_Tabs_cells ht0 ht he hq ct ce cq (by simpa [Value.cells] using hf)
end
end Go.Sd
