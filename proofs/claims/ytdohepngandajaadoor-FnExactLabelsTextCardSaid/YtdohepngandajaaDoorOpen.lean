/-
  How the laws' arguments are opened: what was read as data reads by this proof's own predicates.
-/
import Derived.Test.YtdohepngandajaaDoorBase
import Derived.ProofKit
import Derived.OpenShut
import Derived.Deep.Matrix
namespace Go.Sd
open Go.ChangeShapes Go.WideShapes Go.ChangeAt Go.RowKit Go.Deep

def I64 (x : Int) : Prop := -9223372036854775808 ≤ x ∧ x ≤ 9223372036854775807
theorem I64.of_wf {x : Int} (h : (Lit.int .i64 x).wf = true) : I64 x := bounds_i64 h

section
variable {H : Type} {enc : TypeId × Value → H} {P : Program} {W : World} {base : Nat}

theorem Sl.mk' {w : World} {a : Option Addr} {len cap : Nat} {us : List Value} (hu : us.length = len) (hl : len ≤ cap) (hm : cap ≤ 9223372036854775807) (hc : ∀ a', a = some a' → ∀ (i : Nat) (u : Value), us[i]? = some u → w.cell? (a'.add i) = some u) (hn0 : a = none → cap = 0) : Sl w (.slice a len cap) us := by
  subst hu
  refine ⟨by omega, a, cap, rfl, hl, hm, hn0, ?_⟩
  by_cases h0 : us.length = 0
  · exact Or.inl (List.eq_nil_of_length_eq_zero h0)
  · right
    cases a with
    | none => have := hn0 rfl; omega
    | some a' =>
      obtain ⟨b, o, sp⟩ := a'
      have h1 := hc _ rfl 0 us[0] (List.getElem?_eq_getElem (by omega))
      have hs : sp = none := by simpa [Addr.add] using World.cell?_spot h1
      subst hs
      refine ⟨b, o, rfl, World.block_lt_of_cell? w ⟨b, o, none⟩ (by simpa [Addr.add] using h1), fun i u hi => ?_⟩
      have := hc _ rfl i u hi
      cases i <;> simpa [Addr.add] using this

theorem open_Ints_cells {t q : TypeId} (ht : P.underlying t = some (.slice q)) (hq : P.underlying q = some (.int .i64)) (cq : P.cellsOf q = 1) {a : Option Addr} {len cap fuel : Nat} {x : DataW H × List MemPlace}
    (h : DataW.trod enc P W base (fun _ => true) true fuel t [.slice a len cap] = some x) : ∃ xs, Ints W (.slice a len cap) xs ∧ ∀ x, x ∈ xs → I64 x := by
  rcases open_ints ht hq cq h with ⟨hcs, _⟩ | ⟨a', l, c, zs, hcs, _, hl, hm, hz, _, hcell, hwz⟩
  · simp at hcs
    obtain ⟨rfl, rfl, rfl⟩ := hcs
    exact ⟨[], ⟨[], Sl.mk' rfl (by simp) (by simp) (by simp) (by simp), rfl, by simp⟩, by simp⟩
  · simp at hcs
    obtain ⟨rfl, rfl, rfl⟩ := hcs
    simp only [if_true] at hz
    have hm' : cap ≤ 9223372036854775807 := hm
    refine ⟨zs.take len, ⟨(zs.take len).map (Value.int .i64), Sl.mk' (by simp; omega) hl hm' ?_ (by simp), by simp, ?_⟩, fun y hy => I64.of_wf (hwz y (List.mem_of_mem_take hy))⟩
    · intro a'' ha i u hu
      cases ha
      rw [List.getElem?_map, Option.map_eq_some_iff] at hu
      obtain ⟨z, hz1, rfl⟩ := hu
      have hi : i < (zs.take len).length := (List.getElem?_eq_some_iff.1 hz1).1
      rw [List.length_take] at hi
      rw [List.getElem?_take, if_pos (by omega)] at hz1
      have := hcell i (by omega)
      rw [List.getD, hz1] at this
      simpa using this
    · intro i u z hu hz1
      rw [List.getElem?_map, hz1] at hu
      simp at hu
      exact hu.symm

theorem open_Ints {t q : TypeId} (ht : P.underlying t = some (.slice q)) (hq : P.underlying q = some (.int .i64)) (cq : P.cellsOf q = 1) {v : Value} {d : DataW H} {p : List MemPlace}
    (hv : Value.okWide P W .any base t v) (h : DataW.Trod enc P W 0 (fun _ => true) true t v d p) : ∃ xs, Ints W v xs ∧ ∀ x, x ∈ xs → I64 x := by
  obtain ⟨a, len, cap, rfl⟩ := okWide_slice ht hv
  obtain ⟨fuel, hf⟩ := h
  exact open_Ints_cells ht hq cq (by simpa [Value.cells] using hf)

/-- A slice whose elements each read: the elements' readings gathered. -/
theorem gather {α : Type} {R : World → Value → α → Prop} {w : World} {us : List Value} (h : ∀ u, u ∈ us → ∃ x, R w u x) : ∃ xs : List α, us.length = xs.length ∧ ∀ (i : Nat) (u : Value) (x : α), us[i]? = some u → xs[i]? = some x → R w u x := by
  induction us with
  | nil => exact ⟨[], rfl, by simp⟩
  | cons u us ih =>
    obtain ⟨x, hx⟩ := h u (by simp)
    obtain ⟨xs, hl, hr⟩ := ih fun u' hu' => h u' (by simp [hu'])
    refine ⟨x :: xs, by simp [hl], fun i u' x' hu' hx' => ?_⟩
    cases i with
    | zero => simp at hu' hx'; subst hu' hx'; exact hx
    | succ i => exact hr i u' x' (by simpa using hu') (by simpa using hx')

theorem open_Tab_cells {t e q : TypeId} (ht : P.underlying t = some (.slice e)) (he : P.underlying e = some (.slice q)) (hq : P.underlying q = some (.int .i64)) (ce : P.cellsOf e = 1) (cq : P.cellsOf q = 1) {a : Option Addr} {len cap fuel : Nat} {x : DataW H × List MemPlace}
    (h : DataW.trod enc P W base (fun _ => true) true fuel t [.slice a len cap] = some x) : ∃ m, Tab W (.slice a len cap) m ∧ ∀ r, r ∈ m → ∀ x, x ∈ r → I64 x := by
  rcases open_slice1 ht ce h with ⟨hcs, _⟩ | ⟨a', l, c, mm, n, V, D, Pl, hcs, hb, hl, hm, hmm, _, hx⟩
  · simp at hcs
    obtain ⟨rfl, rfl, rfl⟩ := hcs
    exact ⟨[], ⟨[], Sl.mk' rfl (by simp) (by simp) (by simp) (by simp), rfl, by simp⟩, by simp⟩
  · simp at hcs
    obtain ⟨rfl, rfl, rfl⟩ := hcs
    simp only [if_true] at hmm
    have hmm2 := hmm.symm
    subst hmm2
    have hm' : cap ≤ 9223372036854775807 := hm
    have each : ∀ u, u ∈ (List.range len).map V → ∃ r : List Int, Ints W u r ∧ ∀ x, x ∈ r → I64 x := by
      intro u hu
      obtain ⟨i, hi, rfl⟩ := List.mem_map.1 hu
      have hi' := List.mem_range.1 hi
      have h2 := (hx i (by omega)).2
      rcases open_ints he hq cq h2 with ⟨hcs, _⟩ | ⟨a2, l2, c2, zs, hcs, _⟩
      · simp at hcs
        rw [hcs] at h2 ⊢
        exact open_Ints_cells he hq cq h2
      · simp at hcs
        rw [hcs] at h2 ⊢
        exact open_Ints_cells he hq cq h2
    obtain ⟨m, hml, hmr⟩ := gather (R := fun w u r => Ints w u r ∧ ∀ x, x ∈ r → I64 x) (w := W) each
    refine ⟨m, ⟨(List.range len).map V, Sl.mk' (by simp) hl hm' ?_ (by simp), hml, fun i u r hu hr => (hmr i u r hu hr).1⟩, fun r hr => ?_⟩
    · intro a'' ha i u hu
      cases ha
      rw [List.getElem?_map, Option.map_eq_some_iff] at hu
      obtain ⟨j, hj, rfl⟩ := hu
      have hj2 := List.getElem?_eq_some_iff.1 hj
      obtain ⟨hj3, hj4⟩ := hj2
      simp at hj3 hj4
      subst hj4
      exact (hx i (by omega)).1
    · obtain ⟨i, hi⟩ := List.getElem?_of_mem hr
      have hi2 : i < m.length := (List.getElem?_eq_some_iff.1 hi).1
      exact (hmr i _ r (List.getElem?_eq_getElem (by omega)) hi).2

theorem open_Tab {t e q : TypeId} (ht : P.underlying t = some (.slice e)) (he : P.underlying e = some (.slice q)) (hq : P.underlying q = some (.int .i64)) (ce : P.cellsOf e = 1) (cq : P.cellsOf q = 1) {v : Value} {d : DataW H} {p : List MemPlace}
    (hv : Value.okWide P W .any base t v) (h : DataW.Trod enc P W 0 (fun _ => true) true t v d p) : ∃ m, Tab W v m ∧ ∀ r, r ∈ m → ∀ x, x ∈ r → I64 x := by
  obtain ⟨a, len, cap, rfl⟩ := okWide_slice ht hv
  obtain ⟨fuel, hf⟩ := h
  exact open_Tab_cells ht he hq ce cq (by simpa [Value.cells] using hf)
end
end Go.Sd
