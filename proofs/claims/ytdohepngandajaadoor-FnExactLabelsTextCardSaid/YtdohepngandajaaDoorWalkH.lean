/-
  Small laws for walks: two boxed graphs; slices of numbers side by side.
-/
import Derived.Test.YtdohepngandajaaDoorBase
import Derived.Test.YtdohepngandajaaDoorApart
import Derived.Test.YtdohepngandajaaDoorLawKit
import Derived.Test.YtdohepngandajaaDoorLab
import Derived.Test.YtdohepngandajaaDoorLabC
import Derived.Test.YtdohepngandajaaDoorSep
namespace Go.Sd
open Go.RowKit Go.Deep

/-- Two boxes laid one behind the other. -/
theorem boxB3_ex (w : World) (t1 t2 : TypeId) (u0 u1 u2 v0 v1 v2 : Value) : ∃ w', w' = (w.alloc (.cells #[u0, u1, u2] t1)).alloc (.cells #[v0, v1, v2] t2) ∧ Below w.heap.size w w' ∧ w'.heap.size = w.heap.size + 1 + 1 ∧
    (w'.cell? ⟨w.heap.size, 0, none⟩ = some u0 ∧ w'.cell? ⟨w.heap.size, 1, none⟩ = some u1 ∧ w'.cell? ⟨w.heap.size, 2, none⟩ = some u2) ∧
    (w'.cell? ⟨w.heap.size + 1, 0, none⟩ = some v0 ∧ w'.cell? ⟨w.heap.size + 1, 1, none⟩ = some v1 ∧ w'.cell? ⟨w.heap.size + 1, 2, none⟩ = some v2) :=
  ⟨_, rfl, ((Below.refl _ _).alloc (Nat.le_refl _) _).alloc (by simp) _, by simp, by simp [go_sem], by simp [go_sem]⟩
/-- A box's three cells. -/
def Box3 (w : World) (b : Nat) (u0 u1 u2 : Value) : Prop := b < w.heap.size ∧ w.cell? ⟨b, 0, none⟩ = some u0 ∧ w.cell? ⟨b, 1, none⟩ = some u1 ∧ w.cell? ⟨b, 2, none⟩ = some u2
theorem Box3.below {w w' : World} {b : Nat} {u0 u1 u2 : Value} (h : Box3 w b u0 u1 u2) {B : Nat} (hb : Below B w w') (hB : b < B) : Box3 w' b u0 u1 u2 :=
  ⟨Nat.lt_of_lt_of_le h.1 hb.size, (hb.cell (p := ⟨b, 0, none⟩) hB).trans h.2.1, (hb.cell (p := ⟨b, 1, none⟩) hB).trans h.2.2.1, (hb.cell (p := ⟨b, 2, none⟩) hB).trans h.2.2.2⟩
theorem nodup_single {lo : Nat} (b : Nat) (h : lo ≤ b) : Fresh lo [b] := by simp [Fresh]; exact h
theorem New.oneG {α : Type} {e : TypeId} {R : OwnRel α} (hR : Kept R) {lo : Nat} {w : World} {u : Value} {x : α} (h : New R lo w u x) (hlo : lo ≤ w.heap.size) :
    New (OwnOf e R) lo (w.alloc (.cells #[u] e)) (.slice (some ⟨w.heap.size, 0, none⟩) 1 1) [x] := by
  obtain ⟨F, hF, hn, hge⟩ := h
  have hlt := hR.lt _ _ _ _ hF
  refine ⟨w.heap.size :: F, ⟨[u], [F], ⟨by simp, .inr ⟨w.heap.size, 1, #[u], rfl, Nat.zero_le _, heap_alloc_new w _, Nat.le_refl _, by simp [maxLen], by simp, by simp⟩⟩, rfl, ?_, by simp [Value.ownBlock]⟩, List.nodup_cons.2 ⟨fun hm => by have := hlt _ hm; omega, hn⟩, fun b hb => by
    rcases List.mem_cons.1 hb with rfl | hb
    · exact hlo
    · exact hge b hb⟩
  intro i u' x' G hu hx hG
  cases i with
  | zero =>
    simp at hu hx hG
    subst hu hx hG
    exact hR.keep _ _ _ _ _ hF fun b hb' => ((Below.refl w.heap.size w).alloc (Nat.le_refl _) _).block b (hR.lt _ _ _ _ hF b hb')
  | succ i => simp at hu
/-- A slice literal of one number. -/
theorem New.oneInt {e : TypeId} (w : World) (x : Int) : New (OInts e) w.heap.size (w.alloc (.cells #[.int .i64 x] e)) (.slice (some ⟨w.heap.size, 0, none⟩) 1 1) [x] :=
  New.oneG OIntR.kept ⟨[], ⟨rfl, rfl⟩, by simp [Fresh]⟩ (Nat.le_refl _)
abbrev Res.ints (e : TypeId) (v : Value) (xs : List Int) : Res := Res.of (OInts e) (OInts.kept e).held v xs
/-- Where the numbers lie. -/
theorem Sep.intsAt {lo : Nat} {w : World} {e : TypeId} {v : Value} {xs : List Int} {rs : List Res} (h : Sep lo w (Res.ints e v xs :: rs)) : ∃ a c, v = .slice a xs.length c ∧ xs.length ≤ c ∧ (0 < xs.length → ∃ b, a = some ⟨b, 0, none⟩ ∧ b < w.heap.size ∧ ∀ i x, xs[i]? = some x → w.cell? ⟨b, i, none⟩ = some (.int .i64 x)) := by
  have hn := h.headNew
  obtain ⟨a, c, rfl, hc, _, h1⟩ := (New.ints hn).shape
  refine ⟨a, c, rfl, hc, fun h0 => ?_⟩
  obtain ⟨b, o, rfl, hb, hx⟩ := h1 h0
  obtain ⟨x0, hx0, _⟩ := at_lt h0
  obtain ⟨b', c', hv, _⟩ := hn.int_at hx0
  have e1 : b = b' ∧ o = 0 := by simp at hv; exact ⟨hv.1.1, hv.1.2⟩
  obtain ⟨rfl, rfl⟩ := e1
  refine ⟨b, rfl, hb, fun i x hi => ?_⟩
  obtain ⟨u, hu, rfl⟩ := hx i x hi
  simpa using hu
/-- append of a number, laid in a block of its own. -/
theorem Sep.pushInt {P : Program} {lo : Nat} {w : World} {e : TypeId} {v : Value} {xs : List Int} {rs : List Res} (t ty : TypeId) (ht : P.underlying t = some (.slice e)) (hinfo : (P.info? e).map (fun i => (i.zero, i.size, i.bytes)) = some (some (.int .i64 0), 1, 8))
    (h : Sep lo w (Res.ints e v xs :: rs)) (hlo : lo ≤ w.heap.size) (x : Int) (hl : xs.length ≤ 16777216) (el : TypeId) :
    ∃ a c w', (Builtin.append_ #[t, t] ty #[v, .slice (some ⟨w.heap.size, 0, none⟩) 1 1]).run P (w.alloc (.cells #[.int .i64 x] el)) = .ok (.slice a (xs ++ [x]).length c) w' ∧ Sep lo w' (Res.ints e (.slice a (xs ++ [x]).length c) (xs ++ [x]) :: rs) ∧ Below lo w w' := by
  obtain ⟨v', w', hr, hs, hb⟩ := Sep.push (P := P) OIntR.kept t ty (.int .i64 0) 8 ht hinfo rfl h hlo ((Below.refl _ _).alloc (Nat.le_refl _) (.cells #[.int .i64 x] el)) (q := .int .i64 x) (x := x) ⟨[], ⟨rfl, rfl⟩, by simp [Fresh]⟩ (bb := w.heap.size) (c := 1) (World.cell?_alloc_at _ _ _ 0 rfl) (by omega) (by omega)
  obtain ⟨a, c, rfl, _⟩ := hs.intsAt
  exact ⟨a, c, w', hr, hs, hb⟩
/-- A slice literal of one element of sz cells. -/
theorem New.oneRow {α : Type} {e : TypeId} {sz : Nat} {f : α → List Value} (L : Lay sz f) (w : World) (x : α) (hs : sz ≤ maxLen) : New (RowG e sz f) w.heap.size (w.alloc (.cells (f x).toArray e)) (.slice (some ⟨w.heap.size, 0, none⟩) 1 1) [x] :=
  ⟨[w.heap.size], ⟨⟨by simp [L.len], .inr ⟨w.heap.size, 1, (f x).toArray, rfl, Nat.zero_le _, heap_alloc_new w _, Nat.le_refl _, by simp [maxLen], by simp [L.len], by simp; exact List.take_of_length_le (by rw [L.len]; omega)⟩⟩, by simp [Value.ownBlock]⟩, by simp [Fresh]⟩
abbrev Res.row {α : Type} (e : TypeId) (sz : Nat) (f : α → List Value) (v : Value) (xs : List α) : Res := Res.of (RowG e sz f) RowG.held v xs
theorem Sep.rowAt {α : Type} {e : TypeId} {sz : Nat} {f : α → List Value} (L : Lay sz f) {lo : Nat} {w : World} {v : Value} {xs : List α} {rs : List Res} (h : Sep lo w (Res.row e sz f v xs :: rs)) : ∃ a c, v = .slice a xs.length c ∧ (0 < xs.length → ∃ b, a = some ⟨b, 0, none⟩ ∧ lo ≤ b ∧ b < w.heap.size ∧ ∀ i x j u, xs[i]? = some x → (f x)[j]? = some u → w.cell? ⟨b, i * sz + j, none⟩ = some u) := by
  have hn := h.headNew
  obtain ⟨a, c, rfl⟩ := hn.rowSlice
  refine ⟨a, c, rfl, fun h0 => ?_⟩
  obtain ⟨g, c', hv, _, _, hlo, hg, hx⟩ := hn.rowAt L h0
  simp at hv
  exact ⟨g, hv.1, hlo, hg, fun i x j u h1 h2 => (hx i x j u h1 h2).1⟩
theorem Sep.congr {lo : Nat} {w : World} {rs ss : List Res} (h : Sep lo w rs) (e : rs = ss) : Sep lo w ss := e ▸ h
end Go.Sd
