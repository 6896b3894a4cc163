/-
  The program's live places: one round, in plain Lean; slices of bools by their cells.
-/
import Derived.Test.YtjgiobapdkdhpaaRows
import Derived.Test.YtjgiobapdkdhpaaBase
import Derived.Test.YtjgiobapdkdhpaaLiveM
namespace Go.Sd
open Go.RowKit Go.Deep
/-- j stands in row i. -/
def EntN (next : List (List Int)) (i j : Nat) : Prop := (j : Int) ∈ next.getD i []
/-- The arcs of the rows before i, and the first c of row i. -/
def Pr (next : List (List Int)) (i c x y : Nat) : Prop := (x < i ∧ EntN next x y) ∨ (x = i ∧ (y : Int) ∈ (next.getD i []).take c)
def FrOk (next : List (List Int)) (l0 : List Bool) (i c : Nat) (fr : List Bool) : Prop := fr.length = l0.length ∧ ∀ x, On fr x ↔ On l0 x ∧ ∃ y, Pr next i c x y ∧ On l0 y
def ToOk (next : List (List Int)) (l0 : List Bool) (i c : Nat) (t : List Bool) : Prop := t.length = l0.length ∧ ∀ y, On t y ↔ On l0 y ∧ ∃ x, Pr next i c x y ∧ On l0 x
section
variable {next : List (List Int)} {l0 fr t l : List Bool} {i c x y n : Nat}
theorem Pr.zero : ¬ Pr next 0 0 x y := by rintro (⟨h, _⟩ | ⟨_, h⟩) <;> simp at h
theorem Pr.succ (hy : (next.getD i [])[c]? = some (y : Int)) {x' y' : Nat} : Pr next i (c + 1) x' y' ↔ Pr next i c x' y' ∨ (x' = i ∧ y' = y) := by
  unfold Pr
  rw [List.take_add_one, hy]
  simp only [Option.toList_some, List.mem_append, List.mem_singleton, Int.ofNat_inj]
  constructor
  · rintro (h | ⟨h1, h | h⟩)
    · exact .inl (.inl h)
    · exact .inl (.inr ⟨h1, h⟩)
    · exact .inr ⟨h1, h⟩
  · rintro ((h | ⟨h1, h⟩) | ⟨h1, h⟩)
    · exact .inl h
    · exact .inr ⟨h1, .inl h⟩
    · exact .inr ⟨h1, .inr h⟩
theorem Pr.row (hc : (next.getD i []).length ≤ c) : Pr next i c x y ↔ Pr next (i + 1) 0 x y := by
  unfold Pr
  rw [List.take_of_length_le hc]
  constructor
  · rintro (⟨h, e⟩ | ⟨rfl, e⟩)
    · exact .inl ⟨by omega, e⟩
    · exact .inl ⟨by omega, e⟩
  · rintro (⟨h, e⟩ | ⟨_, e⟩)
    · by_cases hx : x < i
      · exact .inl ⟨hx, e⟩
      · obtain rfl : x = i := by omega
        exact .inr ⟨rfl, e⟩
    · simp at e
theorem Pr.all (hn : next.length ≤ n) : Pr next n 0 x y ↔ EntN next x y := by
  unfold Pr
  constructor
  · rintro (⟨_, e⟩ | ⟨_, e⟩)
    · exact e
    · simp at e
  · intro e
    by_cases hx : x < n
    · exact .inl ⟨hx, e⟩
    · unfold EntN at e
      rw [List.getD_eq_getElem?_getD, List.getElem?_eq_none (by omega)] at e
      simp at e
theorem On.set_iff {b : Bool} (hi : i < l.length) : On (l.set i b) x ↔ if x = i then b = true else On l x := by
  unfold On
  by_cases e : x = i
  · subst e
    rw [List.getElem?_set_self hi, if_pos rfl]; simp
  · rw [List.getElem?_set_ne (fun h => e h.symm), if_neg e]
theorem FrOk.start : FrOk next l0 0 0 (List.replicate l0.length false) := by
  refine ⟨by simp, fun x => ⟨fun h => ?_, fun ⟨_, y, h, _⟩ => absurd h Pr.zero⟩⟩
  unfold On at h
  rw [List.getElem?_replicate] at h
  split at h <;> simp at h
theorem ToOk.start : ToOk next l0 0 0 (List.replicate l0.length false) := by
  refine ⟨by simp, fun x => ⟨fun h => ?_, fun ⟨_, y, h, _⟩ => absurd h Pr.zero⟩⟩
  unfold On at h
  rw [List.getElem?_replicate] at h
  split at h <;> simp at h
theorem FrOk.skip (h : FrOk next l0 i c fr) (hy : (next.getD i [])[c]? = some (y : Int)) (hn : ¬ (On l0 i ∧ On l0 y)) : FrOk next l0 i (c + 1) fr := by
  refine ⟨h.1, fun x' => (h.2 x').trans ⟨fun ⟨h1, y', h2, h3⟩ => ⟨h1, y', (Pr.succ hy).2 (.inl h2), h3⟩, fun ⟨h1, y', h2, h3⟩ => ?_⟩⟩
  rcases (Pr.succ hy).1 h2 with h2 | ⟨rfl, rfl⟩
  · exact ⟨h1, y', h2, h3⟩
  · exact absurd ⟨h1, h3⟩ hn
theorem ToOk.skip (h : ToOk next l0 i c t) (hy : (next.getD i [])[c]? = some (y : Int)) (hn : ¬ (On l0 i ∧ On l0 y)) : ToOk next l0 i (c + 1) t := by
  refine ⟨h.1, fun x' => (h.2 x').trans ⟨fun ⟨h1, y', h2, h3⟩ => ⟨h1, y', (Pr.succ hy).2 (.inl h2), h3⟩, fun ⟨h1, y', h2, h3⟩ => ?_⟩⟩
  rcases (Pr.succ hy).1 h2 with h2 | ⟨rfl, rfl⟩
  · exact ⟨h1, y', h2, h3⟩
  · exact absurd ⟨h3, h1⟩ hn
theorem FrOk.take (h : FrOk next l0 i c fr) (hy : (next.getD i [])[c]? = some (y : Int)) (h1 : On l0 i) (h2 : On l0 y) : FrOk next l0 i (c + 1) (fr.set i true) := by
  refine ⟨by rw [List.length_set]; exact h.1, fun x' => ?_⟩
  rw [On.set_iff (by rw [h.1]; exact h1.lt)]
  by_cases e : x' = i
  · subst e
    rw [if_pos rfl]
    exact ⟨fun _ => ⟨h1, y, (Pr.succ hy).2 (.inr ⟨rfl, rfl⟩), h2⟩, fun _ => rfl⟩
  · rw [if_neg e, h.2 x']
    refine ⟨fun ⟨h3, y', h4, h5⟩ => ⟨h3, y', (Pr.succ hy).2 (.inl h4), h5⟩, fun ⟨h3, y', h4, h5⟩ => ⟨h3, y', ?_, h5⟩⟩
    rcases (Pr.succ hy).1 h4 with h4 | ⟨e2, _⟩
    · exact h4
    · exact absurd e2 e
theorem ToOk.take (h : ToOk next l0 i c t) (hy : (next.getD i [])[c]? = some (y : Int)) (h1 : On l0 i) (h2 : On l0 y) : ToOk next l0 i (c + 1) (t.set y true) := by
  refine ⟨by rw [List.length_set]; exact h.1, fun x' => ?_⟩
  rw [On.set_iff (by rw [h.1]; exact h2.lt)]
  by_cases e : x' = y
  · subst e
    rw [if_pos rfl]
    exact ⟨fun _ => ⟨h2, i, (Pr.succ hy).2 (.inr ⟨rfl, rfl⟩), h1⟩, fun _ => rfl⟩
  · rw [if_neg e, h.2 x']
    refine ⟨fun ⟨h3, y', h4, h5⟩ => ⟨h3, y', (Pr.succ hy).2 (.inl h4), h5⟩, fun ⟨h3, y', h4, h5⟩ => ⟨h3, y', ?_, h5⟩⟩
    rcases (Pr.succ hy).1 h4 with h4 | ⟨_, e2⟩
    · exact h4
    · exact absurd e2 e
theorem FrOk.row (h : FrOk next l0 i c fr) (hc : (next.getD i []).length ≤ c) : FrOk next l0 (i + 1) 0 fr :=
  ⟨h.1, fun x => (h.2 x).trans ⟨fun ⟨a, y, b, d⟩ => ⟨a, y, (Pr.row hc).1 b, d⟩, fun ⟨a, y, b, d⟩ => ⟨a, y, (Pr.row hc).2 b, d⟩⟩⟩
theorem ToOk.row (h : ToOk next l0 i c t) (hc : (next.getD i []).length ≤ c) : ToOk next l0 (i + 1) 0 t :=
  ⟨h.1, fun x => (h.2 x).trans ⟨fun ⟨a, y, b, d⟩ => ⟨a, y, (Pr.row hc).1 b, d⟩, fun ⟨a, y, b, d⟩ => ⟨a, y, (Pr.row hc).2 b, d⟩⟩⟩
/-- The set with the first k places renewed. -/
def Ren (l0 fr t : List Bool) (k : Nat) (l : List Bool) : Prop := l.length = l0.length ∧ ∀ x, On l x ↔ On l0 x ∧ (x < k → On fr x ∧ On t x)
theorem Ren.start : Ren l0 fr t 0 l0 := ⟨rfl, fun _ => ⟨fun h => ⟨h, fun h2 => absurd h2 (Nat.not_lt_zero _)⟩, fun h => h.1⟩⟩
theorem Ren.step {k : Nat} {b p q : Bool} (h : Ren l0 fr t k l) (hb : l[k]? = some b) (hp : fr[k]? = some p) (hq : t[k]? = some q) : Ren l0 fr t (k + 1) (l.set k (b && p && q)) := by
  have hk : k < l.length := (List.getElem?_eq_some_iff.1 hb).1
  refine ⟨by rw [List.length_set]; exact h.1, fun x => ?_⟩
  rw [On.set_iff hk]
  by_cases e : x = k
  · subst e
    have hx := h.2 x
    rw [if_pos rfl]
    have h1 : On l x ↔ b = true := by unfold On; rw [hb]; simp
    have h2 : On fr x ↔ p = true := by unfold On; rw [hp]; simp
    have h3 : On t x ↔ q = true := by unfold On; rw [hq]; simp
    rw [h1] at hx
    rw [Bool.and_eq_true, Bool.and_eq_true, hx, h2, h3]
    constructor
    · rintro ⟨⟨⟨a, _⟩, b⟩, c⟩; exact ⟨a, fun _ => ⟨b, c⟩⟩
    · rintro ⟨a, b⟩
      obtain ⟨c, d⟩ := b (by omega)
      exact ⟨⟨⟨a, fun h => absurd h (by omega)⟩, c⟩, d⟩
  · rw [if_neg e, h.2 x]
    constructor
    · rintro ⟨a, b⟩; exact ⟨a, fun hx => b (by omega)⟩
    · rintro ⟨a, b⟩; exact ⟨a, fun hx => b (by omega)⟩
theorem Ren.rnd (h : Ren l0 fr t n l) (hl : l0.length = n) (hn : next.length ≤ n) (hf : FrOk next l0 n 0 fr) (ht : ToOk next l0 n 0 t) : Rnd (EntN next) l0 l := by
  refine ⟨h.1, fun x => ?_⟩
  rw [h.2 x]
  constructor
  · rintro ⟨a, b⟩
    obtain ⟨c, d⟩ := b (by rw [← hl]; exact a.lt)
    obtain ⟨_, y, hy, hy2⟩ := (hf.2 x).1 c
    obtain ⟨_, z, hz, hz2⟩ := (ht.2 x).1 d
    exact ⟨a, ⟨y, hy2, (Pr.all hn).1 hy⟩, z, hz2, (Pr.all hn).1 hz⟩
  · rintro ⟨a, ⟨y, hy, hy2⟩, z, hz, hz2⟩
    exact ⟨a, fun _ => ⟨(hf.2 x).2 ⟨a, y, (Pr.all hn).2 hy2, hy⟩, (ht.2 x).2 ⟨a, z, (Pr.all hn).2 hz2, hz⟩⟩⟩
end
/-- A slice of bools of the call's own, by its cells. -/
def Bl (w : World) (b : Nat) (l : List Bool) : Prop := b < w.heap.size ∧ ∀ i x, l[i]? = some x → w.cell? ⟨b, i, none⟩ = some (.bool x) ∧ w.frozen? ⟨b, i, none⟩ = false
theorem Bl.set {w : World} {b i : Nat} {l : List Bool} (h : Bl w b l) (hi : i < l.length) (y : Bool) : Bl (w.setCell ⟨b, i, none⟩ (.bool y)) b (l.set i y) := by
  refine ⟨by simpa using h.1, fun j x hx => ?_⟩
  by_cases e : i = j
  · subst e
    rw [List.getElem?_set_self hi] at hx
    cases hx
    have h1 := h.2 i _ (List.getElem?_eq_getElem hi)
    exact ⟨World.cell?_setCell_same _ _ _ h1.1, by rw [World.frozen?_setCell]; exact h1.2⟩
  · rw [List.getElem?_set_ne e] at hx
    have h1 := h.2 j x hx
    exact ⟨by rw [World.cell?_setCell_other _ _ _ _ (by simp)]; exact h1.1, by rw [World.frozen?_setCell]; exact h1.2⟩
theorem Bl.other {w : World} {b b' i : Nat} {l : List Bool} (h : Bl w b l) (hb : b' ≠ b) (u : Value) : Bl (w.setCell ⟨b', i, none⟩ u) b l :=
  ⟨by simpa using h.1, fun j x hx => ⟨by rw [World.cell?_setCell_other _ _ _ _ (by intro h2; injection h2 with h3; exact hb h3)]; exact (h.2 j x hx).1, by rw [World.frozen?_setCell]; exact (h.2 j x hx).2⟩⟩
end Go.Sd
