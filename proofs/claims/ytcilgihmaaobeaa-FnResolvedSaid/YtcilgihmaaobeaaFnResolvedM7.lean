/-
  Texts of this claim joined: laws for its walks, contracts of the functions that the law reaches.
-/
import Derived.Test.YtcilgihmaaobeaaRows
import Derived.Test.YtcilgihmaaobeaaFnResolvedM1
import Derived.Test.YtcilgihmaaobeaaFnResolvedM6
import Derived.Test.YtcilgihmaaobeaaFnResolvedM2
import Derived.Test.YtcilgihmaaobeaaFnResolvedM3
import Derived.Test.YtcilgihmaaobeaaFnResolvedM4
import Derived.Laws.DeepStrings4
import Derived.Laws.OwnMore
set_option linter.unusedVariables false
set_option linter.unusedSimpArgs false
section
namespace Go.Sd
open Go.RowKit Go.Deep
/-- j stands in row i. -/
def EntN (next : List (List Int)) (i j : Nat) : Prop := (j : Int) ∈ next.getD i []
/-- The arcs of the rows before i, and the first c of row i. -/
def Pr (next : List (List Int)) (i c x y : Nat) : Prop := (x < i ∧ EntN next x y) ∨ (x = i ∧ (y : Int) ∈ (next.getD i []).take c)
def FrOk (next : List (List Int)) (l0 : List Bool) (i c : Nat) (fr : List Bool) : Prop := fr.length = l0.length ∧ ∀ x, On fr x ↔ On l0 x ∧ ∃ y, Pr next i c x y ∧ On l0 y
def ToOk (next : List (List Int)) (l0 : List Bool) (i c : Nat) (t : List Bool) : Prop := t.length = l0.length ∧ ∀ y, On t y ↔ On l0 y ∧ ∃ x, Pr next i c x y ∧ On l0 x
section
variable {next : List (List Int)} {l0 fr t l : List Bool} {i c x y n : Nat}
theorem Pr.zero : ¬ Pr next 0 0 x y := by rintro (⟨h, _⟩ | ⟨_, h⟩) <;> simp at h
theorem Pr.succ (hy : (next.getD i [])[c]? = some (y : Int)) {x' y' : Nat} : Pr next i (c + 1) x' y' ↔ Pr next i c x' y' ∨ (x' = i ∧ y' = y) := by
  unfold Pr
  rw [List.take_add_one, hy]
  simp only [Option.toList_some, List.mem_append, List.mem_singleton, Int.ofNat_inj]
  constructor
  · rintro (h | ⟨h1, h | h⟩)
    · exact .inl (.inl h)
    · exact .inl (.inr ⟨h1, h⟩)
    · exact .inr ⟨h1, h⟩
  · rintro ((h | ⟨h1, h⟩) | ⟨h1, h⟩)
    · exact .inl h
    · exact .inr ⟨h1, .inl h⟩
    · exact .inr ⟨h1, .inr h⟩
theorem Pr.row (hc : (next.getD i []).length ≤ c) : Pr next i c x y ↔ Pr next (i + 1) 0 x y := by
  unfold Pr
  rw [List.take_of_length_le hc]
  constructor
  · rintro (⟨h, e⟩ | ⟨rfl, e⟩)
    · exact .inl ⟨by omega, e⟩
    · exact .inl ⟨by omega, e⟩
  · rintro (⟨h, e⟩ | ⟨_, e⟩)
    · by_cases hx : x < i
      · exact .inl ⟨hx, e⟩
      · obtain rfl : x = i := by omega
        exact .inr ⟨rfl, e⟩
    · simp at e
theorem Pr.all (hn : next.length ≤ n) : Pr next n 0 x y ↔ EntN next x y := by
  unfold Pr
  constructor
  · rintro (⟨_, e⟩ | ⟨_, e⟩)
    · exact e
    · simp at e
  · intro e
    by_cases hx : x < n
    · exact .inl ⟨hx, e⟩
    · unfold EntN at e
      rw [List.getD_eq_getElem?_getD, List.getElem?_eq_none (by omega)] at e
      simp at e
theorem On.set_iff {b : Bool} (hi : i < l.length) : On (l.set i b) x ↔ if x = i then b = true else On l x := by
  unfold On
  by_cases e : x = i
  · subst e
    rw [List.getElem?_set_self hi, if_pos rfl]; simp
  · rw [List.getElem?_set_ne (fun h => e h.symm), if_neg e]
theorem FrOk.start : FrOk next l0 0 0 (List.replicate l0.length false) := by
  refine ⟨by simp, fun x => ⟨fun h => ?_, fun ⟨_, y, h, _⟩ => absurd h Pr.zero⟩⟩
  unfold On at h
  rw [List.getElem?_replicate] at h
  split at h <;> simp at h
theorem ToOk.start : ToOk next l0 0 0 (List.replicate l0.length false) := by
  refine ⟨by simp, fun x => ⟨fun h => ?_, fun ⟨_, y, h, _⟩ => absurd h Pr.zero⟩⟩
  unfold On at h
  rw [List.getElem?_replicate] at h
  split at h <;> simp at h
theorem FrOk.skip (h : FrOk next l0 i c fr) (hy : (next.getD i [])[c]? = some (y : Int)) (hn : ¬ (On l0 i ∧ On l0 y)) : FrOk next l0 i (c + 1) fr := by
  refine ⟨h.1, fun x' => (h.2 x').trans ⟨fun ⟨h1, y', h2, h3⟩ => ⟨h1, y', (Pr.succ hy).2 (.inl h2), h3⟩, fun ⟨h1, y', h2, h3⟩ => ?_⟩⟩
  rcases (Pr.succ hy).1 h2 with h2 | ⟨rfl, rfl⟩
  · exact ⟨h1, y', h2, h3⟩
  · exact absurd ⟨h1, h3⟩ hn
theorem ToOk.skip (h : ToOk next l0 i c t) (hy : (next.getD i [])[c]? = some (y : Int)) (hn : ¬ (On l0 i ∧ On l0 y)) : ToOk next l0 i (c + 1) t := by
  refine ⟨h.1, fun x' => (h.2 x').trans ⟨fun ⟨h1, y', h2, h3⟩ => ⟨h1, y', (Pr.succ hy).2 (.inl h2), h3⟩, fun ⟨h1, y', h2, h3⟩ => ?_⟩⟩
  rcases (Pr.succ hy).1 h2 with h2 | ⟨rfl, rfl⟩
  · exact ⟨h1, y', h2, h3⟩
  · exact absurd ⟨h3, h1⟩ hn
theorem FrOk.take (h : FrOk next l0 i c fr) (hy : (next.getD i [])[c]? = some (y : Int)) (h1 : On l0 i) (h2 : On l0 y) : FrOk next l0 i (c + 1) (fr.set i true) := by
  refine ⟨by rw [List.length_set]; exact h.1, fun x' => ?_⟩
  rw [On.set_iff (by rw [h.1]; exact h1.lt)]
  by_cases e : x' = i
  · subst e
    rw [if_pos rfl]
    exact ⟨fun _ => ⟨h1, y, (Pr.succ hy).2 (.inr ⟨rfl, rfl⟩), h2⟩, fun _ => rfl⟩
  · rw [if_neg e, h.2 x']
    refine ⟨fun ⟨h3, y', h4, h5⟩ => ⟨h3, y', (Pr.succ hy).2 (.inl h4), h5⟩, fun ⟨h3, y', h4, h5⟩ => ⟨h3, y', ?_, h5⟩⟩
    rcases (Pr.succ hy).1 h4 with h4 | ⟨e2, _⟩
    · exact h4
    · exact absurd e2 e
theorem ToOk.take (h : ToOk next l0 i c t) (hy : (next.getD i [])[c]? = some (y : Int)) (h1 : On l0 i) (h2 : On l0 y) : ToOk next l0 i (c + 1) (t.set y true) := by
  refine ⟨by rw [List.length_set]; exact h.1, fun x' => ?_⟩
  rw [On.set_iff (by rw [h.1]; exact h2.lt)]
  by_cases e : x' = y
  · subst e
    rw [if_pos rfl]
    exact ⟨fun _ => ⟨h2, i, (Pr.succ hy).2 (.inr ⟨rfl, rfl⟩), h1⟩, fun _ => rfl⟩
  · rw [if_neg e, h.2 x']
    refine ⟨fun ⟨h3, y', h4, h5⟩ => ⟨h3, y', (Pr.succ hy).2 (.inl h4), h5⟩, fun ⟨h3, y', h4, h5⟩ => ⟨h3, y', ?_, h5⟩⟩
    rcases (Pr.succ hy).1 h4 with h4 | ⟨_, e2⟩
    · exact h4
    · exact absurd e2 e
theorem FrOk.row (h : FrOk next l0 i c fr) (hc : (next.getD i []).length ≤ c) : FrOk next l0 (i + 1) 0 fr :=
  ⟨h.1, fun x => (h.2 x).trans ⟨fun ⟨a, y, b, d⟩ => ⟨a, y, (Pr.row hc).1 b, d⟩, fun ⟨a, y, b, d⟩ => ⟨a, y, (Pr.row hc).2 b, d⟩⟩⟩
theorem ToOk.row (h : ToOk next l0 i c t) (hc : (next.getD i []).length ≤ c) : ToOk next l0 (i + 1) 0 t :=
  ⟨h.1, fun x => (h.2 x).trans ⟨fun ⟨a, y, b, d⟩ => ⟨a, y, (Pr.row hc).1 b, d⟩, fun ⟨a, y, b, d⟩ => ⟨a, y, (Pr.row hc).2 b, d⟩⟩⟩
/-- The set with the first k places renewed. -/
def Ren (l0 fr t : List Bool) (k : Nat) (l : List Bool) : Prop := l.length = l0.length ∧ ∀ x, On l x ↔ On l0 x ∧ (x < k → On fr x ∧ On t x)
theorem Ren.start : Ren l0 fr t 0 l0 := ⟨rfl, fun _ => ⟨fun h => ⟨h, fun h2 => absurd h2 (Nat.not_lt_zero _)⟩, fun h => h.1⟩⟩
theorem Ren.step {k : Nat} {b p q : Bool} (h : Ren l0 fr t k l) (hb : l[k]? = some b) (hp : fr[k]? = some p) (hq : t[k]? = some q) : Ren l0 fr t (k + 1) (l.set k (b && p && q)) := by
  have hk : k < l.length := (List.getElem?_eq_some_iff.1 hb).1
  refine ⟨by rw [List.length_set]; exact h.1, fun x => ?_⟩
  rw [On.set_iff hk]
  by_cases e : x = k
  · subst e
    have hx := h.2 x
    rw [if_pos rfl]
    have h1 : On l x ↔ b = true := by unfold On; rw [hb]; simp
    have h2 : On fr x ↔ p = true := by unfold On; rw [hp]; simp
    have h3 : On t x ↔ q = true := by unfold On; rw [hq]; simp
    rw [h1] at hx
    rw [Bool.and_eq_true, Bool.and_eq_true, hx, h2, h3]
    constructor
    · rintro ⟨⟨⟨a, _⟩, b⟩, c⟩; exact ⟨a, fun _ => ⟨b, c⟩⟩
    · rintro ⟨a, b⟩
      obtain ⟨c, d⟩ := b (by omega)
      exact ⟨⟨⟨a, fun h => absurd h (by omega)⟩, c⟩, d⟩
  · rw [if_neg e, h.2 x]
    constructor
    · rintro ⟨a, b⟩; exact ⟨a, fun hx => b (by omega)⟩
    · rintro ⟨a, b⟩; exact ⟨a, fun hx => b (by omega)⟩
theorem Ren.rnd (h : Ren l0 fr t n l) (hl : l0.length = n) (hn : next.length ≤ n) (hf : FrOk next l0 n 0 fr) (ht : ToOk next l0 n 0 t) : Rnd (EntN next) l0 l := by
  refine ⟨h.1, fun x => ?_⟩
  rw [h.2 x]
  constructor
  · rintro ⟨a, b⟩
    obtain ⟨c, d⟩ := b (by rw [← hl]; exact a.lt)
    obtain ⟨_, y, hy, hy2⟩ := (hf.2 x).1 c
    obtain ⟨_, z, hz, hz2⟩ := (ht.2 x).1 d
    exact ⟨a, ⟨y, hy2, (Pr.all hn).1 hy⟩, z, hz2, (Pr.all hn).1 hz⟩
  · rintro ⟨a, ⟨y, hy, hy2⟩, z, hz, hz2⟩
    exact ⟨a, fun _ => ⟨(hf.2 x).2 ⟨a, y, (Pr.all hn).2 hy2, hy⟩, (ht.2 x).2 ⟨a, z, (Pr.all hn).2 hz2, hz⟩⟩⟩
end
/-- A slice of bools of the call's own, by its cells. -/
def Bl (w : World) (b : Nat) (l : List Bool) : Prop := b < w.heap.size ∧ ∀ i x, l[i]? = some x → w.cell? ⟨b, i, none⟩ = some (.bool x) ∧ w.frozen? ⟨b, i, none⟩ = false
theorem Bl.set {w : World} {b i : Nat} {l : List Bool} (h : Bl w b l) (hi : i < l.length) (y : Bool) : Bl (w.setCell ⟨b, i, none⟩ (.bool y)) b (l.set i y) := by
  refine ⟨by simpa using h.1, fun j x hx => ?_⟩
  by_cases e : i = j
  · subst e
    rw [List.getElem?_set_self hi] at hx
    cases hx
    have h1 := h.2 i _ (List.getElem?_eq_getElem hi)
    exact ⟨World.cell?_setCell_same _ _ _ h1.1, by rw [World.frozen?_setCell]; exact h1.2⟩
  · rw [List.getElem?_set_ne e] at hx
    have h1 := h.2 j x hx
    exact ⟨by rw [World.cell?_setCell_other _ _ _ _ (by simp)]; exact h1.1, by rw [World.frozen?_setCell]; exact h1.2⟩
theorem Bl.other {w : World} {b b' i : Nat} {l : List Bool} (h : Bl w b l) (hb : b' ≠ b) (u : Value) : Bl (w.setCell ⟨b', i, none⟩ u) b l :=
  ⟨by simpa using h.1, fun j x hx => ⟨by rw [World.cell?_setCell_other _ _ _ _ (by intro h2; injection h2 with h3; exact hb h3)]; exact (h.2 j x hx).1, by rw [World.frozen?_setCell]; exact (h.2 j x hx).2⟩⟩
end Go.Sd
end

section
namespace Go.Sd
structure Eqv (R : Nat → Nat → Bool) : Prop where
  refl : ∀ p, R p p = true
  symm : ∀ p q, R p q = true → R q p = true
  trans : ∀ p q r, R p q = true → R q r = true → R p r = true
def rep (R : Nat → Nat → Bool) (p : Nat) : Nat := ((List.range (p + 1)).find? fun q => R q p).getD p
def isRep (R : Nat → Nat → Bool) (p : Nat) : Bool := decide (rep R p = p)
def cntR (R : Nat → Nat → Bool) : Nat → Nat
  | 0 => 0
  | p + 1 => cntR R p + (if isRep R p = true then 1 else 0)
def num (R : Nat → Nat → Bool) (p : Nat) : Nat := cntR R (rep R p)
section
variable {L n : Nat} {tg : Nat → Nat → Option Nat} {R R' : Nat → Nat → Bool}
/-! Least members. -/
theorem rep_some (h : Eqv R) (p : Nat) : (List.range (p + 1)).find? (fun q => R q p) = some (rep R p) := by
  unfold rep
  cases hf : (List.range (p + 1)).find? (fun q => R q p) with
  | some q => rfl
  | none =>
    have := List.find?_eq_none.1 hf p (by simp)
    exact absurd (h.refl p) this
theorem rep_rel (h : Eqv R) (p : Nat) : R (rep R p) p = true := by have := List.find?_some (rep_some h p); simpa using this
theorem rep_le (h : Eqv R) (p : Nat) : rep R p ≤ p := by have := List.mem_of_find?_eq_some (rep_some h p); simp at this; omega
theorem rep_min (h : Eqv R) {p q : Nat} (e : R q p = true) : rep R p ≤ q := by
  by_cases hq : q ≤ p
  · have h1 := rep_some h p
    rw [List.find?_eq_some_iff_append] at h1
    obtain ⟨_, zs, bs, hs, hn⟩ := h1
    by_cases hlt : q < rep R p
    · have hm : q ∈ zs := by
        have hlen : zs.length = rep R p := by
          have h2 : (List.range (p + 1))[zs.length]? = some (rep R p) := by rw [hs]; simp
          obtain ⟨h3, h4⟩ := List.getElem?_eq_some_iff.1 h2
          simpa using h4
        have h3 : (List.range (p + 1))[q]? = some q := by rw [List.getElem?_range (by omega)]
        rw [hs, List.getElem?_append_left (by omega)] at h3
        exact List.mem_of_getElem? h3
      have := hn q hm
      simp [e] at this
    · omega
  · have := rep_le h p; omega
/-! What is alike on the first n has the same members and numbers. -/
/-! Rounds end. -/
/-! Lists. -/
end
end Go.Sd
end

section
namespace Go.Proofs.Ytcilgihmaaobeaa
open Go.RowKit Go.Deep Go.Sd

def akey (a : Arc3) : Int := a.1 * 4 + a.2.2
def SortK (xs : List Arc3) : Prop := xs.Pairwise fun a b => akey a < akey b
theorem sortK_ext : ∀ {xs ys : List Arc3}, SortK xs → SortK ys → (∀ a, a ∈ xs ↔ a ∈ ys) → xs = ys
  | [], [], _, _, _ => rfl
  | [], y :: ys, _, _, h => by have := (h y).2 (by simp); cases this
  | x :: xs, [], _, _, h => by have := (h x).1 (by simp); cases this
  | x :: xs, y :: ys, hx, hy, h => by
    unfold SortK at hx hy
    rw [List.pairwise_cons] at hx hy
    have e : x = y := by
      have h1 := (h x).1 (by simp)
      have h2 := (h y).2 (by simp)
      rcases List.mem_cons.1 h1 with e | h1
      · exact e
      · rcases List.mem_cons.1 h2 with e | h2
        · exact e.symm
        · have := hx.1 y h2; have := hy.1 x h1; omega
    subst e
    congr 1
    refine sortK_ext hx.2 hy.2 fun a => ?_
    have ha := h a
    simp only [List.mem_cons] at ha
    constructor
    · intro h1
      rcases ha.1 (Or.inr h1) with e | h2
      · subst e; have := hx.1 a h1; omega
      · exact h2
    · intro h1
      rcases ha.2 (Or.inr h1) with e | h2
      · subst e; have := hy.1 a h1; omega
      · exact h2
def okArc (L n : Nat) (a : Arc3) : Prop := 0 ≤ a.1 ∧ a.1 < (n : Int) ∧ 0 ≤ a.2.1 ∧ a.2.1 < (n : Int) ∧ 0 ≤ a.2.2 ∧ a.2.2 < (L : Int)
def isAt (p x : Nat) (a : Arc3) : Bool := decide (a.1 = (p : Int)) && decide (a.2.2 = (x : Int))
def arcAt (xs : List Arc3) (p x : Nat) : Option Arc3 := xs.find? (isAt p x)
def tgt (xs : List Arc3) (p x : Nat) : Option Nat := (arcAt xs p x).map fun a => a.2.1.toNat
theorem arcAt_some {xs : List Arc3} {p x : Nat} {a : Arc3} (h : arcAt xs p x = some a) : a ∈ xs ∧ a.1 = (p : Int) ∧ a.2.2 = (x : Int) := by
  have h1 := List.mem_of_find?_eq_some h
  have h2 := List.find?_some h
  unfold isAt at h2
  simp only [Bool.and_eq_true, decide_eq_true_eq] at h2
  exact ⟨h1, h2.1, h2.2⟩
def rowX (L : Nat) (xs : List Arc3) (p : Nat) : List Arc3 := (List.range L).filterMap fun x => arcAt xs p x
theorem sortK_inj : ∀ {xs : List Arc3}, SortK xs → ∀ {a b : Arc3}, a ∈ xs → b ∈ xs → akey a = akey b → a = b
  | [], _, a, _, ha, _, _ => by cases ha
  | x :: xs, h, a, b, ha, hb, e => by
    unfold SortK at h
    rw [List.pairwise_cons] at h
    rcases List.mem_cons.1 ha with ea | ha2
    · rcases List.mem_cons.1 hb with eb | hb2
      · rw [ea, eb]
      · have := h.1 b hb2; rw [ea] at e; omega
    · rcases List.mem_cons.1 hb with eb | hb2
      · have := h.1 a ha2; rw [eb] at e; omega
      · exact sortK_inj h.2 ha2 hb2 e
theorem rows_eq {L n : Nat} {xs : List Arc3} (hL : L ≤ 4) (ho : ∀ a, a ∈ xs → okArc L n a) (hs : SortK xs) : (List.range n).flatMap (rowX L xs) = xs := by
  refine sortK_ext ?_ hs fun a => ?_
  · unfold SortK
    rw [List.pairwise_flatMap]
    refine ⟨fun p _ => ?_, ?_⟩
    · unfold rowX
      rw [List.pairwise_filterMap]
      refine List.Pairwise.imp_of_mem ?_ List.pairwise_lt_range
      intro x y _ _ hxy a ha b hb
      have h1 := arcAt_some ha
      have h2 := arcAt_some hb
      unfold akey
      omega
    · refine List.Pairwise.imp_of_mem ?_ List.pairwise_lt_range
      intro p q _ _ hpq a ha b hb
      unfold rowX at ha hb
      obtain ⟨x, hx, ha⟩ := List.mem_filterMap.1 ha
      obtain ⟨y, hy, hb⟩ := List.mem_filterMap.1 hb
      have h1 := arcAt_some ha
      have h2 := arcAt_some hb
      simp at hx hy
      unfold akey
      omega
  · constructor
    · intro h
      obtain ⟨p, _, h⟩ := List.mem_flatMap.1 h
      obtain ⟨x, _, h⟩ := List.mem_filterMap.1 h
      exact (arcAt_some h).1
    · intro h
      have h1 := ho a h
      unfold okArc at h1
      obtain ⟨a0, a1, a2⟩ := a
      simp only at h1
      obtain ⟨p, rfl⟩ := Int.eq_ofNat_of_zero_le h1.1
      obtain ⟨x, rfl⟩ := Int.eq_ofNat_of_zero_le h1.2.2.2.2.1
      refine List.mem_flatMap.2 ⟨p, by simp; omega, List.mem_filterMap.2 ⟨x, by simp; omega, ?_⟩⟩
      cases hf : arcAt xs p x with
      | none =>
        have := List.find?_eq_none.1 hf _ h
        simp [isAt] at this
      | some b =>
        have h2 := arcAt_some hf
        congr 1
        exact sortK_inj hs h2.1 h (by unfold akey; simp only; omega)
section
variable (R : Nat → Nat → Bool)
def smRen (a : Arc3) : Arc3 := ((num R a.1.toNat : Int), (num R a.2.1.toNat : Int), a.2.2)
def smA (xs : List Arc3) : List Arc3 := (xs.filter fun a => isRep R a.1.toNat).map (smRen R)
def smRow (L : Nat) (xs : List Arc3) (p : Nat) : List Arc3 := (List.range L).filterMap fun x => (tgt xs p x).map fun q => ((num R p : Int), (num R q : Int), (x : Int))
def smB (L n : Nat) (xs : List Arc3) : List Arc3 := (List.range n).flatMap fun p => if isRep R p = true then smRow R L xs p else []
end
theorem smRow_eq {R : Nat → Nat → Bool} {L : Nat} {xs : List Arc3} {p : Nat} : ((rowX L xs p).filter fun a => isRep R a.1.toNat).map (smRen R) = if isRep R p = true then smRow R L xs p else [] := by
  unfold rowX smRow tgt
  generalize List.range L = l
  induction l with
  | nil => split <;> rfl
  | cons x l ih =>
    cases h : arcAt xs p x with
    | none =>
      rw [List.filterMap_cons_none h, ih]
      split
      · rw [List.filterMap_cons_none (by rw [h]; rfl)]
      · rfl
    | some a =>
      have h1 := arcAt_some h
      rw [List.filterMap_cons_some h, List.filter_cons]
      have e : a.1.toNat = p := by omega
      rw [e]
      by_cases hr : isRep R p = true
      · rw [if_pos hr, List.map_cons, ih, if_pos hr, if_pos hr, List.filterMap_cons_some (by rw [h]; rfl)]
        unfold smRen
        rw [e, h1.2.2]
      · rw [if_neg hr, ih, if_neg hr, if_neg hr]
theorem filter_flatMap' {α β : Type} (f : α → List β) (P : β → Bool) : ∀ l : List α, (l.flatMap f).filter P = l.flatMap fun a => (f a).filter P
  | [] => rfl
  | a :: l => by simp only [List.flatMap_cons, List.filter_append, filter_flatMap' f P l]
theorem map_flatMap' {α β γ : Type} (f : α → List β) (g : β → γ) : ∀ l : List α, (l.flatMap f).map g = l.flatMap fun a => (f a).map g
  | [] => rfl
  | a :: l => by simp only [List.flatMap_cons, List.map_append, map_flatMap' f g l]
theorem smB_eq {R : Nat → Nat → Bool} {L n : Nat} {xs : List Arc3} (hL : L ≤ 4) (ho : ∀ a, a ∈ xs → okArc L n a) (hs : SortK xs) : smB R L n xs = smA R xs := by
  conv => rhs; unfold smA; rw [← rows_eq hL ho hs, filter_flatMap', map_flatMap']
  unfold smB
  congr 1
  funext p
  exact smRow_eq.symm
/-! Out of the graph's own tests. -/
theorem allF_get {f : Nat → Bool} {m : Nat} (h : allF f m 0 = true) {j : Nat} (hj : j < m) : f j = true := by have := allF_at h j hj; rwa [Nat.zero_add] at this
theorem isLab_arcs {l : Lb} (h : isLab l = true) : ∀ a, a ∈ l.2.2 → okArc l.1.toNat l.2.1.toNat a := by
  have h0 := isLab_ok h
  unfold isLab at h
  rw [Bool.and_eq_true, Bool.and_eq_true] at h
  intro a ha
  obtain ⟨k, hk⟩ := List.getElem?_of_mem ha
  have h1 := allF_get h.2.2 (List.getElem?_eq_some_iff.1 hk).1
  unfold arcB at h1
  rw [Bool.and_eq_true, at3_of hk] at h1
  have h2 := h1.1
  unfold arcOk at h2
  rw [decide_eq_true_eq] at h2
  unfold okArc
  omega
theorem resolv_sort {l : Lb} (h : resolvM l = true) : SortK l.2.2 := by
  unfold resolvM at h
  rw [Bool.and_eq_true] at h
  have ho := isLab_arcs h.1
  have h1 := h.1
  unfold isLab at h1
  rw [Bool.and_eq_true, Bool.and_eq_true] at h1
  have hL : l.1.toNat ≤ 3 := by have := (isLab_ok h.1).2.2.2; omega
  have step : ∀ k a b, l.2.2[k]? = some a → l.2.2[k + 1]? = some b → akey a < akey b := by
    intro k a b ha hb
    have hk := (List.getElem?_eq_some_iff.1 hb).1
    have e1 := allF_get h1.2.2 hk
    have e2 := allF_get h.2 hk
    unfold arcB at e1
    unfold resB at e2
    rw [Nat.add_sub_cancel, at3_of ha, at3_of hb] at e1 e2
    simp only [Bool.and_eq_true, Bool.or_eq_true, decide_eq_true_eq, Nat.add_one_ne_zero, false_or, Bool.not_eq_true', Bool.and_eq_false_iff, decide_eq_false_iff_not] at e1 e2
    have hb1 := e1.2
    unfold before at hb1
    have o1 := ho a (List.mem_of_getElem? ha)
    have o2 := ho b (List.mem_of_getElem? hb)
    unfold okArc at o1 o2
    unfold akey
    by_cases c1 : a.1 = b.1
    · rw [if_neg (by simp [c1])] at hb1
      by_cases c2 : a.2.2 = b.2.2
      · exact absurd c2 (by rcases e2 with e2 | e2; exact absurd c1 e2; exact e2)
      · rw [if_pos c2, decide_eq_true_eq] at hb1; omega
    · rw [if_pos c1, decide_eq_true_eq] at hb1; omega
  unfold SortK
  rw [List.pairwise_iff_getElem]
  have key : ∀ d i (hi : i < l.2.2.length) (hj : i + (d + 1) < l.2.2.length), akey l.2.2[i] < akey l.2.2[i + (d + 1)] := by
    intro d
    induction d with
    | zero => intro i hi hj; exact step i _ _ (List.getElem?_eq_getElem hi) (List.getElem?_eq_getElem hj)
    | succ d ih =>
      intro i hi hj
      have h2 := ih i hi (by omega)
      have h3 := step (i + (d + 1)) _ _ (List.getElem?_eq_getElem (by omega)) (List.getElem?_eq_getElem (by omega))
      have e : i + (d + 1) + 1 = i + (d + 1 + 1) := by omega
      simp only [e] at h3
      omega
  intro i j hi hj hij
  obtain ⟨d, rfl⟩ : ∃ d, j = i + (d + 1) := ⟨j - i - 1, by omega⟩
  exact key d i hi hj
end Go.Proofs.Ytcilgihmaaobeaa
end

section
namespace Go.Sd
open Go.RowKit Go.Deep
theorem OInts.nil0 {e : TypeId} : ∀ w : World, OInts e w (.slice none 0 0) [] [] := fun _ => ⟨[], [], World.ownsRow_nil _ _ _ _, rfl, by simp, by simp [Value.ownBlock]⟩
/-- The same where a block has been laid since: it stays. -/
theorem New.row_push0A {P : Program} {eI eR : TypeId} {lo : Nat} {w0 w : World} {v : Value} {m : List (List Int)} (h : New (OTab eI eR) lo w0 v m) (hb0 : Below w0.heap.size w0 w) {i : Nat} {r : List Int} (hr : m[i]? = some r)
    (t ty : TypeId) (z : Value) (bytes : Nat) (ht : P.underlying t = some (.slice eI)) (hinfo : (P.info? eI).map (fun i => (i.zero, i.size, i.bytes)) = some (some z, 1, bytes)) (hz1 : z.cells = #[z])
    (hbytes : (r.length + 1) * bytes ≤ 140737488355328) (h63 : r.length + 1 ≤ 9223372036854775807) :
    ∃ b c ra rc, v = .slice (some ⟨b, 0, none⟩) m.length c ∧ m.length ≤ c ∧ lo ≤ b ∧ b < w.heap.size ∧ w.cell? ⟨b, i, none⟩ = some (.slice ra r.length rc) ∧
      ∀ (w1 : World) (bb c1 : Nat) (y : Int), Below w.heap.size w w1 → w1.cell? ⟨bb, 0, none⟩ = some (.int .i64 y) →
        ∃ a' n' c' w2, (Builtin.append_ #[t, t] ty #[.slice ra r.length rc, .slice (some ⟨bb, 0, none⟩) 1 c1]).run P w1 = .ok (.slice a' n' c') w2 ∧
          w2.cell? ⟨b, i, none⟩ = some (.slice ra r.length rc) ∧ w2.frozen? ⟨b, i, none⟩ = false ∧ Below lo w (w2.setCell ⟨b, i, none⟩ (.slice a' n' c')) ∧
          New (OTab eI eR) lo (w2.setCell ⟨b, i, none⟩ (.slice a' n' c')) v (m.set i (r ++ [y])) ∧ (∀ (o : Nat) u, w.cell? ⟨w0.heap.size, o, none⟩ = some u → w2.cell? ⟨w0.heap.size, o, none⟩ = some u) := by
  obtain ⟨F, hF, hn, hge⟩ := h
  have hlt := (OTab.kept eI eR).lt _ _ _ _ hF
  obtain ⟨b, c, u, G, hv, hc, hbF, hbG, hcell, hfr, hu, hGF, hGn, _, hst⟩ := hF.focus (OInts.kept eI) hn hr
  obtain ⟨ra, rc, rfl, _⟩ := (OInts.reads hu).shape
  have hlob := hge b hbF
  have hltb := hlt b hbF
  have hz0 := hb0.size
  refine ⟨b, c, ra, rc, hv, hc, hlob, Nat.lt_of_lt_of_le hltb hz0, (hb0.cell (p := ⟨b, i, none⟩) hltb).trans hcell, fun w1 bb c1 y hb hy => ?_⟩
  have hbw := hb0.trans (hb.mono hz0)
  have hz := hb.size
  have hu1 : OInts eI w1 _ r G := (OInts.kept eI).keep _ _ _ _ _ hu fun q hq => hbw.block q (hlt q (hGF q hq))
  obtain ⟨v', w2, G', hrun, hG', hn', hs, hg, hvG⟩ := push_run OIntR.kept t ty eI z bytes ht hinfo hz1 hu1 hGn (y := y) (G := []) ⟨rfl, rfl⟩ (by simp) (by simp) (c := c1) hy hbytes h63
  obtain ⟨a', c', hv', _⟩ := (OInts.reads hG').shape
  subst hv'
  have hoff : ∀ q, q ∈ F → q ∉ G → w2.heap[q]? = w0.heap[q]? := fun q hq hqG => (hg.block q (by have := hlt q hq; omega) fun e => hqG (hvG q e.symm)).trans (hbw.block q (hlt q hq))
  have hbb := hoff b hbF hbG
  have hbG' : b ∉ G' := fun hm => by
    rcases hs b hm with h1 | h1 | h1
    · exact hbG h1
    · simp at h1
    · omega
  obtain ⟨F', hF', hsub, hnd, _⟩ := hst w2 _ (r ++ [y]) G' hG' hbG' hoff
  have hbl : Below lo w w2 := (hb.mono (by omega)).grown hg (by omega) fun k hk => hge k (hGF k (hvG k hk))
  refine ⟨a', _, c', w2, hrun, ?_, ?_, hbl.setCell (p := ⟨b, i, none⟩) hlob _, ⟨F', hF', hnd hn' (fun q hq hqF => ?_), fun q hq => (hsub q hq).elim (hge q) fun hm => ?_⟩, fun o u hu0 => ?_⟩
  · rw [← hcell]
    simp only [World.cell?, hbb]
  · rw [← hfr]
    simp only [World.frozen?, hbb]
  · rcases hs q hq with h1 | h1 | h1
    · exact h1
    · simp at h1
    · have := hlt q hqF; omega
  · rcases hs q hm with h1 | h1 | h1
    · exact hge q (hGF q h1)
    · simp at h1
    · omega
  · have hl : w0.heap.size < w.heap.size := World.block_lt_of_cell? w ⟨w0.heap.size, o, none⟩ hu0
    have h1 := (hg.block w0.heap.size (by omega) fun e => by have := hlt _ (hGF _ (hvG _ e.symm)); omega).trans (hb.block w0.heap.size hl)
    rw [← hu0]
    simp only [World.cell?, h1]
/-- 'append(v, y)' where y has sz plain cells, as a run of the builtin. -/
theorem New.rowRun {P : Program} {α : Type} {e : TypeId} {sz : Nat} {f : α → List Value} (L : Lay sz f) (t ty : TypeId)
    (z : Value) (bytes : Nat) (ht : P.underlying t = some (.slice e)) (hinfo : (P.info? e).map (fun i => (i.zero, i.size, i.bytes)) = some (some z, sz, bytes)) (hz1 : z.cells.size = sz)
    {lo : Nat} {w : World} {v : Value} {xs : List α} (h0 : New (RowG e sz f) lo w v xs) (hlo : lo ≤ w.heap.size) (y : α) {bb : Nat} (c : Nat) (hcell : ∀ j u, (f y)[j]? = some u → w.cell? ⟨bb, j, none⟩ = some u)
    (hbytes : (xs.length + 1) * bytes ≤ 140737488355328) (h63 : xs.length + 1 ≤ 9223372036854775807) :
    ∃ a' n' c' w', (Builtin.append_ #[t, t] ty #[v, .slice (some ⟨bb, 0, none⟩) 1 c]).run P w = .ok (.slice a' n' c') w' ∧ New (RowG e sz f) lo w' (.slice a' n' c') (xs ++ [y]) ∧ Below lo w w' ∧ (∀ b, b < w.heap.size → b ∉ v.ownBlock.toList → w'.heap[b]? = w.heap[b]?) := by
  obtain ⟨i, hi, hzz⟩ := Option.map_eq_some_iff.1 hinfo
  simp only [Prod.mk.injEq] at hzz
  obtain ⟨hz, hsz, hby⟩ := hzz
  obtain ⟨F, ⟨how, rfl⟩, hnd, hge⟩ := h0
  have hvlt : ∀ k, v.ownBlock = some k → lo ≤ k ∧ k < w.heap.size := fun k hk => ⟨hge k (by simp [hk]), (how.lt k hk).2⟩
  obtain ⟨v', w', hrun, how', hg, _, hat⟩ := run_append_own_at (P := P) w 0 t ty e i z sz bytes ht hi hz hsz hby hz1 L.pos v xs.length (xs.flatMap f) how ⟨bb, 0, none⟩ 1 c (f y) (by rw [L.len]; omega)
    (by
      intro j u' hj
      have e : (⟨bb, 0, none⟩ : Addr).add j = ⟨bb, j, none⟩ := by unfold Addr.add; split <;> simp_all
      rw [e]
      exact hcell j u' hj)
    (fun u hu => L.one y u hu) h63 hbytes (Nat.zero_le _)
  have hR : RowG e sz f w' v' (xs ++ [y]) v'.ownBlock.toList := ⟨by simpa [List.flatMap_append] using how', rfl⟩
  obtain ⟨a', c', rfl⟩ := hR.slice
  refine ⟨a', _, c', w', hrun, ⟨_, hR, by cases (Value.slice a' (xs ++ [y]).length c').ownBlock <;> simp, ?_⟩, Below.of_grown hg hlo (fun k hk => (hvlt k hk).1), fun b hb hn => hg.block b hb (fun e => hn (by rw [← e]; simp))⟩
  intro b hb
  have hb2 : (Value.slice a' (xs ++ [y]).length c').ownBlock = some b := by simpa using hb
  rcases hat with hat | hat
  · rw [hat] at hb2; exact (hvlt b hb2).1
  · rw [hat] at hb2; simp at hb2; omega
theorem New.storeLow {α : Type} {R : OwnRel α} (hR : Held R) {lo : Nat} {w : World} {v : Value} {x : α} (h : New R lo w v x) {p : Addr} (hp : p.block < lo) (u : Value) : New R lo (w.setCell p u) v x := by
  obtain ⟨F, hF, hn, hge⟩ := h
  exact ⟨F, hR.keep _ _ _ _ _ hF fun b hb => Below.heap_setCell _ _ _ _ (fun e => by have := hge b hb; omega), hn, hge⟩
theorem CellsI.other {w : World} {B m : Nat} {f : Nat → Int} (h : CellsI w B m f) {p : Addr} (hp : p.block ≠ B) (u : Value) : CellsI (w.setCell p u) B m f := fun j hj =>
  ⟨(World.cell?_setCell_other _ _ _ _ (by intro e; exact hp (by rw [e]))).trans (h j hj).1, (World.frozen?_setCell _ _ _ _).trans (h j hj).2⟩
/-- An own slice of bools by its cells. -/
theorem New.bl {e : TypeId} {lo : Nat} {w : World} {v : Value} {l : List Bool} (h : New (OwnOf e (OValR Value.bool)) lo w v l) (h0 : 0 < l.length) : ∃ b c, v = .slice (some ⟨b, 0, none⟩) l.length c ∧ l.length ≤ c ∧ lo ≤ b ∧ Bl w b l := by
  obtain ⟨b, c, hv, hc, hlo, hlt, _, _, _⟩ := h.val_at (fun _ => rfl) (List.getElem?_eq_getElem h0)
  refine ⟨b, c, hv, hc, hlo, hlt, fun i x hx => ?_⟩
  obtain ⟨b', c', hv', _, _, _, hcl, hfr, _⟩ := h.val_at (fun _ => rfl) hx
  have e : b' = b := by rw [hv] at hv'; simp at hv'; exact hv'.1.symm
  rw [e] at hcl hfr
  exact ⟨hcl, hfr⟩
/-- An own slice of numbers by its cells. -/
theorem New.cellsI {e : TypeId} {lo : Nat} {w : World} {v : Value} {xs : List Int} (h : New (OInts e) lo w v xs) (h0 : 0 < xs.length) : ∃ b c, v = .slice (some ⟨b, 0, none⟩) xs.length c ∧ xs.length ≤ c ∧ lo ≤ b ∧ b < w.heap.size ∧ CellsI w b xs.length (fun i => xs.getD i 0) := by
  obtain ⟨b, c, hv, hc, hlo, hlt, _, _, _⟩ := h.int_at (List.getElem?_eq_getElem h0)
  refine ⟨b, c, hv, hc, hlo, hlt, fun i hi => ?_⟩
  obtain ⟨b', c', hv', _, _, _, hcl, hfr, _⟩ := h.int_at (List.getElem?_eq_getElem hi)
  have e : b' = b := by rw [hv] at hv'; simp at hv'; exact hv'.1.symm
  rw [e] at hcl hfr
  refine ⟨?_, hfr⟩
  show _ = some (Value.int .i64 (xs.getD i 0))
  rw [hcl]
  simp [List.getD, List.getElem?_eq_getElem hi]
end Go.Sd
namespace Go.Proofs.Ytcilgihmaaobeaa
open Go.RowKit Go.Deep Go.Sd
def lkey (a : Arc3) : Int := a.1 * 64 + a.2.2 * 16 + a.2.1
/-- A valid graph has few arcs. -/
theorem isLab_len {l : Lb} (h : isLab l = true) : l.2.2.length ≤ 768 := by
  have ho := isLab_arcs h
  have hb := isLab_ok h
  unfold isLab at h
  rw [Bool.and_eq_true, Bool.and_eq_true] at h
  have hL : l.1.toNat ≤ 3 := by omega
  have hS : l.2.1.toNat ≤ 12 := by omega
  have step : ∀ k a b, l.2.2[k]? = some a → l.2.2[k + 1]? = some b → lkey a < lkey b := by
    intro k a b ha hb
    have e1 := allF_get h.2.2 (List.getElem?_eq_some_iff.1 hb).1
    unfold arcB at e1
    rw [Nat.add_sub_cancel, at3_of ha, at3_of hb] at e1
    simp only [Bool.and_eq_true, Bool.or_eq_true, decide_eq_true_eq, Nat.add_one_ne_zero, false_or] at e1
    have hb1 := e1.2
    unfold before at hb1
    have o1 := ho a (List.mem_of_getElem? ha)
    have o2 := ho b (List.mem_of_getElem? hb)
    unfold okArc at o1 o2
    unfold lkey
    by_cases c1 : a.1 = b.1
    · rw [if_neg (by simp [c1])] at hb1
      by_cases c2 : a.2.2 = b.2.2
      · rw [if_neg (by simp [c2]), decide_eq_true_eq] at hb1; omega
      · rw [if_pos c2, decide_eq_true_eq] at hb1; omega
    · rw [if_pos c1, decide_eq_true_eq] at hb1; omega
  have key : ∀ (k : Nat) (a : Arc3), l.2.2[k]? = some a → (k : Int) ≤ lkey a := by
    intro k
    induction k with
    | zero =>
      intro a ha
      have o1 := ho a (List.mem_of_getElem? ha)
      unfold okArc at o1
      unfold lkey
      omega
    | succ k ih =>
      intro a ha
      have hk := (List.getElem?_eq_some_iff.1 ha).1
      have h1 := ih _ (List.getElem?_eq_getElem (show k < l.2.2.length by omega))
      have h2 := step k _ a (List.getElem?_eq_getElem (show k < l.2.2.length by omega)) ha
      omega
  by_cases h0 : l.2.2.length = 0
  · omega
  · have hk : l.2.2.length - 1 < l.2.2.length := by omega
    have h1 := key (l.2.2.length - 1) _ (List.getElem?_eq_getElem hk)
    have o1 := ho _ (List.getElem_mem hk)
    unfold okArc at o1
    unfold lkey at h1
    omega
end Go.Proofs.Ytcilgihmaaobeaa
end

section
namespace Go.Sd
open Go.RowKit Go.Deep
/-- The end of a slice of texts, where a slice at its capacity's end keeps its address. -/
theorem slot_tail {α : Type} {R : World → Value → α → Prop} {w : World} {b o n c : Nat} {xs : List α} {x : α} (h : SlOf R w (.slice (some ⟨b, o, none⟩) n c) (x :: xs)) : SlOf R w (.slice (some (if c = 1 then ⟨b, o, none⟩ else ⟨b, o + 1, none⟩)) (n - 1) (c - 1)) xs := by
  obtain ⟨vs, ⟨hl, a', c', hv, hnc, hcm, hn, hx⟩, hvl, hvr⟩ := h
  simp only [Value.slice.injEq] at hv
  obtain ⟨rfl, rfl, rfl⟩ := hv
  simp only [List.length_cons] at hvl
  refine ⟨vs.drop 1, ⟨by simp; omega, some (if c = 1 then ⟨b, o, none⟩ else ⟨b, o + 1, none⟩), c - 1, by simp, by simp; omega, by omega, (fun h => nomatch h), ?_⟩, by simp; omega, fun i u y hu hy => ?_⟩
  · by_cases hc1 : c = 1
    · left
      exact List.drop_eq_nil_of_le (by omega)
    · rcases hx with h0 | ⟨b', o', e, hb, hc⟩
      · left; simp [h0]
      · simp only [Option.some.injEq, Addr.mk.injEq] at e
        obtain ⟨rfl, rfl, -⟩ := e
        refine Or.inr ⟨b, o + 1, by rw [if_neg hc1], hb, fun i u hu => ?_⟩
        rw [List.getElem?_drop] at hu
        rw [Nat.add_assoc]
        exact hc (1 + i) u hu
  · rw [List.getElem?_drop] at hu
    exact hvr (1 + i) u y hu (by rw [Nat.add_comm 1 i, List.getElem?_cons_succ]; exact hy)
theorem txt_at {w : World} {v : Value} {xs : List ByteArray} (h : SlOf (ValR Value.string) w v xs) {k : Nat} {x : ByteArray} (hx : xs[k]? = some x) : ∃ b o c, v = .slice (some ⟨b, o, none⟩) xs.length c ∧ w.cell? ⟨b, o + k, none⟩ = some (.string x) := by
  obtain ⟨a, c, rfl, -, -, hc⟩ := h.shape
  obtain ⟨hk, -⟩ := List.getElem?_eq_some_iff.1 hx
  obtain ⟨b, o, rfl, -, hcl⟩ := hc (by omega)
  obtain ⟨u, hu, hux⟩ := hcl k x hx
  exact ⟨b, o, c, rfl, by rw [hu, show u = .string x from hux]⟩
end Go.Sd
namespace Go.Proofs.Ytcilgihmaaobeaa
open Go.RowKit Go.Deep Go.Sd
set_option linter.unusedSimpArgs false
theorem New.ofStrs {lo : Nat} {w : World} {v : Value} {d : Int} {F : List ByteArray} (h : New OStrs lo w v F) : New OSh lo w (.agg #[.int .i64 d, v]) (d, F) := by
  obtain ⟨G, hG, hf⟩ := h
  exact ⟨G, ⟨v, rfl, hG⟩, hf⟩
/-- A shift as the draws make it: small. -/
def SmSh (z : Sh) : Prop := 0 ≤ z.1 ∧ z.1 ≤ 9 ∧ z.2.length ≤ 9 ∧ ∀ f, f ∈ z.2 → f.size ≤ 8
theorem tail1 {b o n c : Nat} (h1 : 1 ≤ n) (w : World) : (Instr.slice 36 (.slice (some ⟨b, o, none⟩) n c) (some (.int .i64 1)) none none).run Try.prog w = .ok (.slice (some (if c = 1 then ⟨b, o, none⟩ else ⟨b, o + 1, none⟩)) (n - 1) (c - 1)) w := by
  have h2 : (1 : Int) ≤ (n : Int) := by omega
  by_cases e : c = 1
  · rw [if_pos e]
    simp [go_sem, h2, e]
  · rw [if_neg e]
    simp [go_sem, h2, e]
set_option maxHeartbeats 4000000 in
set_option maxRecDepth 100000 in
theorem ParseShift_c {w : World} {t : ByteArray} {d : Nat} {F : List ByteArray} (ht : t.size ≤ 100) (hsp : splitB t 32 = fmtN d :: F) (h9 : d ≤ 9) (hF : F.length ≤ 8) (hf : ∀ f, f ∈ F → f.size ≤ 8) :
    Calls Try.prog 121 #[.string t] w fun e w' => ∃ (v : Value) (b : Bool) (z : Sh), e = .returned (.tuple #[v, .bool b]) ∧ SmSh z ∧ New OSh w.heap.size w' v z ∧ Below w.heap.size w w' := by
  have HS := Lib.hid (fun w1 => (show Calls Try.prog 138 #[.string t, .int .u8 32] w1 (Makes OTxt w1 (fmtN d :: F)) from by rw [← hsp]; exact SplitByte_c (w := w1) (s := t) (c := 32) (by omega) (by omega)))
  have HPI := Lib.hid (fun w1 => ParseInt_dig (w := w1) h9)
  have HIs := Lib.hid (fun w1 v (h : ShR w1 v ((d : Int), F)) => spec_IsShift_c h (fun f h => by have := hf f h; omega))
  have HSm := Lib.hid (show SmSh ((d : Int), F) from ⟨by simp, by simp; omega, by simp; omega, hf⟩)
  have HSm0 := Lib.hid (show SmSh (0, []) from ⟨by simp, by simp, by simp, by simp⟩)
  have HF := Lib.hid hF
  generalize shiftM ((d : Int), F) = ok at HIs
  obtain ⟨wA, eA, hA0⟩ : ∃ wA, wA = w.alloc (.cells #[.int .i64 0, .slice none 0 0] 44) ∧ Below w.heap.size w wA := ⟨_, rfl, (Below.refl _ _).alloc (Nat.le_refl _) _⟩
  have R0 := Lib.hid (show wA.cell? ⟨w.heap.size, 0, none⟩ = some (.int .i64 0) from by rw [eA]; simp [go_sem])
  have R1 := Lib.hid (show wA.cell? ⟨w.heap.size, 1, none⟩ = some (.slice none 0 0) from by rw [eA]; simp [go_sem])
  have F0 := Lib.hid (show wA.frozen? ⟨w.heap.size, 0, none⟩ = false from by rw [eA]; simp [go_sem])
  have F1 := Lib.hid (show wA.frozen? ⟨w.heap.size, 1, none⟩ = false from by rw [eA]; simp [go_sem])
  have zA : w.heap.size < wA.heap.size := by rw [eA]; simp
  have HA := Lib.hid hA0
  have eW := eA.symm
  clear eA hA0 hsp hF hf
  go_enter Try.func121, Try.ntmps121
  go_wp2_with fail
  (with_reducible refine (HS.out _).mono ?_)
  rintro e w1 ⟨vp, rfl, hn, hb1⟩
  obtain ⟨pb, po, pc, rfl, g0⟩ := txt_at (New.txt hn) (k := 0) (x := fmtN d) rfl
  rw [Nat.add_zero] at g0
  have htl := slot_tail (New.txt hn)
  have hcl : (fmtN d :: F).length = F.length + 1 := rfl
  rw [hcl] at htl hn ⊢
  rw [Nat.add_sub_cancel] at htl
  replace R0 := Lib.hid ((hb1.cell (p := ⟨w.heap.size, 0, none⟩) zA).trans R0.out)
  replace R1 := Lib.hid ((hb1.cell (p := ⟨w.heap.size, 1, none⟩) zA).trans R1.out)
  replace F0 := Lib.hid ((hb1.frozen (p := ⟨w.heap.size, 0, none⟩) zA).trans F0.out)
  replace F1 := Lib.hid ((hb1.frozen (p := ⟨w.heap.size, 1, none⟩) zA).trans F1.out)
  replace HA := Lib.hid (HA.out.trans (hb1.mono HA.out.size))
  replace zA : w.heap.size < w1.heap.size := Nat.lt_of_lt_of_le zA hb1.size
  have HT := Lib.hid htl
  clear hb1 eW HS hn htl hcl
  go_wp2_with fail
  (with_reducible refine (HPI.out _).mono ?_)
  rintro e w2 ⟨rfl, hb2⟩
  replace g0 := (hb2.cell (p := ⟨pb, po, none⟩) (World.block_lt_of_cell? _ _ g0)).trans g0
  replace R0 := Lib.hid ((hb2.cell (p := ⟨w.heap.size, 0, none⟩) zA).trans R0.out)
  replace R1 := Lib.hid ((hb2.cell (p := ⟨w.heap.size, 1, none⟩) zA).trans R1.out)
  replace F0 := Lib.hid ((hb2.frozen (p := ⟨w.heap.size, 0, none⟩) zA).trans F0.out)
  replace F1 := Lib.hid ((hb2.frozen (p := ⟨w.heap.size, 1, none⟩) zA).trans F1.out)
  replace HA := Lib.hid (HA.out.trans (hb2.mono HA.out.size))
  replace zA : w.heap.size < w2.heap.size := Nat.lt_of_lt_of_le zA hb2.size
  replace HT := Lib.hid (SlOf.frame (fun _ _ _ _ h _ => h) _ _ _ _ HT.out hb2)
  have hsl := fun w' => tail1 (b := pb) (o := po) (n := F.length + 1) (c := pc) (by omega) w'
  rw [Nat.add_sub_cancel] at hsl
  obtain ⟨ad, had⟩ : ∃ y, y = (if pc = 1 then (⟨pb, po, none⟩ : Addr) else ⟨pb, po + 1, none⟩) := ⟨_, rfl⟩
  rw [← had] at HT
  simp only [← had] at hsl
  have hbe : Below w2.heap.size w2 (w2.alloc (.cells #[] 9)) := (Below.refl _ _).alloc (Nat.le_refl _) _
  have HTz := Lib.hid (SlOf.frame (fun _ _ _ _ h _ => h) _ _ _ _ HT.out hbe)
  have HBe := Lib.hid hbe
  clear hb2 HPI had hbe
  go_wp2_with (first | (at_builtin; refine wpl_append_vals (f := Value.string) (fun _ => rfl) rfl (.tmp 18) (.tmp 20) 36 rfl 9 (.string ⟨#[]⟩) 16 Try.underlying36 infoTx rfl (New.empty (R := OValR Value.string) (lo := w2.heap.size) w2 (Nat.le_refl _)) (by simp) HTz.out rfl rfl (by have := HF.out; simp only [List.length_nil]; omega) (by have := HF.out; simp only [List.length_nil]; omega) ?_; intro v4 w4 hn4 _ _ hb4; obtain ⟨xa, xn, xc, rfl⟩ := hn4.slice; have Hn4 := Lib.hid hn4; have HB4 := Lib.hid (HBe.out.trans hb4); clear hn4 hb4) | fail)
  have hn4 : New OStrs w2.heap.size w4 (.slice xa xn xc) F := Hn4.out
  obtain ⟨w5, e5, hb5, c0, c1, m5⟩ := boxA_ex w4 44 (.int .i64 (d : Int)) (.slice xa xn xc)
  rw [e5]
  have hn5 : New OStrs w2.heap.size w5 (.slice xa xn xc) F := New.keep OStrs.kept hn4 hb5 (Nat.le_refl _)
  (with_reducible refine (HIs.out w5 (.agg #[.int .i64 (d : Int), .slice xa xn xc]) (show ShR w5 (.agg #[.int .i64 (d : Int), .slice xa xn xc]) ((d : Int), F) from New.sh (New.ofStrs hn5))).mono ?_)
  rintro e w6 ⟨rfl, hb6⟩
  have hn6 : New OStrs w2.heap.size w6 (.slice xa xn xc) F := New.keep OStrs.kept hn5 hb6 (Nat.le_refl _)
  have hb26 : Below w2.heap.size w2 w6 := (HB4.out.trans (hb5.mono HB4.out.size)).trans (hb6.mono (Nat.le_trans HB4.out.size hb5.size))
  replace c0 := (hb6.cell (p := ⟨w4.heap.size, 0, none⟩) m5).trans c0
  replace c1 := (hb6.cell (p := ⟨w4.heap.size, 1, none⟩) m5).trans c1
  replace R0 := Lib.hid ((hb26.cell (p := ⟨w.heap.size, 0, none⟩) zA).trans R0.out)
  replace R1 := Lib.hid ((hb26.cell (p := ⟨w.heap.size, 1, none⟩) zA).trans R1.out)
  replace F0 := Lib.hid ((hb26.frozen (p := ⟨w.heap.size, 0, none⟩) zA).trans F0.out)
  replace F1 := Lib.hid ((hb26.frozen (p := ⟨w.heap.size, 1, none⟩) zA).trans F1.out)
  replace HA := Lib.hid (HA.out.trans (hb26.mono HA.out.size))
  have Hn6 := Lib.hid hn6
  have hne : w.heap.size ≠ w4.heap.size := by have := HB4.out.size; omega
  clear hn4 hn5 hn6 hb5 hb6 hb26 e5 hsl HIs Hn4 HT HTz HBe HB4 g0 h9 ht
  cases ok with
  | false =>
    have r0 := R0.out
    have r1 := R1.out
    have t0 := F0.out
    have t1 := F1.out
    go_wp2
    have s0 := World.cell?_setCell_same w6 _ (.int .i64 0) R0.out
    have u1 := (World.cell?_setCell_other _ ⟨w.heap.size, 0, none⟩ _ (.int .i64 0) (by simp)).trans R1.out
    have s1 := World.cell?_setCell_same _ _ (.slice none 0 0) u1
    have s2 := (World.cell?_setCell_other _ ⟨w.heap.size, 1, none⟩ ⟨w.heap.size, 0, none⟩ (.slice none 0 0) (by simp)).trans s0
    refine bodyPost_ret (v := .tuple #[.agg #[.int .i64 0, .slice none 0 0], .bool false]) (by simp [results, Try.results121, go_sem, s0, s1, s2]) rfl ?_
    exact ⟨_, false, (0, []), rfl, HSm0.out, New.ofStrs (New.nil _ _), ((HA.out.setCell (p := ⟨w.heap.size, 0, none⟩) (by simp) _).setCell (p := ⟨w.heap.size, 1, none⟩) (by simp) _)⟩
  | true =>
    have r0 := R0.out
    have r1 := R1.out
    have t0 := F0.out
    have t1 := F1.out
    go_wp2
    have s0 := World.cell?_setCell_same w6 _ (.int .i64 (d : Int)) R0.out
    have u1 := (World.cell?_setCell_other _ ⟨w.heap.size, 0, none⟩ _ (.int .i64 (d : Int)) (by simp)).trans R1.out
    have s1 := World.cell?_setCell_same _ _ (.slice xa xn xc) u1
    have s2 := (World.cell?_setCell_other _ ⟨w.heap.size, 1, none⟩ ⟨w.heap.size, 0, none⟩ (.slice xa xn xc) (by simp)).trans s0
    refine bodyPost_ret (v := .tuple #[.agg #[.int .i64 (d : Int), .slice xa xn xc], .bool true]) (by simp [results, Try.results121, go_sem, s0, s1, s2]) rfl ?_
    exact ⟨_, true, ((d : Int), F), rfl, HSm.out, New.ofStrs ((New.storeLow OStrs.held (New.storeLow OStrs.held Hn6.out zA _) zA _).mono (Nat.le_of_lt zA)), ((HA.out.setCell (p := ⟨w.heap.size, 0, none⟩) (by simp) _).setCell (p := ⟨w.heap.size, 1, none⟩) (by simp) _)⟩
end Go.Proofs.Ytcilgihmaaobeaa
end

section
namespace Go.Sd
open Go.RowKit Go.Deep
section
variable {P : Program} {α : Type} {lo sz : Nat} {f : α → List Value} {w : World} {v : Value} {e : TypeId} {rs : List Res}
theorem flatMap_take (L : Lay sz f) : ∀ (xs : List α) (k : Nat), k ≤ xs.length → (xs.take k).flatMap f = (xs.flatMap f).take (k * sz)
  | [], k, h => by simp
  | x :: xs, 0, _ => by simp
  | x :: xs, k + 1, h => by
    have ih := flatMap_take L xs k (by simpa using h)
    have e : (k + 1) * sz = (f x).length + k * sz := by rw [L.len, Nat.add_mul]; omega
    rw [List.take_succ_cons, List.flatMap_cons, List.flatMap_cons, ih, e, List.take_length_add_append]
/-- A slice of such elements that is only read. -/
def RowRd (f : α → List Value) (w : World) (v : Value) (ys : List α) : Prop := ∃ a c, v = .slice a ys.length c ∧ (a = none → ys.length = 0 ∧ c = 0) ∧ ∀ ad, a = some ad → ∀ j u, (ys.flatMap f)[j]? = some u → w.cell? (ad.add j) = some u
theorem Sep.preRow (L : Lay sz f) {b n c : Nat} {xs : List α} (h : Sep lo w (Res.row e sz f (.slice (some ⟨b, 0, none⟩) n c) xs :: rs)) {k : Nat} (hk : k ≤ xs.length) : Sep lo w (Res.row e sz f (.slice (some ⟨b, 0, none⟩) k c) (xs.take k) :: rs) := by
  obtain ⟨F, ⟨G, H, rfl, ⟨h1, hG⟩, h2⟩, hn, hl⟩ := h
  obtain ⟨hul, hor⟩ := h1
  refine ⟨G ++ H, ⟨G, H, rfl, ⟨⟨?_, ?_⟩, hG⟩, h2⟩, hn, hl⟩
  · rw [flatMap_len L]
  · rcases hor with ⟨h0, _⟩ | ⟨g, cap, cur, hv, hg, hh, hnc, hcm, hcs, htake⟩
    · cases h0
    · simp only [Value.slice.injEq, Option.some.injEq, Addr.mk.injEq] at hv
      obtain ⟨⟨rfl, -, -⟩, rfl, rfl⟩ := hv
      refine .inr ⟨b, c, cur, by simp; omega, hg, hh, by simp; omega, hcm, hcs, ?_⟩
      rw [flatMap_take L xs k hk, ← htake, List.take_take, List.length_take]
      congr 1
      rw [Nat.min_eq_left hk]
      have := Nat.mul_le_mul_right sz hk
      omega
/-- append of a slice to the first of some own things. -/
theorem Sep.pushRow (L : Lay sz f) (t ty : TypeId) (z : Value) (bytes : Nat) (ht : P.underlying t = some (.slice e)) (hinfo : (P.info? e).map (fun i => (i.zero, i.size, i.bytes)) = some (some z, sz, bytes)) (hz1 : z.cells.size = sz)
    {xs ys : List α} (h : Sep lo w (Res.row e sz f v xs :: rs)) (hlo : lo ≤ w.heap.size) {v2 : Value} (h2 : RowRd f w v2 ys) (hbytes : (xs.length + ys.length) * bytes ≤ 140737488355328) (h63 : xs.length + ys.length ≤ 9223372036854775807) :
    ∃ v' w', (Builtin.append_ #[t, t] ty #[v, v2]).run P w = .ok v' w' ∧ Sep lo w' (Res.row e sz f v' (xs ++ ys) :: rs) ∧ Below lo w w' := by
  obtain ⟨i, hi, hzz⟩ := Option.map_eq_some_iff.1 hinfo
  simp only [Prod.mk.injEq] at hzz
  obtain ⟨hz, hsz, hby⟩ := hzz
  have h0 := h
  obtain ⟨G, hG, hf, hK⟩ := h.head
  have hG1 : RowG e sz f w v xs G := hG
  obtain ⟨how, eG⟩ := hG1
  obtain ⟨a, c, rfl, hnil, hc⟩ := h2
  cases a with
  | none =>
    obtain ⟨hy, rfl⟩ := hnil rfl
    rw [List.length_eq_zero_iff] at hy
    subst hy
    refine ⟨v, w, run_append_owned_none (P := P) w 0 t ty e i sz ht hi v _ _ how, by rw [List.append_nil]; exact h0, Below.refl _ _⟩
  | some ad =>
    obtain ⟨v', w', hrun, how', hg, _, hat⟩ := run_append_own_at (P := P) w 0 t ty e i z sz bytes ht hi hz hsz hby hz1 L.pos v xs.length (xs.flatMap f) how ad ys.length c (ys.flatMap f) (flatMap_len L ys) (hc ad rfl)
      (fun u hu => by
        obtain ⟨y, _, hy⟩ := List.mem_flatMap.1 hu
        exact L.one y u hy) h63 hbytes (Nat.zero_le _)
    refine ⟨v', w', hrun, hK w' (Res.row e sz f v' (xs ++ ys)) v'.ownBlock.toList ⟨by simpa using how', rfl⟩ (by cases v'.ownBlock <;> simp) (fun b hb2 => ?_) hlo fun b hlt hn => ?_, (Below.refl lo w).grown hg (by omega) fun k hk => hf.2 k (by rw [eG]; simp [hk])⟩
    · simp at hb2
      rcases hat with hat | hat
      · rw [hat] at hb2; exact Or.inl (by rw [eG]; simp [hb2])
      · rw [hat] at hb2; simp at hb2; exact Or.inr (by omega)
    · refine hg.block b hlt fun e2 => hn ?_
      rw [eG]; simp [← e2]
theorem RowRd.frame {w' : World} {ys : List α} (h : RowRd f w v ys) (hb : Below w.heap.size w w') (hlt : ∀ ad n c, v = .slice (some ad) n c → ad.block < w.heap.size) : RowRd f w' v ys := by
  obtain ⟨a, c, rfl, h1, h2⟩ := h
  refine ⟨a, c, rfl, h1, fun ad e j u hu => ?_⟩
  have := h2 ad e j u hu
  have hbk : (ad.add j).block = ad.block := by unfold Addr.add; split <;> rfl
  exact (hb.cell (p := ad.add j) (by rw [hbk]; exact hlt ad _ _ (by rw [e]))).trans this
theorem flatMap_drop (L : Lay sz f) : ∀ (xs : List α) (k : Nat), k ≤ xs.length → (xs.drop k).flatMap f = (xs.flatMap f).drop (k * sz)
  | [], k, h => by simp
  | x :: xs, 0, _ => by simp
  | x :: xs, k + 1, h => by
    have ih := flatMap_drop L xs k (by simpa using h)
    have e : (k + 1) * sz = (f x).length + k * sz := by rw [L.len, Nat.add_mul]; omega
    rw [List.drop_succ_cons, ih, List.flatMap_cons, e, List.drop_length_add_append]
theorem flatMap_get (L : Lay sz f) {xs : List α} {j : Nat} {u : Value} (h : (xs.flatMap f)[j]? = some u) : ∃ i r x, j = i * sz + r ∧ xs[i]? = some x ∧ (f x)[r]? = some u := by
  have hp := L.pos
  have hj := (List.getElem?_eq_some_iff.1 h).1
  rw [flatMap_len L] at hj
  have hi : j / sz < xs.length := Nat.div_lt_of_lt_mul (by rw [Nat.mul_comm]; exact hj)
  obtain ⟨x, hx, _⟩ := at_lt hi
  have hr : j % sz < (f x).length := by rw [L.len]; exact Nat.mod_lt _ hp
  have e1 : j / sz * sz + j % sz = j := by rw [Nat.mul_comm]; exact Nat.div_add_mod j sz
  refine ⟨j / sz, j % sz, x, e1.symm, hx, ?_⟩
  have h2 := flatMap_at L hx (List.getElem?_eq_getElem hr)
  rw [e1, h] at h2
  rw [List.getElem?_eq_getElem hr]
  exact h2.symm
/-- The end of an own slice, read. -/
theorem Sep.dropRd (L : Lay sz f) {b n c : Nat} {xs : List α} (h : Sep lo w (Res.row e sz f (.slice (some ⟨b, 0, none⟩) n c) xs :: rs)) {k : Nat} (hk : k ≤ xs.length) (c' : Nat) : RowRd f w (.slice (some ⟨b, k * sz, none⟩) (xs.length - k) c') (xs.drop k) := by
  refine ⟨some ⟨b, k * sz, none⟩, c', by rw [List.length_drop], (fun h => by cases h), fun ad e j u hu => ?_⟩
  cases e
  rw [flatMap_drop L xs k hk, List.getElem?_drop] at hu
  obtain ⟨i, r, x, hj, hx, hr⟩ := flatMap_get L hu
  have h0 : 0 < xs.length := by have := (List.getElem?_eq_some_iff.1 hx).1; omega
  obtain ⟨a', c2, hv, hq⟩ := h.rowAt L
  obtain ⟨b', e', _, _, hcell⟩ := hq h0
  subst e'
  simp at hv
  obtain ⟨rfl, -, -⟩ := hv
  have := hcell i x r u hx hr
  have e2 : (⟨b, k * sz, none⟩ : Addr).add j = ⟨b, i * sz + r, none⟩ := by
    unfold Addr.add
    simp [hj]
    intro h0
    omega
  rw [e2]
  exact this
/-- An own slice, read. -/
theorem Sep.rowRd (L : Lay sz f) {xs : List α} (h : Sep lo w (Res.row e sz f v xs :: rs)) : RowRd f w v xs ∧ ∀ ad n c, v = .slice (some ad) n c → ad.block < w.heap.size := by
  obtain ⟨G, hG, -, -⟩ := h.head
  have hG1 : RowG e sz f w v xs G := hG
  rcases hG1.1.2 with ⟨rfl, h0⟩ | ⟨g, cap, cur, rfl, _, hg, _, _, _, _⟩
  · refine ⟨⟨none, 0, by rw [h0], fun _ => ⟨h0, rfl⟩, fun ad e => by cases e⟩, fun ad n c e => by cases e⟩
  · refine ⟨⟨_, _, rfl, (fun h => by cases h), fun ad e j u hu => ?_⟩, fun ad n c e => ?_⟩
    · cases e
      exact hG1.1.cells (g := g) rfl _ _ hu
    · simp at e
      rw [← e.1]
      exact (hG1.1.lt g rfl).2
end
end Go.Sd
end
