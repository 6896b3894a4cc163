/-
  Sets of states that are reached, in the order in which they are found: the models of l15Sets and reachSets.
-/
import Derived.Test.YtdohepngandajaaDoorBase
import Derived.Test.YtdohepngandajaaDoorLab
import Derived.Test.YtdohepngandajaaDoorLabM
import Derived.Test.YtdohepngandajaaDoorReadP
namespace Go.Proofs.YtdohepngandajaaDoor
open Go.RowKit Go.Deep Go.Sd

def OkS (sets : List Nat) : Prop := sets.Nodup ∧ ∀ s, s ∈ sets → 0 < s ∧ s < 4096
theorem OkS.len {sets : List Nat} (h : OkS sets) : sets.length ≤ 4095 := by
  have h1 : (sets.map (· - 1)).Nodup := by
    rw [List.Nodup, List.pairwise_map]
    refine List.Pairwise.imp_of_mem (fun {a b} ha hb hne e => hne ?_) h.1
    have := h.2 a ha
    have := h.2 b hb
    omega
  have h2 := nodup_below 4095 _ h1 fun x hx => by
    obtain ⟨s, hs, rfl⟩ := List.mem_map.1 hx
    have := h.2 s hs
    omega
  simpa using h2
def addS (sets : List Nat) (t : Nat) : List Nat := if t = 0 ∨ t ∈ sets then sets else sets ++ [t]
def posS (sets : List Nat) (t : Nat) : Int := if t = 0 then -1 else (sets.idxOf t : Int)
theorem OkS.add {sets : List Nat} (h : OkS sets) {t : Nat} (ht : t < 4096) : OkS (addS sets t) := by
  unfold addS
  by_cases e : t = 0 ∨ t ∈ sets
  · rw [if_pos e]; exact h
  · rw [if_neg e]
    rw [not_or] at e
    refine ⟨List.nodup_append.2 ⟨h.1, by simp, fun a ha b hb => ?_⟩, fun s hs => ?_⟩
    · simp at hb; subst hb; exact fun e2 => e.2 (e2 ▸ ha)
    · rcases List.mem_append.1 hs with hs | hs
      · exact h.2 s hs
      · simp at hs; subst hs; omega
theorem addS_pre (sets : List Nat) (t : Nat) : ∃ u, addS sets t = sets ++ u := by
  unfold addS
  split
  · exact ⟨[], by simp⟩
  · exact ⟨[t], rfl⟩
/-- One row: where each letter leads from s. -/
def rowS (A : List Arc3) (s : Nat) : Nat → Nat → List Nat → List Int → List Nat × List Int
  | 0, _, sets, row => (sets, row)
  | n + 1, x, sets, row => rowS A s n (x + 1) (addS sets (stepN A s (x : Int))) (row ++ [posS sets (stepN A s (x : Int))])
def bfsS (A : List Arc3) (L : Nat) : Nat → List Nat → Nat → List (List Int) → List Nat × List (List Int)
  | 0, sets, _, next => (sets, next)
  | f + 1, sets, k, next => match sets[k]? with
    | none => (sets, next)
    | some s => bfsS A L f (rowS A s L 0 sets []).1 (k + 1) (next ++ [(rowS A s L 0 sets []).2])
section
variable {A : List Arc3}
theorem rowS_ok (hA : ∀ s x, stepN A s x < 4096) (s : Nat) : ∀ (n x : Nat) (sets : List Nat) (row : List Int), OkS sets → OkS (rowS A s n x sets row).1
  | 0, _, _, _, h => h
  | n + 1, x, sets, row, h => rowS_ok hA s n (x + 1) _ _ (h.add (hA _ _))
theorem rowS_pre (s : Nat) : ∀ (n x : Nat) (sets : List Nat) (row : List Int), ∃ u, (rowS A s n x sets row).1 = sets ++ u
  | 0, _, sets, _ => ⟨[], by simp [rowS]⟩
  | n + 1, x, sets, row => by
    obtain ⟨u, hu⟩ := addS_pre sets (stepN A s (x : Int))
    obtain ⟨v, hv⟩ := rowS_pre s n (x + 1) (addS sets (stepN A s (x : Int))) (row ++ [posS sets (stepN A s (x : Int))])
    exact ⟨u ++ v, by simp only [rowS]; rw [hv, hu, List.append_assoc]⟩
theorem rowS_fst (s : Nat) : ∀ (n x : Nat) (sets : List Nat) (r r' : List Int), (rowS A s n x sets r).1 = (rowS A s n x sets r').1
  | 0, _, _, _, _ => rfl
  | n + 1, x, sets, r, r' => rowS_fst s n (x + 1) _ _ _
end
/-! The search with words. -/
abbrev Ent := Nat × List Nat
def addE (es : List Ent) (t : Nat) (w : List Nat) : List Ent := if t = 0 ∨ t ∈ es.map (·.1) then es else es ++ [(t, w)]
def rowE (A : List Arc3) (s : Nat) (w : List Nat) : Nat → Nat → List Ent → List Ent
  | 0, _, es => es
  | n + 1, x, es => rowE A s w n (x + 1) (addE es (stepN A s (x : Int)) (w ++ [x]))
def nextE (A : List Arc3) (L most : Nat) (es : List Ent) (e : Ent) : List Ent := if e.2.length = most then es else rowE A e.1 e.2 L 0 es
def reachE {σ : Type} (A : List Arc3) (L most : Nat) (cb : σ → Ent → σ × Bool) : Nat → List Ent → Nat → σ → σ
  | 0, _, _, st => st
  | f + 1, es, k, st => match es[k]? with
    | none => st
    | some e => if (cb st e).2 = true then (cb st e).1 else reachE A L most cb f (nextE A L most es e) (k + 1) (cb st e).1
def OkE (es : List Ent) : Prop := OkS (es.map (·.1))
theorem OkE.len {es : List Ent} (h : OkE es) : es.length ≤ 4095 := by simpa using OkS.len h
theorem addE_fst (es : List Ent) (t : Nat) (w : List Nat) : (addE es t w).map (·.1) = addS (es.map (·.1)) t := by
  unfold addE addS
  split
  · rfl
  · simp
theorem OkE.add {es : List Ent} (h : OkE es) {t : Nat} (ht : t < 4096) (w : List Nat) : OkE (addE es t w) := by
  unfold OkE
  rw [addE_fst]
  exact OkS.add h ht
theorem rowE_fst (A : List Arc3) (s : Nat) (w : List Nat) : ∀ (n x : Nat) (es : List Ent) (r : List Int), (rowE A s w n x es).map (·.1) = (rowS A s n x (es.map (·.1)) r).1
  | 0, _, _, _ => rfl
  | n + 1, x, es, r => by
    simp only [rowE, rowS]
    rw [rowE_fst A s w n (x + 1) _ (r ++ [posS (es.map (·.1)) (stepN A s (x : Int))]), addE_fst]
theorem rowE_ok {A : List Arc3} (hA : ∀ s x, stepN A s x < 4096) (s : Nat) (w : List Nat) (n x : Nat) {es : List Ent} (h : OkE es) : OkE (rowE A s w n x es) := by
  unfold OkE
  rw [rowE_fst A s w n x es []]
  exact rowS_ok hA s n x _ _ h
theorem nextE_ok {A : List Arc3} (hA : ∀ s x, stepN A s x < 4096) (L most : Nat) {es : List Ent} (h : OkE es) (e : Ent) : OkE (nextE A L most es e) := by
  unfold nextE
  split
  · exact h
  · exact rowE_ok hA _ _ _ _ h
/-- The words' lengths: at most the place; at most a bound. -/
def Short (es : List Ent) : Prop := ∀ (i : Nat) (e : Ent), es[i]? = some e → e.2.length ≤ i
def Capped (m : Nat) (es : List Ent) : Prop := ∀ e, e ∈ es → e.2.length ≤ m
theorem addE_short {es : List Ent} (h : Short es) {t : Nat} {w : List Nat} (hw : w.length ≤ es.length) : Short (addE es t w) := by
  unfold addE
  split
  · exact h
  · intro i e hi
    by_cases hl : i < es.length
    · rw [List.getElem?_append_left hl] at hi; exact h i e hi
    · have h1 := (List.getElem?_eq_some_iff.1 hi).1
      simp at h1
      have e1 : i = es.length := by omega
      subst e1
      rw [List.getElem?_append_right (by omega)] at hi
      simp at hi
      subst hi
      exact hw
theorem addE_len (es : List Ent) (t : Nat) (w : List Nat) : es.length ≤ (addE es t w).length := by
  unfold addE
  split <;> simp
theorem rowE_short (A : List Arc3) (s : Nat) (w : List Nat) : ∀ (n x : Nat) (es : List Ent), Short es → w.length + 1 ≤ es.length → Short (rowE A s w n x es)
  | 0, _, _, h, _ => h
  | n + 1, x, es, h, hw => rowE_short A s w n (x + 1) _ (addE_short h (by simpa using hw)) (Nat.le_trans hw (addE_len _ _ _))
theorem addE_capped {m : Nat} {es : List Ent} (h : Capped m es) {t : Nat} {w : List Nat} (hw : w.length ≤ m) : Capped m (addE es t w) := by
  unfold addE
  split
  · exact h
  · intro e he
    rcases List.mem_append.1 he with he | he
    · exact h e he
    · simp at he; subst he; exact hw
theorem rowE_capped {m : Nat} (A : List Arc3) (s : Nat) (w : List Nat) (hw : w.length < m) : ∀ (n x : Nat) (es : List Ent), Capped m es → Capped m (rowE A s w n x es)
  | 0, _, _, h => h
  | n + 1, x, es, h => rowE_capped A s w hw n (x + 1) _ (addE_capped h (by simp; omega))
theorem nextE_capped {m : Nat} (A : List Arc3) (L : Nat) {es : List Ent} (h : Capped m es) {e : Ent} (he : e ∈ es) : Capped m (nextE A L m es e) := by
  unfold nextE
  split
  · exact h
  · exact rowE_capped A _ _ (by have := h e he; omega) _ _ _ h

/-! The least of numbers that belong to the sets. -/
def minF (f : Nat → Int) (a : Int) (s : Nat) : Int := if f s < a then f s else a
def cbMin (f : Nat → Int) (a : Int) (e : Ent) : Int × Bool := (minF f a e.1, false)
theorem reach_min (A : List Arc3) (L : Nat) (f : Nat → Int) (hA : ∀ s x, stepN A s x < 4096) : ∀ (g : Nat) (es : List Ent) (k : Nat) (next : List (List Int)) (a0 : Int),
    OkE es → Short es → 4096 ≤ g + k → reachE A L 4096 (cbMin f) g es k (((es.map (·.1)).take k).foldl (minF f) a0) = (bfsS A L g (es.map (·.1)) k next).1.foldl (minF f) a0
  | 0, es, k, next, a0, ho, _, hg => by
    have := ho.len
    simp only [reachE, bfsS]
    rw [List.take_of_length_le (by simp; omega)]
  | g + 1, es, k, next, a0, ho, hs, hg => by
    unfold reachE bfsS
    rw [List.getElem?_map]
    cases hk : es[k]? with
    | none =>
      simp only [Option.map_none]
      rw [List.take_of_length_le (by simp; exact List.getElem?_eq_none_iff.1 hk)]
    | some e =>
      simp only [Option.map_some]
      have hkl := (List.getElem?_eq_some_iff.1 hk).1
      have hl := ho.len
      have hse := hs k e hk
      have e1 : nextE A L 4096 es e = rowE A e.1 e.2 L 0 es := by unfold nextE; rw [if_neg (by omega)]
      have e2 := rowE_fst A e.1 e.2 L 0 es []
      obtain ⟨u, hu⟩ := rowS_pre (A := A) e.1 L 0 (es.map (·.1)) []
      have ih := reach_min A L f hA g (rowE A e.1 e.2 L 0 es) (k + 1) (next ++ [(rowS A e.1 L 0 (es.map (·.1)) []).2]) a0 (rowE_ok hA _ _ _ _ ho) (rowE_short _ _ _ _ _ _ hs (by omega)) (by omega)
      have hpre := hu
      rw [← e2] at hpre
      rw [e1]
      rw [show (cbMin f (((es.map (·.1)).take k).foldl (minF f) a0) e).2 = false from rfl, if_neg (by simp)]
      rw [show (cbMin f (((es.map (·.1)).take k).foldl (minF f) a0) e).1 = (((rowE A e.1 e.2 L 0 es).map (·.1)).take (k + 1)).foldl (minF f) a0 from by
        rw [hpre, List.take_append_of_le_length (by simp; omega), List.take_add_one, List.getElem?_map, hk, List.foldl_append]
        rfl]
      rw [ih, e2]
end Go.Proofs.YtdohepngandajaaDoor
