/-
  Texts of this claim joined: laws for its walks, contracts of the functions that the law reaches.
-/
import Derived.Test.YtdohepngandajaaResolveLabelsM1
import Derived.Test.YtdohepngandajaaResolveLabelsM4
import Derived.Test.YtdohepngandajaaResolveLabelsM2
import Derived.Test.YtdohepngandajaaResolveLabelsM3
import Derived.Test.YtdohepngandajaaResolveLabelsM7
import Derived.Test.YtdohepngandajaaResolveLabelsM5
import Derived.Test.YtdohepngandajaaRows
import Derived.IntWalk
import Derived.Deep.RegionHeld3
import Derived.Deep.DeepCutAuto
section
/-
  Many things of the call's own, side by side, each with blocks of its own.
-/
namespace Go.Sd
open Go.RowKit Go.Deep

/-- A thing that lies in blocks: what it says, and that it looks at these blocks alone. -/
structure Res where
  p : World → List Nat → Prop
  keep : ∀ w w' F, p w F → (∀ b, b ∈ F → w'.heap[b]? = w.heap[b]?) → p w' F
  lt : ∀ w F, p w F → ∀ b, b ∈ F → b < w.heap.size

/-- An own value. -/
def Res.of {α : Type} (R : OwnRel α) (hR : Held R) (v : Value) (x : α) : Res := ⟨fun w F => R w v x F, fun _ _ _ h hk => hR.keep _ _ _ _ _ h hk, fun _ _ h b hb => hR.lt _ _ _ _ h b hb⟩

/-- A block that holds these cells. -/
def Cells (w : World) (b : Nat) (vs : List Value) : Prop := b < w.heap.size ∧ ∀ j u, vs[j]? = some u → w.cell? ⟨b, j, none⟩ = some u ∧ w.frozen? ⟨b, j, none⟩ = false
theorem Cells.same {w w' : World} {b : Nat} {vs : List Value} (h : Cells w b vs) (e : w'.heap[b]? = w.heap[b]?) : Cells w' b vs := by
  obtain ⟨h0, h1⟩ := h
  refine ⟨?_, fun j u hu => ?_⟩
  · have h3 : (w.heap[b]?).isSome = true := by simp [h0]
    rw [← e] at h3
    simpa using h3
  · obtain ⟨a1, a2⟩ := h1 j u hu
    refine ⟨?_, ?_⟩
    · rw [← a1]; simp [World.cell?, e]
    · rw [← a2]; simp [World.frozen?, e]
theorem Cells.store {w : World} {b : Nat} {vs : List Value} (h : Cells w b vs) {j : Nat} {u0 : Value} (hj : vs[j]? = some u0) (u : Value) : Cells (w.setCell ⟨b, j, none⟩ u) b (vs.set j u) := by
  obtain ⟨h0, h1⟩ := h
  have hl := (List.getElem?_eq_some_iff.1 hj).1
  refine ⟨by rw [World.size_setCell]; exact h0, fun i x hx => ?_⟩
  by_cases e : i = j
  · subst e
    rw [List.getElem?_set_self hl] at hx
    cases hx
    exact ⟨World.cell?_setCell_same _ _ _ (h1 i u0 hj).1, (World.frozen?_setCell _ _ _ _).trans (h1 i u0 hj).2⟩
  · rw [List.getElem?_set_ne (Ne.symm e)] at hx
    exact ⟨(World.cell?_setCell_other _ _ _ _ (by simp <;> omega)).trans (h1 i x hx).1, (World.frozen?_setCell _ _ _ _).trans (h1 i x hx).2⟩
def Res.box (b : Nat) (vs : List Value) : Res := ⟨fun w F => F = [b] ∧ Cells w b vs, fun _ _ _ h hk => ⟨h.1, h.2.same (hk b (by rw [h.1]; simp))⟩, fun _ _ h c hc => by rw [h.1] at hc; simp at hc; rw [hc]; exact h.2.1⟩

def SepF (w : World) : List Res → List Nat → Prop
  | [], F => F = []
  | r :: rs, F => ∃ G H, F = G ++ H ∧ r.p w G ∧ SepF w rs H
def Sep (lo : Nat) (w : World) (rs : List Res) : Prop := ∃ F, SepF w rs F ∧ Fresh lo F

theorem SepF.keep {w w' : World} : ∀ {rs : List Res} {F : List Nat}, SepF w rs F → (∀ b, b ∈ F → w'.heap[b]? = w.heap[b]?) → SepF w' rs F
  | [], _, h, _ => h
  | r :: rs, _, ⟨G, H, e, h1, h2⟩, hk => by
    subst e
    exact ⟨G, H, rfl, r.keep _ _ _ h1 fun b hb => hk b (List.mem_append_left _ hb), SepF.keep h2 fun b hb => hk b (List.mem_append_right _ hb)⟩
theorem SepF.lt {w : World} : ∀ {rs : List Res} {F : List Nat}, SepF w rs F → ∀ b, b ∈ F → b < w.heap.size
  | [], _, h, b, hb => by rw [show _ = [] from h] at hb; cases hb
  | r :: rs, _, ⟨G, H, e, h1, h2⟩, b, hb => by
    subst e
    rcases List.mem_append.1 hb with hb | hb
    · exact r.lt _ _ h1 b hb
    · exact SepF.lt h2 b hb
theorem Sep.nil (lo : Nat) (w : World) : Sep lo w [] := ⟨[], rfl, by simp [Fresh]⟩
theorem Sep.mono {lo lo' : Nat} {w : World} {rs : List Res} (h : Sep lo w rs) (hl : lo' ≤ lo) : Sep lo' w rs := by
  obtain ⟨F, h1, h2, h3⟩ := h
  exact ⟨F, h1, h2, fun b hb => Nat.le_trans hl (h3 b hb)⟩
/-- What is made since lies elsewhere. -/
theorem Sep.below {lo B : Nat} {w w' : World} {rs : List Res} (h : Sep lo w rs) (hb : Below B w w') (hB : w.heap.size ≤ B) : Sep lo w' rs := by
  obtain ⟨F, h1, h2⟩ := h
  exact ⟨F, h1.keep fun b hm => hb.block b (Nat.lt_of_lt_of_le (h1.lt b hm) hB), h2⟩
theorem Sep.cons {lo : Nat} {w w' : World} {rs : List Res} {r : Res} (h : Sep lo w rs) (hb : Below w.heap.size w w') (hlo : lo ≤ w.heap.size) {G : List Nat} (hr : r.p w' G) (hG : Fresh w.heap.size G) : Sep lo w' (r :: rs) := by
  obtain ⟨F, h1, h2, h3⟩ := h
  refine ⟨G ++ F, ⟨G, F, rfl, hr, h1.keep fun b hm => hb.block b (h1.lt b hm)⟩, List.nodup_append.2 ⟨hG.1, h2, fun p hp q hq e => ?_⟩, fun b hm => ?_⟩
  · subst e
    have := hG.2 p hp
    have := h1.lt p hq
    omega
  · rcases List.mem_append.1 hm with hm | hm
    · exact Nat.le_trans hlo (hG.2 b hm)
    · exact h3 b hm
/-- A new own value. -/
theorem Sep.new {α : Type} {R : OwnRel α} (hR : Held R) {lo : Nat} {w w' : World} {rs : List Res} (h : Sep lo w rs) (hb : Below w.heap.size w w') (hlo : lo ≤ w.heap.size) {v : Value} {x : α} (hn : New R w.heap.size w' v x) : Sep lo w' (Res.of R hR v x :: rs) := by
  obtain ⟨G, hG, hf⟩ := hn
  exact h.cons hb hlo (r := Res.of R hR v x) hG hf
theorem Sep.swap {lo : Nat} {w : World} {r s : Res} {rs : List Res} (h : Sep lo w (r :: s :: rs)) : Sep lo w (s :: r :: rs) := by
  obtain ⟨F, ⟨G, H, e1, h1, G2, H2, e2, h2, h3⟩, hn, hl⟩ := h
  subst e1 e2
  refine ⟨G2 ++ (G ++ H2), ⟨G2, _, rfl, h2, G, H2, rfl, h1, h3⟩, ?_, fun b hb => hl b ?_⟩
  · have hp : (G2 ++ (G ++ H2)).Perm (G ++ (G2 ++ H2)) := by
      rw [← List.append_assoc, ← List.append_assoc]
      exact List.Perm.append_right _ List.perm_append_comm
    exact hp.nodup_iff.2 hn
  · simp only [List.mem_append] at hb ⊢
    rcases hb with h | h | h
    · exact Or.inr (Or.inl h)
    · exact Or.inl h
    · exact Or.inr (Or.inr h)
theorem Sep.tail {lo : Nat} {w : World} {r : Res} {rs : List Res} (h : Sep lo w (r :: rs)) : Sep lo w rs := by
  obtain ⟨F, ⟨G, H, e1, h1, h2⟩, hn, hl⟩ := h
  subst e1
  exact ⟨H, h2, (List.nodup_append.1 hn).2.1, fun b hb => hl b (List.mem_append_right _ hb)⟩
/-- The third to the front. -/
theorem Sep.third {lo : Nat} {w : World} {r s t : Res} {rs : List Res} (h : Sep lo w (r :: s :: t :: rs)) : Sep lo w (t :: r :: s :: rs) := by
  obtain ⟨F, ⟨G, H, e1, h1, G2, H2, e2, h2, G3, H3, e3, h3, h4⟩, hn, hl⟩ := h
  subst e1 e2 e3
  have hp : (G3 ++ (G ++ (G2 ++ H3))).Perm (G ++ (G2 ++ (G3 ++ H3))) := by
    have h1 : (G3 ++ ((G ++ G2) ++ H3)).Perm ((G ++ G2) ++ (G3 ++ H3)) := by
      have h2 := List.Perm.append_right H3 (List.perm_append_comm (l₁ := G3) (l₂ := G ++ G2))
      simpa [List.append_assoc] using h2
    simpa [List.append_assoc] using h1
  exact ⟨_, ⟨G3, _, rfl, h3, G, _, rfl, h1, G2, H3, rfl, h2, h4⟩, hp.nodup_iff.2 hn, fun b hb => hl b (hp.mem_iff.1 hb)⟩
/-- The first turns, in its own blocks and new ones; the others stay. -/
theorem Sep.head {lo : Nat} {w : World} {r : Res} {rs : List Res} (h : Sep lo w (r :: rs)) :
    ∃ G, r.p w G ∧ Fresh lo G ∧ ∀ (w' : World) (r' : Res) (G' : List Nat), r'.p w' G' → G'.Nodup → (∀ b, b ∈ G' → b ∈ G ∨ w.heap.size ≤ b) → lo ≤ w.heap.size → (∀ b, b < w.heap.size → b ∉ G → w'.heap[b]? = w.heap[b]?) → Sep lo w' (r' :: rs) := by
  obtain ⟨F, ⟨G, H, e, h1, h2⟩, hn, hl⟩ := h
  subst e
  have hnd := List.nodup_append.1 hn
  refine ⟨G, h1, ⟨hnd.1, fun b hb => hl b (List.mem_append_left _ hb)⟩, fun w' r' G' hr' hn' hs hlo hk => ?_⟩
  have hlt := h2.lt
  refine ⟨G' ++ H, ⟨G', H, rfl, hr', h2.keep fun b hb => hk b (hlt b hb) fun hm => hnd.2.2 b hm b hb rfl⟩, List.nodup_append.2 ⟨hn', hnd.2.1, fun p hp q hq e => ?_⟩, fun b hb => ?_⟩
  · subst e
    rcases hs p hp with h | h
    · exact hnd.2.2 p h p hq rfl
    · have := hlt p hq; omega
  · rcases List.mem_append.1 hb with hb | hb
    · rcases hs b hb with h | h
      · exact hl b (List.mem_append_left _ h)
      · omega
    · exact hl b (List.mem_append_right _ hb)
theorem Sep.headNew {α : Type} {R : OwnRel α} {hR : Held R} {v : Value} {x : α} {lo : Nat} {w : World} {rs : List Res} (h : Sep lo w (Res.of R hR v x :: rs)) : New R lo w v x := by
  obtain ⟨G, h1, h2, _⟩ := h.head
  exact ⟨G, h1, h2⟩
theorem Sep.headBox {b : Nat} {vs : List Value} {lo : Nat} {w : World} {rs : List Res} (h : Sep lo w (Res.box b vs :: rs)) : lo ≤ b ∧ Cells w b vs := by
  obtain ⟨G, ⟨rfl, h1⟩, h2, _⟩ := h.head
  exact ⟨h2.2 b (by simp), h1⟩
theorem Sep.apart {α β : Type} {R : OwnRel α} {S : OwnRel β} {hR : Held R} {hS : Held S} {v u : Value} {x : α} {y : β} {lo : Nat} {w : World} {rs : List Res} (h : Sep lo w (Res.of R hR v x :: Res.of S hS u y :: rs)) : Apart R S lo w v x u y := by
  obtain ⟨F, ⟨G, H, e1, hG, G2, H2, e2, hG2, h3⟩, hn, hl⟩ := h
  subst e1 e2
  have hnd := List.nodup_append.1 hn
  have hnd2 := List.nodup_append.1 hnd.2.1
  exact ⟨G, G2, hG, hG2, ⟨hnd.1, fun b hb => hl b (List.mem_append_left _ hb)⟩, ⟨hnd2.1, fun b hb => hl b (List.mem_append_right _ (List.mem_append_left _ hb))⟩, fun b hb hb2 => hnd.2.2 b hb b (List.mem_append_left _ hb2) rfl⟩
/-- A store into a box. -/
theorem Sep.boxStore {b : Nat} {vs : List Value} {lo : Nat} {w : World} {rs : List Res} (h : Sep lo w (Res.box b vs :: rs)) (hlo : lo ≤ w.heap.size) {j : Nat} {u0 : Value} (hj : vs[j]? = some u0) (u : Value) : Sep lo (w.setCell ⟨b, j, none⟩ u) (Res.box b (vs.set j u) :: rs) := by
  obtain ⟨G, ⟨rfl, h1⟩, h2, hK⟩ := h.head
  exact hK _ (Res.box b (vs.set j u)) [b] ⟨rfl, h1.store hj u⟩ (by simp) (fun _ h => Or.inl h) hlo fun c _ hc => Below.heap_setCell _ _ _ _ (fun e => hc (by simp; exact e))
/-- A new box. -/
theorem Sep.boxNew {lo : Nat} {w : World} {rs : List Res} (h : Sep lo w rs) (hlo : lo ≤ w.heap.size) (vs : List Value) (ty : TypeId) : Sep lo (w.alloc (.cells vs.toArray ty)) (Res.box w.heap.size vs :: rs) := by
  refine h.cons ((Below.refl _ _).alloc (Nat.le_refl _) _) hlo (r := Res.box w.heap.size vs) (G := [w.heap.size]) ⟨rfl, by simp, fun j u hu => ?_⟩ (by simp [Fresh])
  have h2 : vs.toArray[j]? = some u := by simpa using hu
  constructor
  · exact (World.cell?_alloc_at _ _ _ j rfl).trans h2
  · exact World.frozen?_alloc_new w _ _ j
section
variable {P : Program} {α : Type} {R : OwnRel α} {lo : Nat} {w : World} {v : Value} {e : TypeId} {rs : List Res}
/-- append of an element made since. -/
theorem Sep.push (hR : Kept R) (t ty : TypeId) (z : Value) (bytes : Nat) (ht : P.underlying t = some (.slice e)) (hinfo : (P.info? e).map (fun i => (i.zero, i.size, i.bytes)) = some (some z, 1, bytes)) (hz1 : z.cells = #[z])
    {xs : List α} {hh : Held (OwnOf e R)} (h : Sep lo w (Res.of (OwnOf e R) hh v xs :: rs)) (hlo : lo ≤ w.heap.size) {w1 : World} (hb : Below w.heap.size w w1) {q : Value} {x : α} (hq : New R w.heap.size w1 q x) {bb c : Nat} (hcell : w1.cell? ⟨bb, 0, none⟩ = some q) (hbytes : (xs.length + 1) * bytes ≤ 140737488355328) (h63 : xs.length + 1 ≤ 9223372036854775807) :
    ∃ v' w', (Builtin.append_ #[t, t] ty #[v, .slice (some ⟨bb, 0, none⟩) 1 c]).run P w1 = .ok v' w' ∧ Sep lo w' (Res.of (OwnOf e R) hh v' (xs ++ [x]) :: rs) ∧ Below lo w w' := by
  obtain ⟨G, hG, hf, hK⟩ := h.head
  obtain ⟨H, hH, hHn, hHg⟩ := hq
  have hG' : OwnOf e R w v xs G := hG
  have hltG := (OwnOf.kept (e := e) hR).lt _ _ _ _ hG'
  have hz := hb.size
  obtain ⟨v', w', F', hr, hF', hn', hs, hg, hv⟩ := push_run hR t ty e z bytes ht hinfo hz1 ((OwnOf.kept (e := e) hR).keep _ w1 _ _ _ hG' fun b hm => hb.block b (hltG b hm)) hf.1 hH hHn (fun b hm hm2 => by have := hltG b hm; have := hHg b hm2; omega) (c := c) hcell hbytes h63
  refine ⟨v', w', hr, hK w' (Res.of (OwnOf e R) hh v' (xs ++ [x])) F' hF' hn' (fun b hb2 => ?_) hlo fun b hlt hn => ?_, (hb.mono hlo).grown hg (by omega) fun k hk => hf.2 k (hv k hk)⟩
  · rcases hs b hb2 with h1 | h1 | h1
    · exact Or.inl h1
    · exact Or.inr (hHg b h1)
    · exact Or.inr (by omega)
  · exact (hg.block b (by omega) fun e => hn (hv b e.symm)).trans (hb.block b hlt)
end
/-- The second and the third change places. -/
theorem Sep.swap23 {lo : Nat} {w : World} {r s t : Res} {rs : List Res} (h : Sep lo w (r :: s :: t :: rs)) : Sep lo w (r :: t :: s :: rs) := h.third.swap
section
variable {P : Program} {α : Type} {R : OwnRel α} {lo : Nat} {w : World} {v u : Value} {e : TypeId} {rs : List Res}
/-- append of the second thing to the first. -/
theorem Sep.absorb (hR : Kept R) (t ty : TypeId) (z : Value) (bytes : Nat) (ht : P.underlying t = some (.slice e)) (hinfo : (P.info? e).map (fun i => (i.zero, i.size, i.bytes)) = some (some z, 1, bytes)) (hz1 : z.cells = #[z])
    {xs : List α} {y : α} {hh : Held (OwnOf e R)} {hr : Held R} (h : Sep lo w (Res.of (OwnOf e R) hh v xs :: Res.of R hr u y :: rs)) (hlo : lo ≤ w.heap.size) {w1 : World} (hb : Below w.heap.size w w1) {bb c : Nat} (hcell : w1.cell? ⟨bb, 0, none⟩ = some u) (hbytes : (xs.length + 1) * bytes ≤ 140737488355328) (h63 : xs.length + 1 ≤ 9223372036854775807) :
    ∃ v' w', (Builtin.append_ #[t, t] ty #[v, .slice (some ⟨bb, 0, none⟩) 1 c]).run P w1 = .ok v' w' ∧ Sep lo w' (Res.of (OwnOf e R) hh v' (xs ++ [y]) :: rs) ∧ Below lo w w' := by
  obtain ⟨F, ⟨G, H, e1, hG, G2, H2, e2, hG2, h3⟩, hn, hl⟩ := h
  subst e1 e2
  have hG' : OwnOf e R w v xs G := hG
  have hG2' : R w u y G2 := hG2
  have hnd := List.nodup_append.1 hn
  have hnd2 := List.nodup_append.1 hnd.2.1
  have hltG := (OwnOf.kept (e := e) hR).lt _ _ _ _ hG'
  have hltG2 := hR.lt _ _ _ _ hG2'
  have hlt3 := h3.lt
  have hz := hb.size
  obtain ⟨v', w', F', hr', hF', hn', hs, hg, hv⟩ := push_run hR t ty e z bytes ht hinfo hz1 ((OwnOf.kept (e := e) hR).keep _ w1 _ _ _ hG' fun b hm => hb.block b (hltG b hm)) hnd.1 (hR.keep _ w1 _ _ _ hG2' fun b hm => hb.block b (hltG2 b hm)) hnd2.1 (fun b hm hm2 => hnd.2.2 b hm b (List.mem_append_left _ hm2) rfl) (c := c) hcell hbytes h63
  refine ⟨v', w', hr', ⟨F' ++ H2, ⟨F', H2, rfl, hF', h3.keep fun b hm => ?_⟩, List.nodup_append.2 ⟨hn', hnd2.2.1, fun p hp q hq e3 => ?_⟩, fun b hm => ?_⟩, (hb.mono hlo).grown hg (by omega) fun k hk => hl k (List.mem_append_left _ (hv k hk))⟩
  · exact (hg.block b (by have := hlt3 b hm; omega) fun e3 => hnd.2.2 b (hv b e3.symm) b (List.mem_append_right _ hm) rfl).trans (hb.block b (hlt3 b hm))
  · subst e3
    rcases hs p hp with h | h | h
    · exact hnd.2.2 p h p (List.mem_append_right _ hq) rfl
    · exact hnd2.2.2 p h p hq rfl
    · have := hlt3 p hq; omega
  · rcases List.mem_append.1 hm with hm | hm
    · rcases hs b hm with h | h | h
      · exact hl b (List.mem_append_left _ h)
      · exact hl b (List.mem_append_right _ (List.mem_append_left _ h))
      · omega
    · exact hl b (List.mem_append_right _ (List.mem_append_right _ hm))
end
section
variable {P : Program} {α : Type} {lo sz : Nat} {f : α → List Value} {w : World} {v : Value} {e : TypeId} {rs : List Res}
/-- append of an element of sz plain cells that has been laid since. -/
theorem Sep.pushG (L : Lay sz f) (t ty : TypeId) (z : Value) (bytes : Nat) (ht : P.underlying t = some (.slice e)) (hinfo : (P.info? e).map (fun i => (i.zero, i.size, i.bytes)) = some (some z, sz, bytes)) (hz1 : z.cells.size = sz)
    {xs : List α} {hh : Held (RowG e sz f)} (h : Sep lo w (Res.of (RowG e sz f) hh v xs :: rs)) (hlo : lo ≤ w.heap.size) {w1 : World} (hb : Below w.heap.size w w1) (y : α) {bb : Nat} (c : Nat) (hcell : ∀ j u, (f y)[j]? = some u → w1.cell? ⟨bb, j, none⟩ = some u) (hbytes : (xs.length + 1) * bytes ≤ 140737488355328) (h63 : xs.length + 1 ≤ 9223372036854775807) :
    ∃ v' w', (Builtin.append_ #[t, t] ty #[v, .slice (some ⟨bb, 0, none⟩) 1 c]).run P w1 = .ok v' w' ∧ Sep lo w' (Res.of (RowG e sz f) hh v' (xs ++ [y]) :: rs) ∧ Below lo w w' := by
  obtain ⟨i, hi, hzz⟩ := Option.map_eq_some_iff.1 hinfo
  simp only [Prod.mk.injEq] at hzz
  obtain ⟨hz, hsz, hby⟩ := hzz
  obtain ⟨G, hG, hf, hK⟩ := h.head
  have hG1 : RowG e sz f w v xs G := hG
  obtain ⟨how, eG⟩ := hG1
  have hltG : ∀ b, v.ownBlock = some b → b < w.heap.size := fun b hb2 => (how.lt b hb2).2
  have how1 : w1.ownsRow 0 e sz v xs.length (xs.flatMap f) := ownsRow_keep how fun b hb2 => hb.block b (hltG b hb2)
  have hzw := hb.size
  obtain ⟨v', w', hrun, how', hg, _, hat⟩ := run_append_own_at (P := P) w1 0 t ty e i z sz bytes ht hi hz hsz hby hz1 L.pos v xs.length (xs.flatMap f) how1 ⟨bb, 0, none⟩ 1 c (f y) (by rw [L.len]; omega)
    (by
      intro j u' hj
      have := hcell j u' hj
      have e2 : (⟨bb, 0, none⟩ : Addr).add j = ⟨bb, j, none⟩ := by unfold Addr.add; split <;> simp_all
      rw [e2]
      exact this)
    (fun u' hu' => L.one y u' hu') h63 hbytes (Nat.zero_le _)
  refine ⟨v', w', hrun, hK w' (Res.of (RowG e sz f) hh v' (xs ++ [y])) v'.ownBlock.toList ⟨by simpa using how', rfl⟩ (by cases v'.ownBlock <;> simp) (fun b hb2 => ?_) hlo fun b hlt hn => ?_, (hb.mono hlo).grown hg (by omega) fun k hk => hf.2 k (by rw [eG]; simp [hk])⟩
  · simp at hb2
    rcases hat with hat | hat
    · rw [hat] at hb2; exact Or.inl (by rw [eG]; simp [hb2])
    · rw [hat] at hb2; simp at hb2; exact Or.inr (by omega)
  · refine (hg.block b (by omega) fun e2 => hn ?_).trans (hb.block b hlt)
    rw [eG]; simp [← e2]
end
end Go.Sd
end

section
/-
  Classes of the states of a resolving labelled graph: the two numberings (least states; counted) go together.  No program in sight.
-/
namespace Go.Proofs.Ytdohepngandajaa
open Go.RowKit Go.Deep Go.Sd

/-- Where a letter leads from a state, or -1. -/
def tgtI : List Arc3 → Int → Int → Int
  | [], _, _ => -1
  | a :: ys, p, x => if a.1 = p ∧ a.2.2 = x then a.2.1 else tgtI ys p x
def goB (c : Nat → Nat) (a b : Int) : Bool := !(decide (a < 0) != decide (b < 0) || (decide (0 ≤ a) && decide (c a.toNat ≠ c b.toNat)))
def likeB (xs : List Arc3) (L : Nat) (c : Nat → Nat) (p q : Nat) : Bool := allF (fun x => goB c (tgtI xs p x) (tgtI xs q x)) L 0
def sameB (xs : List Arc3) (L : Nat) (c : Nat → Nat) (p q : Nat) : Bool := decide (c p = c q) && likeB xs L c p q

theorem allF_of {f : Nat → Bool} : ∀ {m k : Nat}, (∀ j, j < m → f (k + j) = true) → allF f m k = true
  | 0, _, _ => rfl
  | m + 1, k, h => by
    show (if f k = true then allF f m (k + 1) else false) = true
    rw [if_pos (by simpa using h 0 (by omega))]
    exact allF_of (fun j hj => by rw [show k + 1 + j = k + (j + 1) by omega]; exact h (j + 1) (by omega))
theorem allF_iff {f : Nat → Bool} {m k : Nat} : allF f m k = true ↔ ∀ j, j < m → f (k + j) = true :=
  ⟨fun h j hj => allF_at h j hj, allF_of⟩

structure Eqv (E : Nat → Nat → Bool) : Prop where
  refl : ∀ p, E p p = true
  symm : ∀ {p q}, E p q = true → E q p = true
  trans : ∀ {p q r}, E p q = true → E q r = true → E p r = true

theorem goB_iff {c : Nat → Nat} {a b : Int} : goB c a b = true ↔ (a < 0 ↔ b < 0) ∧ (0 ≤ a → c a.toNat = c b.toNat) := by
  unfold goB
  by_cases h1 : a < 0 <;> by_cases h2 : b < 0 <;> by_cases h3 : c a.toNat = c b.toNat <;> simp [h1, h2, h3] <;> omega
theorem sameB_iff {xs : List Arc3} {L : Nat} {c : Nat → Nat} {p q : Nat} : sameB xs L c p q = true ↔ c p = c q ∧ ∀ x, x < L → goB c (tgtI xs p x) (tgtI xs q x) = true := by
  unfold sameB likeB
  rw [Bool.and_eq_true, decide_eq_true_eq, allF_iff]
  simp
theorem sameB_eqv (xs : List Arc3) (L : Nat) (c : Nat → Nat) : Eqv (sameB xs L c) := by
  refine ⟨fun p => sameB_iff.2 ⟨rfl, fun x _ => goB_iff.2 ⟨Iff.rfl, fun _ => rfl⟩⟩, ?_, ?_⟩
  · intro p q h
    obtain ⟨h1, h2⟩ := sameB_iff.1 h
    refine sameB_iff.2 ⟨h1.symm, fun x hx => ?_⟩
    obtain ⟨h3, h4⟩ := goB_iff.1 (h2 x hx)
    exact goB_iff.2 ⟨h3.symm, fun h5 => (h4 (by omega)).symm⟩
  · intro p q r h k
    obtain ⟨h1, h2⟩ := sameB_iff.1 h
    obtain ⟨k1, k2⟩ := sameB_iff.1 k
    refine sameB_iff.2 ⟨h1.trans k1, fun x hx => ?_⟩
    obtain ⟨h3, h4⟩ := goB_iff.1 (h2 x hx)
    obtain ⟨k3, k4⟩ := goB_iff.1 (k2 x hx)
    exact goB_iff.2 ⟨h3.trans k3, fun h5 => (h4 h5).trans (k4 (by omega))⟩
theorem sameB_congr {xs : List Arc3} {L : Nat} {c d : Nat → Nat} (h : ∀ i j, c i = c j ↔ d i = d j) : sameB xs L c = sameB xs L d := by
  funext p q
  have hg : ∀ a b, goB c a b = goB d a b := fun a b => by
    rw [Bool.eq_iff_iff, goB_iff, goB_iff, h]
  rw [Bool.eq_iff_iff, sameB_iff, sameB_iff, h]
  simp only [hg]

/-- The first index with a property, among m from k. -/
def upF (f : Nat → Bool) : Nat → Nat → Option Nat
  | 0, _ => none
  | m + 1, k => if f k = true then some k else upF f m (k + 1)
theorem upF_some {f : Nat → Bool} : ∀ {m k q : Nat}, upF f m k = some q → f q = true ∧ k ≤ q ∧ q < k + m ∧ ∀ j, k ≤ j → j < q → f j = false
  | m + 1, k, q, h => by
    unfold upF at h
    by_cases hk : f k = true
    · rw [if_pos hk] at h
      cases h
      exact ⟨hk, by omega, by omega, fun j h1 h2 => by omega⟩
    · rw [if_neg hk] at h
      obtain ⟨h1, h2, h3, h4⟩ := upF_some h
      refine ⟨h1, by omega, by omega, fun j h5 h6 => ?_⟩
      by_cases hj : j = k
      · subst hj; simpa using hk
      · exact h4 j (by omega) h6
theorem upF_none {f : Nat → Bool} : ∀ {m k : Nat}, upF f m k = none → ∀ j, k ≤ j → j < k + m → f j = false
  | 0, _, _, j, h1, h2 => by omega
  | m + 1, k, h, j, h1, h2 => by
    unfold upF at h
    by_cases hk : f k = true
    · rw [if_pos hk] at h; cases h
    · rw [if_neg hk] at h
      by_cases hj : j = k
      · subst hj; simpa using hk
      · exact upF_none h j (by omega) (by omega)

/-- The least state that is alike. -/
def lst1 (E : Nat → Nat → Bool) (p : Nat) : Nat := (upF (E p) p 0).getD p
theorem lst1_spec {E : Nat → Nat → Bool} (hE : Eqv E) (p : Nat) : lst1 E p ≤ p ∧ E p (lst1 E p) = true ∧ ∀ j, j < lst1 E p → E p j = false := by
  unfold lst1
  cases h : upF (E p) p 0 with
  | none => exact ⟨Nat.le_refl _, hE.refl p, fun j hj => upF_none h j (by omega) (by simp at hj; omega)⟩
  | some q =>
    obtain ⟨h1, h2, h3, h4⟩ := upF_some h
    exact ⟨by simp; omega, h1, fun j hj => h4 j (by omega) (by simpa using hj)⟩
theorem lst1_le {E : Nat → Nat → Bool} (hE : Eqv E) {p q : Nat} (h : E p q = true) : lst1 E p ≤ q := by
  refine Nat.le_of_not_lt fun hq => ?_
  rw [(lst1_spec hE p).2.2 q hq] at h; cases h
theorem lst1_iff {E : Nat → Nat → Bool} (hE : Eqv E) {p q : Nat} : lst1 E p = lst1 E q ↔ E p q = true := by
  refine ⟨fun h => ?_, fun h => Nat.le_antisymm ?_ ?_⟩
  · have h1 := (lst1_spec hE p).2.1
    rw [h] at h1
    exact hE.trans h1 (hE.symm (lst1_spec hE q).2.1)
  · exact lst1_le hE (hE.trans h (lst1_spec hE q).2.1)
  · exact lst1_le hE (hE.trans (hE.symm h) (lst1_spec hE p).2.1)
theorem lst1_idem {E : Nat → Nat → Bool} (hE : Eqv E) (p : Nat) : lst1 E (lst1 E p) = lst1 E p :=
  ((lst1_iff hE).2 (lst1_spec hE p).2.1).symm

/-- A numbering by least states. -/
structure Can (c : Nat → Nat) : Prop where
  le : ∀ p, c p ≤ p
  idem : ∀ p, c (c p) = c p
theorem lst1_can {E : Nat → Nat → Bool} (hE : Eqv E) : Can (lst1 E) := ⟨fun p => (lst1_spec hE p).1, lst1_idem hE⟩
theorem can0 : Can (fun _ => 0) := ⟨fun _ => Nat.zero_le _, fun _ => rfl⟩

/-- How many least states lie below. -/
def rk (c : Nat → Nat) : Nat → Nat
  | 0 => 0
  | v + 1 => rk c v + (if c v = v then 1 else 0)
def nmb (c : Nat → Nat) (p : Nat) : Nat := rk c (c p)
theorem rk_mono (c : Nat → Nat) {u v : Nat} (h : u ≤ v) : rk c u ≤ rk c v := by
  induction v with
  | zero => simp at h; subst h; exact Nat.le_refl _
  | succ v ih =>
    by_cases hu : u = v + 1
    · subst hu; exact Nat.le_refl _
    · exact Nat.le_trans (ih (by omega)) (by show rk c v ≤ rk c v + (if c v = v then 1 else 0); omega)
theorem rk_lt {c : Nat → Nat} {u v : Nat} (hu : c u = u) (h : u < v) : rk c u < rk c v := by
  have h1 : rk c (u + 1) ≤ rk c v := rk_mono c h
  have h2 : rk c (u + 1) = rk c u + 1 := by
    show rk c u + (if c u = u then 1 else 0) = _
    rw [if_pos hu]
  omega
theorem rk_le (c : Nat → Nat) : ∀ v, rk c v ≤ v
  | 0 => Nat.le_refl _
  | v + 1 => by have := rk_le c v; unfold rk; split <;> omega
theorem rk_congr {c d : Nat → Nat} : ∀ {v : Nat}, (∀ q, q < v → c q = d q) → rk c v = rk d v
  | 0, _ => rfl
  | v + 1, h => by
    unfold rk
    rw [rk_congr (fun q hq => h q (by omega)), h v (by omega)]
theorem nmb_iff {c : Nat → Nat} (hc : Can c) {i j : Nat} : nmb c i = nmb c j ↔ c i = c j := by
  refine ⟨fun h => ?_, fun h => by unfold nmb; rw [h]⟩
  unfold nmb at h
  rcases Nat.lt_trichotomy (c i) (c j) with h1 | h1 | h1
  · have := rk_lt (hc.idem i) h1; omega
  · exact h1
  · have := rk_lt (hc.idem j) h1; omega
theorem nmb_det {c d : Nat → Nat} (hc : Can c) (hd : Can d) {S : Nat} (h : ∀ p, p < S → nmb c p = nmb d p) : ∀ p, p < S → c p = d p := by
  intro p hp
  have h1 := hc.le p
  have h2 := hd.le p
  refine Nat.le_antisymm ?_ ?_
  · have h3 : nmb c (d p) = nmb c p := by rw [h _ (by omega), h _ hp]; exact (nmb_iff hd).2 (hd.idem p)
    have h4 := (nmb_iff hc).1 h3
    rw [← h4]; exact hc.le _
  · have h3 : nmb d (c p) = nmb d p := by rw [← h _ (by omega), ← h _ hp]; exact (nmb_iff hc).2 (hc.idem p)
    have h4 := (nmb_iff hd).1 h3
    rw [← h4]; exact hd.le _
theorem nmb_congr {c d : Nat → Nat} (hc : Can c) {S : Nat} (h : ∀ p, p < S → c p = d p) : ∀ p, p < S → nmb c p = nmb d p := by
  intro p hp
  unfold nmb
  rw [← h p hp]
  exact rk_congr fun q hq => h q (by have := hc.le p; omega)

/-- The numberings, one after the other. -/
def cls (xs : List Arc3) (L : Nat) : Nat → Nat → Nat
  | 0, _ => 0
  | k + 1, p => lst1 (sameB xs L (cls xs L k)) p
theorem cls_can (xs : List Arc3) (L : Nat) : ∀ k, Can (cls xs L k)
  | 0 => can0
  | _ + 1 => lst1_can (sameB_eqv _ _ _)
theorem same_nmb (xs : List Arc3) (L k : Nat) : sameB xs L (nmb (cls xs L k)) = sameB xs L (cls xs L k) :=
  sameB_congr fun _ _ => nmb_iff (cls_can xs L k)
theorem cls_up (xs : List Arc3) (L k p : Nat) : cls xs L k p ≤ cls xs L (k + 1) p := by
  have h := (lst1_spec (sameB_eqv xs L (cls xs L k)) p).2.1
  have h1 := (sameB_iff.1 h).1
  rw [h1]
  exact (cls_can xs L k).le _
def sumTo (c : Nat → Nat) : Nat → Nat
  | 0 => 0
  | n + 1 => sumTo c n + c n
theorem sumTo_le {c d : Nat → Nat} (h : ∀ p, c p ≤ d p) : ∀ n, sumTo c n ≤ sumTo d n
  | 0 => Nat.le_refl _
  | n + 1 => by have := sumTo_le h n; have := h n; unfold sumTo; omega
theorem sumTo_lt {c d : Nat → Nat} (h : ∀ p, c p ≤ d p) : ∀ {n p : Nat}, p < n → c p ≠ d p → sumTo c n < sumTo d n
  | n + 1, p, hp, hn => by
    have h1 := h n
    unfold sumTo
    by_cases hpn : p = n
    · subst hpn; have := sumTo_le h p; omega
    · have := sumTo_lt h (n := n) (p := p) (by omega) hn; omega
theorem sumTo_bd {c : Nat → Nat} (S : Nat) (h : ∀ p, c p ≤ p) : ∀ {n : Nat}, n ≤ S → sumTo c n ≤ n * S
  | 0, _ => Nat.zero_le _
  | n + 1, hn => by
    have := sumTo_bd S h (n := n) (by omega)
    have h1 := h n
    unfold sumTo
    rw [Nat.succ_mul]
    omega
def eqS (c d : Nat → Nat) (S : Nat) : Bool := allF (fun p => decide (c p = d p)) S 0
theorem eqS_iff {c d : Nat → Nat} {S : Nat} : eqS c d S = true ↔ ∀ p, p < S → c p = d p := by
  unfold eqS; rw [allF_iff]; simp
def clsF (xs : List Arc3) (L S : Nat) : Nat → Nat → Nat
  | 0, k => k
  | f + 1, k => if eqS (cls xs L k) (cls xs L (k + 1)) S = true then k else clsF xs L S f (k + 1)
def clsK (xs : List Arc3) (L S : Nat) : Nat := clsF xs L S (S * S + 1) 0
theorem clsF_spec (xs : List Arc3) (L S : Nat) : ∀ {f k : Nat}, S * S < f + k → k ≤ sumTo (cls xs L k) S → (∀ j, j < k → eqS (cls xs L j) (cls xs L (j + 1)) S = false) →
    eqS (cls xs L (clsF xs L S f k)) (cls xs L (clsF xs L S f k + 1)) S = true ∧ ∀ j, j < clsF xs L S f k → eqS (cls xs L j) (cls xs L (j + 1)) S = false
  | 0, k, h, h1, _ => by
    have h2 := sumTo_bd S (cls_can xs L k).le (Nat.le_refl S)
    omega
  | f + 1, k, h, h1, h2 => by
    unfold clsF
    by_cases he : eqS (cls xs L k) (cls xs L (k + 1)) S = true
    · rw [if_pos he]; exact ⟨he, h2⟩
    · rw [if_neg he]
      refine clsF_spec xs L S (by omega) ?_ ?_
      · have h3 : ∃ p, p < S ∧ cls xs L k p ≠ cls xs L (k + 1) p := by
          refine Classical.byContradiction fun hn => he (eqS_iff.2 fun p hp => Classical.byContradiction fun hq => hn ⟨p, hp, hq⟩)
        obtain ⟨p, hp, hq⟩ := h3
        have := sumTo_lt (cls_up xs L k) hp hq
        omega
      · intro j hj
        by_cases hjk : j = k
        · subst hjk; simpa using he
        · exact h2 j (by omega)
theorem clsK_spec (xs : List Arc3) (L S : Nat) : eqS (cls xs L (clsK xs L S)) (cls xs L (clsK xs L S + 1)) S = true ∧ ∀ j, j < clsK xs L S → eqS (cls xs L j) (cls xs L (j + 1)) S = false :=
  clsF_spec xs L S (by omega) (Nat.zero_le _) (fun j hj => by omega)
/-- The counted numberings stop changing when the others do. -/
theorem eqS_nmb (xs : List Arc3) (L S k : Nat) : eqS (nmb (cls xs L k)) (nmb (cls xs L (k + 1))) S = eqS (cls xs L k) (cls xs L (k + 1)) S := by
  rw [Bool.eq_iff_iff, eqS_iff, eqS_iff]
  exact ⟨nmb_det (cls_can xs L k) (cls_can xs L (k + 1)), nmb_congr (cls_can xs L k)⟩
/-- How the counted numbering goes on: found among those before, or a new one. -/
theorem nmb_next {E : Nat → Nat → Bool} (hE : Eqv E) (p : Nat) : nmb (lst1 E) p = match upF (E p) p 0 with | some q => nmb (lst1 E) q | none => rk (lst1 E) p := by
  cases h : upF (E p) p 0 with
  | none =>
    have h1 : lst1 E p = p := by unfold lst1; rw [h]; rfl
    show rk (lst1 E) (lst1 E p) = _
    rw [h1]
  | some q => exact (nmb_iff (lst1_can hE)).2 ((lst1_iff hE).2 (upF_some h).1)
theorem rk_next {E : Nat → Nat → Bool} (hE : Eqv E) (p : Nat) : rk (lst1 E) (p + 1) = match upF (E p) p 0 with | some _ => rk (lst1 E) p | none => rk (lst1 E) p + 1 := by
  show rk (lst1 E) p + (if lst1 E p = p then 1 else 0) = _
  cases h : upF (E p) p 0 with
  | none =>
    have h1 : lst1 E p = p := by unfold lst1; rw [h]; rfl
    rw [if_pos h1]
  | some q =>
    have h1 : lst1 E p = q := by unfold lst1; rw [h]; rfl
    have h2 := (upF_some h).2.2.1
    rw [if_neg (by omega)]; rfl
/-- The other numbering, from the last of those before to the first. -/
def dnF (f : Nat → Bool) (nx : Nat → Nat) : Nat → Nat → Nat
  | 0, v => v
  | q + 1, v => dnF f nx q (if f q = true then nx q else v)
theorem dnF_eq (f : Nat → Bool) (nx : Nat → Nat) : ∀ (m v : Nat), dnF f nx m v = match upF f m 0 with | some q => nx q | none => v := by
  have key : ∀ (m k : Nat), upF f (m + 1) k = match upF f m k with | some q => some q | none => if f (k + m) = true then some (k + m) else none := by
    intro m
    induction m with
    | zero => intro k; simp [upF]
    | succ m ih =>
      intro k
      rw [show upF f (m + 1 + 1) k = if f k = true then some k else upF f (m + 1) (k + 1) from rfl, show upF f (m + 1) k = if f k = true then some k else upF f m (k + 1) from rfl, ih]
      by_cases hk : f k = true
      · rw [if_pos hk, if_pos hk]
      · rw [if_neg hk, if_neg hk, show k + 1 + m = k + (m + 1) by omega]
  intro m
  induction m with
  | zero => intro v; rfl
  | succ m ih =>
    intro v
    rw [show dnF f nx (m + 1) v = dnF f nx m (if f m = true then nx m else v) from rfl, ih, key, Nat.zero_add]
    cases h : upF f m 0 with
    | none => by_cases hm : f m = true <;> simp [hm]
    | some q => rfl
theorem dnF_next {E : Nat → Nat → Bool} (hE : Eqv E) (p : Nat) : dnF (E p) (lst1 E) p p = lst1 E p := by
  rw [dnF_eq]
  cases h : upF (E p) p 0 with
  | none => unfold lst1; rw [h]; rfl
  | some q => exact ((lst1_iff hE).2 (upF_some h).1).symm
end Go.Proofs.Ytdohepngandajaa
end

section
/-
  Where a letter leads from a state of a resolving labelled graph: target, l15To.
-/
namespace Go.Proofs.Ytdohepngandajaa
open Go.RowKit Go.Deep Go.Sd
set_option linter.unusedSimpArgs false
theorem tgtI_at {xs : List Arc3} {k : Nat} {a : Arc3} (h : xs[k]? = some a) (p x : Int) : tgtI (xs.drop k) p x = if a.1 = p ∧ a.2.2 = x then a.2.1 else tgtI (xs.drop (k + 1)) p x := by
  obtain ⟨h1, h2⟩ := List.getElem?_eq_some_iff.1 h
  rw [List.drop_eq_getElem_cons h1, h2]; rfl
theorem tgtI_end {xs : List Arc3} {k : Nat} (h : xs.length ≤ k) (p x : Int) : tgtI (xs.drop k) p x = -1 := by
  rw [List.drop_eq_nil_of_le h]; rfl
set_option maxHeartbeats 4000000 in
set_option maxRecDepth 100000 in
theorem target_c {w : World} {v : Value} {l : Lb} (h : LabR w v l) (p x : Int) :
    Calls Try.prog 70 #[v, .int .i64 p, .int .i64 x] w fun e w' => e = .returned (.int .i64 (tgtI l.2.2 p x)) ∧ Below w.heap.size w w' := by
  obtain ⟨L, S, xs⟩ := l
  obtain ⟨va, rfl, hlen, a, c, rfl, _, _, _, hcell⟩ := h
  simp only at hcell hlen
  simp only
  obtain ⟨n, hn⟩ : ∃ n, n = xs.length := ⟨_, rfl⟩
  have Hn := Lib.hid hn
  rw [← hn] at hcell hlen ⊢
  clear hn
  obtain ⟨T, hT⟩ : ∃ T, T = tgtI xs p x := ⟨_, rfl⟩
  rw [← hT]
  have HT := Lib.hid (show T = tgtI (xs.drop 0) p x from hT)
  clear hT
  go_enter Try.func70, Try.ntmps70
  have q0 : (w.alloc (.cells #[.int .i64 L, .int .i64 S, .slice a n c] 28)).cell? ⟨w.heap.size, 2, none⟩ = some (.slice a n c) := by simp
  have hb1 : Below w.heap.size w (w.alloc (.cells #[.int .i64 L, .int .i64 S, .slice a n c] 28)) := (Below.refl _ _).alloc (Nat.le_refl _) _
  have m1 : w.heap.size < (w.alloc (.cells #[.int .i64 L, .int .i64 S, .slice a n c] 28)).heap.size := by simp
  go_wp2
  generalize w.alloc (.cells #[.int .i64 L, .int .i64 S, .slice a n c] 28) = w1 at *
  have Hb1 := Lib.hid hb1
  have hz := hb1.size
  go_loopg [12] n (fun g i wr => ∃ (k : Nat), i = .int .i64 k ∧ k + g = n ∧ Hid (T = tgtI (xs.drop k) p x) ∧ Below w1.heap.size w1 wr)
  case atStart => exact ⟨0, rfl, by omega, HT, Below.refl _ _⟩
  case round =>
    clear HT
    obtain ⟨k, rfl, hk, HK, hbel⟩ := hrel
    have hz2 := hbel.size
    have hwr : w.heap.size < wr.heap.size := by omega
    have Hbel := Lib.hid hbel
    by_cases hlt : k < n
    · obtain ⟨b, o, rfl, hb, hx0⟩ := hcell (by omega)
      obtain ⟨y, hy, _⟩ := at_lt (xs := xs) (k := k) (by have := Hn.out; omega)
      obtain ⟨f0, f1, f2⟩ := hx0 k y hy
      have g0 : wr.cell? ⟨b, o + k * 3, none⟩ = some (.int .i64 y.1) := (hbel.cell (p := ⟨b, o + k * 3, none⟩) (by simp; omega)).trans ((hb1.cell (p := ⟨b, o + k * 3, none⟩) hb).trans f0)
      have g1 : wr.cell? ⟨b, o + k * 3 + 1, none⟩ = some (.int .i64 y.2.1) := (hbel.cell (p := ⟨b, o + k * 3 + 1, none⟩) (by simp; omega)).trans ((hb1.cell (p := ⟨b, o + k * 3 + 1, none⟩) hb).trans f1)
      have g2 : wr.cell? ⟨b, o + k * 3 + 2, none⟩ = some (.int .i64 y.2.2) := (hbel.cell (p := ⟨b, o + k * 3 + 2, none⟩) (by simp; omega)).trans ((hb1.cell (p := ⟨b, o + k * 3 + 2, none⟩) hb).trans f2)
      have r2 : wr.cell? ⟨w.heap.size, 2, none⟩ = some (.slice (some ⟨b, o, none⟩) n c) := (hbel.cell (p := ⟨w.heap.size, 2, none⟩) m1).trans q0
      have hbr : b < wr.heap.size := by omega
      have HK2 := Lib.hid (show T = if y.1 = p ∧ y.2.2 = x then y.2.1 else tgtI (xs.drop (k + 1)) p x from by rw [HK.out]; exact tgtI_at hy p x)
      have hkn : (k : Int) < (n : Int) := by omega
      clear HK hx0 hcell hy f0 f1 f2 hbel hb1 q0 m1
      obtain ⟨y0, y1, y2⟩ := y
      simp only at g0 g1 g2 HK2
      obtain ⟨T2, hT2⟩ : ∃ T2, T2 = tgtI (xs.drop (k + 1)) p x := ⟨_, rfl⟩
      rw [← hT2] at HK2
      have HT2 := Lib.hid hT2
      clear hT2
      by_cases h1 : y0 = p
      · subst h1
        by_cases h2 : y2 = x
        · subst h2
          have HT3 := Lib.hid (show T = y1 from by rw [HK2.out, if_pos ⟨rfl, rfl⟩])
          clear HK2
          go_wp2
          go_ret
          exact ⟨by rw [HT3.out]; rfl, ((Hb1.out.trans (Hbel.out.mono hz)).alloc (Nat.le_of_lt hwr) _)⟩
        · have hne : (y2 == x) = false := by simpa using h2
          have HT3 := Lib.hid (show T = T2 from by rw [HK2.out, if_neg (fun hh => h2 hh.2)])
          clear HK2
          go_wp2
          go_roundg (n - (k + 1))
          case measure => omega
          case rel => exact ⟨k + 1, by go_num, by omega, Lib.hid (by rw [HT3.out, HT2.out]), Hbel.out.alloc hz2 _⟩
      · have hne : (y0 == p) = false := by simpa using h1
        have HT3 := Lib.hid (show T = T2 from by rw [HK2.out, if_neg (fun hh => h1 hh.1)])
        clear HK2
        go_wp2
        go_roundg (n - (k + 1))
        case measure => omega
        case rel => exact ⟨k + 1, by go_num, by omega, Lib.hid (by rw [HT3.out, HT2.out]), Hbel.out.alloc hz2 _⟩
    · have HT3 := Lib.hid (show T = -1 from by rw [HK.out]; exact tgtI_end (by have := Hn.out; omega) p x)
      have r2 : wr.cell? ⟨w.heap.size, 2, none⟩ = some (.slice a n c) := (hbel.cell (p := ⟨w.heap.size, 2, none⟩) m1).trans q0
      have hkn : ¬ ((k : Int) < (n : Int)) := by omega
      clear HK hcell hbel hb1 q0
      go_wp2
      go_ret
      exact ⟨by rw [HT3.out]; rfl, (Hb1.out.trans (Hbel.out.mono hz))⟩
set_option maxHeartbeats 4000000 in
set_option maxRecDepth 100000 in
theorem l15To_c {w : World} {v : Value} {l : Lb} (h : LabR w v l) (p x : Int) :
    Calls Try.prog 191 #[v, .int .i64 p, .int .i64 x] w fun e w' => e = .returned (.int .i64 (tgtI l.2.2 p x)) ∧ Below w.heap.size w w' := by
  obtain ⟨L, S, xs⟩ := l
  obtain ⟨va, rfl, hlen, a, c, rfl, _, _, _, hcell⟩ := h
  simp only at hcell hlen
  simp only
  obtain ⟨n, hn⟩ : ∃ n, n = xs.length := ⟨_, rfl⟩
  have Hn := Lib.hid hn
  rw [← hn] at hcell hlen ⊢
  clear hn
  obtain ⟨T, hT⟩ : ∃ T, T = tgtI xs p x := ⟨_, rfl⟩
  rw [← hT]
  have HT := Lib.hid (show T = tgtI (xs.drop 0) p x from hT)
  clear hT
  go_enter Try.func191, Try.ntmps191
  have q0 : (w.alloc (.cells #[.int .i64 L, .int .i64 S, .slice a n c] 28)).cell? ⟨w.heap.size, 2, none⟩ = some (.slice a n c) := by simp
  have hb1 : Below w.heap.size w (w.alloc (.cells #[.int .i64 L, .int .i64 S, .slice a n c] 28)) := (Below.refl _ _).alloc (Nat.le_refl _) _
  have m1 : w.heap.size < (w.alloc (.cells #[.int .i64 L, .int .i64 S, .slice a n c] 28)).heap.size := by simp
  go_wp2
  generalize w.alloc (.cells #[.int .i64 L, .int .i64 S, .slice a n c] 28) = w1 at *
  have Hb1 := Lib.hid hb1
  have hz := hb1.size
  go_loopg [7] n (fun g i wr => ∃ (k : Nat), i = .int .i64 k ∧ k + g = n ∧ Hid (T = tgtI (xs.drop k) p x) ∧ Below w1.heap.size w1 wr)
  case atStart => exact ⟨0, rfl, by omega, HT, Below.refl _ _⟩
  case round =>
    clear HT
    obtain ⟨k, rfl, hk, HK, hbel⟩ := hrel
    have hz2 := hbel.size
    have hwr : w.heap.size < wr.heap.size := by omega
    have Hbel := Lib.hid hbel
    by_cases hlt : k < n
    · obtain ⟨b, o, rfl, hb, hx0⟩ := hcell (by omega)
      obtain ⟨y, hy, _⟩ := at_lt (xs := xs) (k := k) (by have := Hn.out; omega)
      obtain ⟨f0, f1, f2⟩ := hx0 k y hy
      have g0 : wr.cell? ⟨b, o + k * 3, none⟩ = some (.int .i64 y.1) := (hbel.cell (p := ⟨b, o + k * 3, none⟩) (by simp; omega)).trans ((hb1.cell (p := ⟨b, o + k * 3, none⟩) hb).trans f0)
      have g1 : wr.cell? ⟨b, o + k * 3 + 1, none⟩ = some (.int .i64 y.2.1) := (hbel.cell (p := ⟨b, o + k * 3 + 1, none⟩) (by simp; omega)).trans ((hb1.cell (p := ⟨b, o + k * 3 + 1, none⟩) hb).trans f1)
      have g2 : wr.cell? ⟨b, o + k * 3 + 2, none⟩ = some (.int .i64 y.2.2) := (hbel.cell (p := ⟨b, o + k * 3 + 2, none⟩) (by simp; omega)).trans ((hb1.cell (p := ⟨b, o + k * 3 + 2, none⟩) hb).trans f2)
      have r2 : wr.cell? ⟨w.heap.size, 2, none⟩ = some (.slice (some ⟨b, o, none⟩) n c) := (hbel.cell (p := ⟨w.heap.size, 2, none⟩) m1).trans q0
      have hbr : b < wr.heap.size := by omega
      have HK2 := Lib.hid (show T = if y.1 = p ∧ y.2.2 = x then y.2.1 else tgtI (xs.drop (k + 1)) p x from by rw [HK.out]; exact tgtI_at hy p x)
      have hkn : (k : Int) < (n : Int) := by omega
      clear HK hx0 hcell hy f0 f1 f2 hbel hb1 q0 m1
      obtain ⟨y0, y1, y2⟩ := y
      simp only at g0 g1 g2 HK2
      obtain ⟨T2, hT2⟩ : ∃ T2, T2 = tgtI (xs.drop (k + 1)) p x := ⟨_, rfl⟩
      rw [← hT2] at HK2
      have HT2 := Lib.hid hT2
      clear hT2
      by_cases h1 : y0 = p
      · subst h1
        by_cases h2 : y2 = x
        · subst h2
          have HT3 := Lib.hid (show T = y1 from by rw [HK2.out, if_pos ⟨rfl, rfl⟩])
          clear HK2
          go_wp2
          go_ret
          exact ⟨by rw [HT3.out]; rfl, (Hb1.out.trans (Hbel.out.mono hz))⟩
        · have hne : (y2 == x) = false := by simpa using h2
          have HT3 := Lib.hid (show T = T2 from by rw [HK2.out, if_neg (fun hh => h2 hh.2)])
          clear HK2
          go_wp2
          go_roundg (n - (k + 1))
          case measure => omega
          case rel => exact ⟨k + 1, by go_num, by omega, Lib.hid (by rw [HT3.out, HT2.out]), Hbel.out⟩
      · have hne : (y0 == p) = false := by simpa using h1
        have HT3 := Lib.hid (show T = T2 from by rw [HK2.out, if_neg (fun hh => h1 hh.1)])
        clear HK2
        go_wp2
        go_roundg (n - (k + 1))
        case measure => omega
        case rel => exact ⟨k + 1, by go_num, by omega, Lib.hid (by rw [HT3.out, HT2.out]), Hbel.out⟩
    · have HT3 := Lib.hid (show T = -1 from by rw [HK.out]; exact tgtI_end (by have := Hn.out; omega) p x)
      have r2 : wr.cell? ⟨w.heap.size, 2, none⟩ = some (.slice a n c) := (hbel.cell (p := ⟨w.heap.size, 2, none⟩) m1).trans q0
      have hkn : ¬ ((k : Int) < (n : Int)) := by omega
      clear HK hcell hbel hb1 q0
      go_wp2
      go_ret
      exact ⟨by rw [HT3.out]; rfl, (Hb1.out.trans (Hbel.out.mono hz))⟩
end Go.Proofs.Ytdohepngandajaa
end

section
/-
  Small laws for walks: two boxed graphs; slices of numbers side by side.
-/
namespace Go.Sd
open Go.RowKit Go.Deep

/-- Two boxes laid one behind the other. -/
theorem boxB3_ex (w : World) (t1 t2 : TypeId) (u0 u1 u2 v0 v1 v2 : Value) : ∃ w', w' = (w.alloc (.cells #[u0, u1, u2] t1)).alloc (.cells #[v0, v1, v2] t2) ∧ Below w.heap.size w w' ∧ w'.heap.size = w.heap.size + 1 + 1 ∧
    (w'.cell? ⟨w.heap.size, 0, none⟩ = some u0 ∧ w'.cell? ⟨w.heap.size, 1, none⟩ = some u1 ∧ w'.cell? ⟨w.heap.size, 2, none⟩ = some u2) ∧
    (w'.cell? ⟨w.heap.size + 1, 0, none⟩ = some v0 ∧ w'.cell? ⟨w.heap.size + 1, 1, none⟩ = some v1 ∧ w'.cell? ⟨w.heap.size + 1, 2, none⟩ = some v2) :=
  ⟨_, rfl, ((Below.refl _ _).alloc (Nat.le_refl _) _).alloc (by simp) _, by simp, by simp [go_sem], by simp [go_sem]⟩
/-- A box's three cells. -/
def Box3 (w : World) (b : Nat) (u0 u1 u2 : Value) : Prop := b < w.heap.size ∧ w.cell? ⟨b, 0, none⟩ = some u0 ∧ w.cell? ⟨b, 1, none⟩ = some u1 ∧ w.cell? ⟨b, 2, none⟩ = some u2
theorem Box3.below {w w' : World} {b : Nat} {u0 u1 u2 : Value} (h : Box3 w b u0 u1 u2) {B : Nat} (hb : Below B w w') (hB : b < B) : Box3 w' b u0 u1 u2 :=
  ⟨Nat.lt_of_lt_of_le h.1 hb.size, (hb.cell (p := ⟨b, 0, none⟩) hB).trans h.2.1, (hb.cell (p := ⟨b, 1, none⟩) hB).trans h.2.2.1, (hb.cell (p := ⟨b, 2, none⟩) hB).trans h.2.2.2⟩
theorem nodup_single {lo : Nat} (b : Nat) (h : lo ≤ b) : Fresh lo [b] := by simp [Fresh]; exact h
theorem New.oneG {α : Type} {e : TypeId} {R : OwnRel α} (hR : Kept R) {lo : Nat} {w : World} {u : Value} {x : α} (h : New R lo w u x) (hlo : lo ≤ w.heap.size) :
    New (OwnOf e R) lo (w.alloc (.cells #[u] e)) (.slice (some ⟨w.heap.size, 0, none⟩) 1 1) [x] := by
  obtain ⟨F, hF, hn, hge⟩ := h
  have hlt := hR.lt _ _ _ _ hF
  refine ⟨w.heap.size :: F, ⟨[u], [F], ⟨by simp, .inr ⟨w.heap.size, 1, #[u], rfl, Nat.zero_le _, heap_alloc_new w _, Nat.le_refl _, by simp [maxLen], by simp, by simp⟩⟩, rfl, ?_, by simp [Value.ownBlock]⟩, List.nodup_cons.2 ⟨fun hm => by have := hlt _ hm; omega, hn⟩, fun b hb => by
    rcases List.mem_cons.1 hb with rfl | hb
    · exact hlo
    · exact hge b hb⟩
  intro i u' x' G hu hx hG
  cases i with
  | zero =>
    simp at hu hx hG
    subst hu hx hG
    exact hR.keep _ _ _ _ _ hF fun b hb' => ((Below.refl w.heap.size w).alloc (Nat.le_refl _) _).block b (hR.lt _ _ _ _ hF b hb')
  | succ i => simp at hu
/-- A slice literal of one number. -/
theorem New.oneInt {e : TypeId} (w : World) (x : Int) : New (OInts e) w.heap.size (w.alloc (.cells #[.int .i64 x] e)) (.slice (some ⟨w.heap.size, 0, none⟩) 1 1) [x] :=
  New.oneG OIntR.kept ⟨[], ⟨rfl, rfl⟩, by simp [Fresh]⟩ (Nat.le_refl _)
abbrev Res.ints (e : TypeId) (v : Value) (xs : List Int) : Res := Res.of (OInts e) (OInts.kept e).held v xs
/-- Where the numbers lie. -/
theorem Sep.intsAt {lo : Nat} {w : World} {e : TypeId} {v : Value} {xs : List Int} {rs : List Res} (h : Sep lo w (Res.ints e v xs :: rs)) : ∃ a c, v = .slice a xs.length c ∧ xs.length ≤ c ∧ (0 < xs.length → ∃ b, a = some ⟨b, 0, none⟩ ∧ b < w.heap.size ∧ ∀ i x, xs[i]? = some x → w.cell? ⟨b, i, none⟩ = some (.int .i64 x)) := by
  have hn := h.headNew
  obtain ⟨a, c, rfl, hc, _, h1⟩ := (New.ints hn).shape
  refine ⟨a, c, rfl, hc, fun h0 => ?_⟩
  obtain ⟨b, o, rfl, hb, hx⟩ := h1 h0
  obtain ⟨x0, hx0, _⟩ := at_lt h0
  obtain ⟨b', c', hv, _⟩ := hn.int_at hx0
  have e1 : b = b' ∧ o = 0 := by simp at hv; exact ⟨hv.1.1, hv.1.2⟩
  obtain ⟨rfl, rfl⟩ := e1
  refine ⟨b, rfl, hb, fun i x hi => ?_⟩
  obtain ⟨u, hu, rfl⟩ := hx i x hi
  simpa using hu
/-- append of a number, laid in a block of its own. -/
theorem Sep.pushInt {P : Program} {lo : Nat} {w : World} {e : TypeId} {v : Value} {xs : List Int} {rs : List Res} (t ty : TypeId) (ht : P.underlying t = some (.slice e)) (hinfo : (P.info? e).map (fun i => (i.zero, i.size, i.bytes)) = some (some (.int .i64 0), 1, 8))
    (h : Sep lo w (Res.ints e v xs :: rs)) (hlo : lo ≤ w.heap.size) (x : Int) (hl : xs.length ≤ 16777216) (el : TypeId) :
    ∃ a c w', (Builtin.append_ #[t, t] ty #[v, .slice (some ⟨w.heap.size, 0, none⟩) 1 1]).run P (w.alloc (.cells #[.int .i64 x] el)) = .ok (.slice a (xs ++ [x]).length c) w' ∧ Sep lo w' (Res.ints e (.slice a (xs ++ [x]).length c) (xs ++ [x]) :: rs) ∧ Below lo w w' := by
  obtain ⟨v', w', hr, hs, hb⟩ := Sep.push (P := P) OIntR.kept t ty (.int .i64 0) 8 ht hinfo rfl h hlo ((Below.refl _ _).alloc (Nat.le_refl _) (.cells #[.int .i64 x] el)) (q := .int .i64 x) (x := x) ⟨[], ⟨rfl, rfl⟩, by simp [Fresh]⟩ (bb := w.heap.size) (c := 1) (World.cell?_alloc_at _ _ _ 0 rfl) (by omega) (by omega)
  obtain ⟨a, c, rfl, _⟩ := hs.intsAt
  exact ⟨a, c, w', hr, hs, hb⟩
/-- A slice literal of one element of sz cells. -/
theorem New.oneRow {α : Type} {e : TypeId} {sz : Nat} {f : α → List Value} (L : Lay sz f) (w : World) (x : α) (hs : sz ≤ maxLen) : New (RowG e sz f) w.heap.size (w.alloc (.cells (f x).toArray e)) (.slice (some ⟨w.heap.size, 0, none⟩) 1 1) [x] :=
  ⟨[w.heap.size], ⟨⟨by simp [L.len], .inr ⟨w.heap.size, 1, (f x).toArray, rfl, Nat.zero_le _, heap_alloc_new w _, Nat.le_refl _, by simp [maxLen], by simp [L.len], by simp; exact List.take_of_length_le (by rw [L.len]; omega)⟩⟩, by simp [Value.ownBlock]⟩, by simp [Fresh]⟩
abbrev Res.row {α : Type} (e : TypeId) (sz : Nat) (f : α → List Value) (v : Value) (xs : List α) : Res := Res.of (RowG e sz f) RowG.held v xs
theorem Sep.rowAt {α : Type} {e : TypeId} {sz : Nat} {f : α → List Value} (L : Lay sz f) {lo : Nat} {w : World} {v : Value} {xs : List α} {rs : List Res} (h : Sep lo w (Res.row e sz f v xs :: rs)) : ∃ a c, v = .slice a xs.length c ∧ (0 < xs.length → ∃ b, a = some ⟨b, 0, none⟩ ∧ lo ≤ b ∧ b < w.heap.size ∧ ∀ i x j u, xs[i]? = some x → (f x)[j]? = some u → w.cell? ⟨b, i * sz + j, none⟩ = some u) := by
  have hn := h.headNew
  obtain ⟨a, c, rfl⟩ := hn.rowSlice
  refine ⟨a, c, rfl, fun h0 => ?_⟩
  obtain ⟨g, c', hv, _, _, hlo, hg, hx⟩ := hn.rowAt L h0
  simp at hv
  exact ⟨g, hv.1, hlo, hg, fun i x j u h1 h2 => (hx i x j u h1 h2).1⟩
theorem Sep.congr {lo : Nat} {w : World} {rs ss : List Res} (h : Sep lo w rs) (e : rs = ss) : Sep lo w ss := e ▸ h
end Go.Sd
end
