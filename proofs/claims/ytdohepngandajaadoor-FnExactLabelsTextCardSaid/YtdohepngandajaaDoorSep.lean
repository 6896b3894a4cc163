/-
  Many things of the call's own, side by side, each with blocks of its own.
-/
import Derived.Test.YtdohepngandajaaDoorBase
import Derived.Test.YtdohepngandajaaDoorApart
import Derived.Test.YtdohepngandajaaDoorLawKit
import Derived.Test.YtdohepngandajaaDoorLab
import Derived.Test.YtdohepngandajaaDoorLabO
import Derived.Test.YtdohepngandajaaDoorRowG
namespace Go.Sd
open Go.RowKit Go.Deep

/-- A thing that lies in blocks: what it says, and that it looks at these blocks alone. -/
structure Res where
  p : World → List Nat → Prop
  keep : ∀ w w' F, p w F → (∀ b, b ∈ F → w'.heap[b]? = w.heap[b]?) → p w' F
  lt : ∀ w F, p w F → ∀ b, b ∈ F → b < w.heap.size

/-- An own value. -/
def Res.of {α : Type} (R : OwnRel α) (hR : Held R) (v : Value) (x : α) : Res := ⟨fun w F => R w v x F, fun _ _ _ h hk => hR.keep _ _ _ _ _ h hk, fun _ _ h b hb => hR.lt _ _ _ _ h b hb⟩

/-- A block that holds these cells. -/
def Cells (w : World) (b : Nat) (vs : List Value) : Prop := b < w.heap.size ∧ ∀ j u, vs[j]? = some u → w.cell? ⟨b, j, none⟩ = some u ∧ w.frozen? ⟨b, j, none⟩ = false
theorem Cells.same {w w' : World} {b : Nat} {vs : List Value} (h : Cells w b vs) (e : w'.heap[b]? = w.heap[b]?) : Cells w' b vs := by
  obtain ⟨h0, h1⟩ := h
  refine ⟨?_, fun j u hu => ?_⟩
  · have h3 : (w.heap[b]?).isSome = true := by simp [h0]
    rw [← e] at h3
    simpa using h3
  · obtain ⟨a1, a2⟩ := h1 j u hu
    refine ⟨?_, ?_⟩
    · rw [← a1]; simp [World.cell?, e]
    · rw [← a2]; simp [World.frozen?, e]
theorem Cells.store {w : World} {b : Nat} {vs : List Value} (h : Cells w b vs) {j : Nat} {u0 : Value} (hj : vs[j]? = some u0) (u : Value) : Cells (w.setCell ⟨b, j, none⟩ u) b (vs.set j u) := by
  obtain ⟨h0, h1⟩ := h
  have hl := (List.getElem?_eq_some_iff.1 hj).1
  refine ⟨by rw [World.size_setCell]; exact h0, fun i x hx => ?_⟩
  by_cases e : i = j
  · subst e
    rw [List.getElem?_set_self hl] at hx
    cases hx
    exact ⟨World.cell?_setCell_same _ _ _ (h1 i u0 hj).1, (World.frozen?_setCell _ _ _ _).trans (h1 i u0 hj).2⟩
  · rw [List.getElem?_set_ne (Ne.symm e)] at hx
    exact ⟨(World.cell?_setCell_other _ _ _ _ (by simp <;> omega)).trans (h1 i x hx).1, (World.frozen?_setCell _ _ _ _).trans (h1 i x hx).2⟩
def Res.box (b : Nat) (vs : List Value) : Res := ⟨fun w F => F = [b] ∧ Cells w b vs, fun _ _ _ h hk => ⟨h.1, h.2.same (hk b (by rw [h.1]; simp))⟩, fun _ _ h c hc => by rw [h.1] at hc; simp at hc; rw [hc]; exact h.2.1⟩

def SepF (w : World) : List Res → List Nat → Prop
  | [], F => F = []
  | r :: rs, F => ∃ G H, F = G ++ H ∧ r.p w G ∧ SepF w rs H
def Sep (lo : Nat) (w : World) (rs : List Res) : Prop := ∃ F, SepF w rs F ∧ Fresh lo F

theorem SepF.keep {w w' : World} : ∀ {rs : List Res} {F : List Nat}, SepF w rs F → (∀ b, b ∈ F → w'.heap[b]? = w.heap[b]?) → SepF w' rs F
  | [], _, h, _ => h
  | r :: rs, _, ⟨G, H, e, h1, h2⟩, hk => by
    subst e
    exact ⟨G, H, rfl, r.keep _ _ _ h1 fun b hb => hk b (List.mem_append_left _ hb), SepF.keep h2 fun b hb => hk b (List.mem_append_right _ hb)⟩
theorem SepF.lt {w : World} : ∀ {rs : List Res} {F : List Nat}, SepF w rs F → ∀ b, b ∈ F → b < w.heap.size
  | [], _, h, b, hb => by rw [show _ = [] from h] at hb; cases hb
  | r :: rs, _, ⟨G, H, e, h1, h2⟩, b, hb => by
    subst e
    rcases List.mem_append.1 hb with hb | hb
    · exact r.lt _ _ h1 b hb
    · exact SepF.lt h2 b hb
theorem Sep.nil (lo : Nat) (w : World) : Sep lo w [] := ⟨[], rfl, by simp [Fresh]⟩
theorem Sep.mono {lo lo' : Nat} {w : World} {rs : List Res} (h : Sep lo w rs) (hl : lo' ≤ lo) : Sep lo' w rs := by
  obtain ⟨F, h1, h2, h3⟩ := h
  exact ⟨F, h1, h2, fun b hb => Nat.le_trans hl (h3 b hb)⟩
/-- What is made since lies elsewhere. -/
theorem Sep.below {lo B : Nat} {w w' : World} {rs : List Res} (h : Sep lo w rs) (hb : Below B w w') (hB : w.heap.size ≤ B) : Sep lo w' rs := by
  obtain ⟨F, h1, h2⟩ := h
  exact ⟨F, h1.keep fun b hm => hb.block b (Nat.lt_of_lt_of_le (h1.lt b hm) hB), h2⟩
theorem Sep.cons {lo : Nat} {w w' : World} {rs : List Res} {r : Res} (h : Sep lo w rs) (hb : Below w.heap.size w w') (hlo : lo ≤ w.heap.size) {G : List Nat} (hr : r.p w' G) (hG : Fresh w.heap.size G) : Sep lo w' (r :: rs) := by
  obtain ⟨F, h1, h2, h3⟩ := h
  refine ⟨G ++ F, ⟨G, F, rfl, hr, h1.keep fun b hm => hb.block b (h1.lt b hm)⟩, List.nodup_append.2 ⟨hG.1, h2, fun p hp q hq e => ?_⟩, fun b hm => ?_⟩
  · subst e
    have := hG.2 p hp
    have := h1.lt p hq
    omega
  · rcases List.mem_append.1 hm with hm | hm
    · exact Nat.le_trans hlo (hG.2 b hm)
    · exact h3 b hm
/-- A new own value. -/
theorem Sep.new {α : Type} {R : OwnRel α} (hR : Held R) {lo : Nat} {w w' : World} {rs : List Res} (h : Sep lo w rs) (hb : Below w.heap.size w w') (hlo : lo ≤ w.heap.size) {v : Value} {x : α} (hn : New R w.heap.size w' v x) : Sep lo w' (Res.of R hR v x :: rs) := by
  obtain ⟨G, hG, hf⟩ := hn
  exact h.cons hb hlo (r := Res.of R hR v x) hG hf
theorem Sep.swap {lo : Nat} {w : World} {r s : Res} {rs : List Res} (h : Sep lo w (r :: s :: rs)) : Sep lo w (s :: r :: rs) := by
  obtain ⟨F, ⟨G, H, e1, h1, G2, H2, e2, h2, h3⟩, hn, hl⟩ := h
  subst e1 e2
  refine ⟨G2 ++ (G ++ H2), ⟨G2, _, rfl, h2, G, H2, rfl, h1, h3⟩, ?_, fun b hb => hl b ?_⟩
  · have hp : (G2 ++ (G ++ H2)).Perm (G ++ (G2 ++ H2)) := by
      rw [← List.append_assoc, ← List.append_assoc]
      exact List.Perm.append_right _ List.perm_append_comm
    exact hp.nodup_iff.2 hn
  · simp only [List.mem_append] at hb ⊢
    rcases hb with h | h | h
    · exact Or.inr (Or.inl h)
    · exact Or.inl h
    · exact Or.inr (Or.inr h)
theorem Sep.tail {lo : Nat} {w : World} {r : Res} {rs : List Res} (h : Sep lo w (r :: rs)) : Sep lo w rs := by
  obtain ⟨F, ⟨G, H, e1, h1, h2⟩, hn, hl⟩ := h
  subst e1
  exact ⟨H, h2, (List.nodup_append.1 hn).2.1, fun b hb => hl b (List.mem_append_right _ hb)⟩
/-- The third to the front. -/
theorem Sep.third {lo : Nat} {w : World} {r s t : Res} {rs : List Res} (h : Sep lo w (r :: s :: t :: rs)) : Sep lo w (t :: r :: s :: rs) := by
  obtain ⟨F, ⟨G, H, e1, h1, G2, H2, e2, h2, G3, H3, e3, h3, h4⟩, hn, hl⟩ := h
  subst e1 e2 e3
  have hp : (G3 ++ (G ++ (G2 ++ H3))).Perm (G ++ (G2 ++ (G3 ++ H3))) := by
    have h1 : (G3 ++ ((G ++ G2) ++ H3)).Perm ((G ++ G2) ++ (G3 ++ H3)) := by
      have h2 := List.Perm.append_right H3 (List.perm_append_comm (l₁ := G3) (l₂ := G ++ G2))
      simpa [List.append_assoc] using h2
    simpa [List.append_assoc] using h1
  exact ⟨_, ⟨G3, _, rfl, h3, G, _, rfl, h1, G2, H3, rfl, h2, h4⟩, hp.nodup_iff.2 hn, fun b hb => hl b (hp.mem_iff.1 hb)⟩
/-- The first turns, in its own blocks and new ones; the others stay. -/
theorem Sep.head {lo : Nat} {w : World} {r : Res} {rs : List Res} (h : Sep lo w (r :: rs)) :
    ∃ G, r.p w G ∧ Fresh lo G ∧ ∀ (w' : World) (r' : Res) (G' : List Nat), r'.p w' G' → G'.Nodup → (∀ b, b ∈ G' → b ∈ G ∨ w.heap.size ≤ b) → lo ≤ w.heap.size → (∀ b, b < w.heap.size → b ∉ G → w'.heap[b]? = w.heap[b]?) → Sep lo w' (r' :: rs) := by
  obtain ⟨F, ⟨G, H, e, h1, h2⟩, hn, hl⟩ := h
  subst e
  have hnd := List.nodup_append.1 hn
  refine ⟨G, h1, ⟨hnd.1, fun b hb => hl b (List.mem_append_left _ hb)⟩, fun w' r' G' hr' hn' hs hlo hk => ?_⟩
  have hlt := h2.lt
  refine ⟨G' ++ H, ⟨G', H, rfl, hr', h2.keep fun b hb => hk b (hlt b hb) fun hm => hnd.2.2 b hm b hb rfl⟩, List.nodup_append.2 ⟨hn', hnd.2.1, fun p hp q hq e => ?_⟩, fun b hb => ?_⟩
  · subst e
    rcases hs p hp with h | h
    · exact hnd.2.2 p h p hq rfl
    · have := hlt p hq; omega
  · rcases List.mem_append.1 hb with hb | hb
    · rcases hs b hb with h | h
      · exact hl b (List.mem_append_left _ h)
      · omega
    · exact hl b (List.mem_append_right _ hb)
theorem Sep.headNew {α : Type} {R : OwnRel α} {hR : Held R} {v : Value} {x : α} {lo : Nat} {w : World} {rs : List Res} (h : Sep lo w (Res.of R hR v x :: rs)) : New R lo w v x := by
  obtain ⟨G, h1, h2, _⟩ := h.head
  exact ⟨G, h1, h2⟩
theorem Sep.headBox {b : Nat} {vs : List Value} {lo : Nat} {w : World} {rs : List Res} (h : Sep lo w (Res.box b vs :: rs)) : lo ≤ b ∧ Cells w b vs := by
  obtain ⟨G, ⟨rfl, h1⟩, h2, _⟩ := h.head
  exact ⟨h2.2 b (by simp), h1⟩
theorem Sep.apart {α β : Type} {R : OwnRel α} {S : OwnRel β} {hR : Held R} {hS : Held S} {v u : Value} {x : α} {y : β} {lo : Nat} {w : World} {rs : List Res} (h : Sep lo w (Res.of R hR v x :: Res.of S hS u y :: rs)) : Apart R S lo w v x u y := by
  obtain ⟨F, ⟨G, H, e1, hG, G2, H2, e2, hG2, h3⟩, hn, hl⟩ := h
  subst e1 e2
  have hnd := List.nodup_append.1 hn
  have hnd2 := List.nodup_append.1 hnd.2.1
  exact ⟨G, G2, hG, hG2, ⟨hnd.1, fun b hb => hl b (List.mem_append_left _ hb)⟩, ⟨hnd2.1, fun b hb => hl b (List.mem_append_right _ (List.mem_append_left _ hb))⟩, fun b hb hb2 => hnd.2.2 b hb b (List.mem_append_left _ hb2) rfl⟩
/-- A store into a box. -/
theorem Sep.boxStore {b : Nat} {vs : List Value} {lo : Nat} {w : World} {rs : List Res} (h : Sep lo w (Res.box b vs :: rs)) (hlo : lo ≤ w.heap.size) {j : Nat} {u0 : Value} (hj : vs[j]? = some u0) (u : Value) : Sep lo (w.setCell ⟨b, j, none⟩ u) (Res.box b (vs.set j u) :: rs) := by
  obtain ⟨G, ⟨rfl, h1⟩, h2, hK⟩ := h.head
  exact hK _ (Res.box b (vs.set j u)) [b] ⟨rfl, h1.store hj u⟩ (by simp) (fun _ h => Or.inl h) hlo fun c _ hc => Below.heap_setCell _ _ _ _ (fun e => hc (by simp; exact e))
/-- A new box. -/
theorem Sep.boxNew {lo : Nat} {w : World} {rs : List Res} (h : Sep lo w rs) (hlo : lo ≤ w.heap.size) (vs : List Value) (ty : TypeId) : Sep lo (w.alloc (.cells vs.toArray ty)) (Res.box w.heap.size vs :: rs) := by
  refine h.cons ((Below.refl _ _).alloc (Nat.le_refl _) _) hlo (r := Res.box w.heap.size vs) (G := [w.heap.size]) ⟨rfl, by simp, fun j u hu => ?_⟩ (by simp [Fresh])
  have h2 : vs.toArray[j]? = some u := by simpa using hu
  constructor
  · exact (World.cell?_alloc_at _ _ _ j rfl).trans h2
  · exact World.frozen?_alloc_new w _ _ j
section
variable {P : Program} {α : Type} {R : OwnRel α} {lo : Nat} {w : World} {v : Value} {e : TypeId} {rs : List Res}
/-- append of an element made since. -/
theorem Sep.push (hR : Kept R) (t ty : TypeId) (z : Value) (bytes : Nat) (ht : P.underlying t = some (.slice e)) (hinfo : (P.info? e).map (fun i => (i.zero, i.size, i.bytes)) = some (some z, 1, bytes)) (hz1 : z.cells = #[z])
    {xs : List α} {hh : Held (OwnOf e R)} (h : Sep lo w (Res.of (OwnOf e R) hh v xs :: rs)) (hlo : lo ≤ w.heap.size) {w1 : World} (hb : Below w.heap.size w w1) {q : Value} {x : α} (hq : New R w.heap.size w1 q x) {bb c : Nat} (hcell : w1.cell? ⟨bb, 0, none⟩ = some q) (hbytes : (xs.length + 1) * bytes ≤ 140737488355328) (h63 : xs.length + 1 ≤ 9223372036854775807) :
    ∃ v' w', (Builtin.append_ #[t, t] ty #[v, .slice (some ⟨bb, 0, none⟩) 1 c]).run P w1 = .ok v' w' ∧ Sep lo w' (Res.of (OwnOf e R) hh v' (xs ++ [x]) :: rs) ∧ Below lo w w' := by
  obtain ⟨G, hG, hf, hK⟩ := h.head
  obtain ⟨H, hH, hHn, hHg⟩ := hq
  have hG' : OwnOf e R w v xs G := hG
  have hltG := (OwnOf.kept (e := e) hR).lt _ _ _ _ hG'
  have hz := hb.size
  obtain ⟨v', w', F', hr, hF', hn', hs, hg, hv⟩ := push_run hR t ty e z bytes ht hinfo hz1 ((OwnOf.kept (e := e) hR).keep _ w1 _ _ _ hG' fun b hm => hb.block b (hltG b hm)) hf.1 hH hHn (fun b hm hm2 => by have := hltG b hm; have := hHg b hm2; omega) (c := c) hcell hbytes h63
  refine ⟨v', w', hr, hK w' (Res.of (OwnOf e R) hh v' (xs ++ [x])) F' hF' hn' (fun b hb2 => ?_) hlo fun b hlt hn => ?_, (hb.mono hlo).grown hg (by omega) fun k hk => hf.2 k (hv k hk)⟩
  · rcases hs b hb2 with h1 | h1 | h1
    · exact Or.inl h1
    · exact Or.inr (hHg b h1)
    · exact Or.inr (by omega)
  · exact (hg.block b (by omega) fun e => hn (hv b e.symm)).trans (hb.block b hlt)
end
/-- The second and the third change places. -/
theorem Sep.swap23 {lo : Nat} {w : World} {r s t : Res} {rs : List Res} (h : Sep lo w (r :: s :: t :: rs)) : Sep lo w (r :: t :: s :: rs) := h.third.swap
section
variable {P : Program} {α : Type} {R : OwnRel α} {lo : Nat} {w : World} {v u : Value} {e : TypeId} {rs : List Res}
/-- append of the second thing to the first. -/
theorem Sep.absorb (hR : Kept R) (t ty : TypeId) (z : Value) (bytes : Nat) (ht : P.underlying t = some (.slice e)) (hinfo : (P.info? e).map (fun i => (i.zero, i.size, i.bytes)) = some (some z, 1, bytes)) (hz1 : z.cells = #[z])
    {xs : List α} {y : α} {hh : Held (OwnOf e R)} {hr : Held R} (h : Sep lo w (Res.of (OwnOf e R) hh v xs :: Res.of R hr u y :: rs)) (hlo : lo ≤ w.heap.size) {w1 : World} (hb : Below w.heap.size w w1) {bb c : Nat} (hcell : w1.cell? ⟨bb, 0, none⟩ = some u) (hbytes : (xs.length + 1) * bytes ≤ 140737488355328) (h63 : xs.length + 1 ≤ 9223372036854775807) :
    ∃ v' w', (Builtin.append_ #[t, t] ty #[v, .slice (some ⟨bb, 0, none⟩) 1 c]).run P w1 = .ok v' w' ∧ Sep lo w' (Res.of (OwnOf e R) hh v' (xs ++ [y]) :: rs) ∧ Below lo w w' := by
  obtain ⟨F, ⟨G, H, e1, hG, G2, H2, e2, hG2, h3⟩, hn, hl⟩ := h
  subst e1 e2
  have hG' : OwnOf e R w v xs G := hG
  have hG2' : R w u y G2 := hG2
  have hnd := List.nodup_append.1 hn
  have hnd2 := List.nodup_append.1 hnd.2.1
  have hltG := (OwnOf.kept (e := e) hR).lt _ _ _ _ hG'
  have hltG2 := hR.lt _ _ _ _ hG2'
  have hlt3 := h3.lt
  have hz := hb.size
  obtain ⟨v', w', F', hr', hF', hn', hs, hg, hv⟩ := push_run hR t ty e z bytes ht hinfo hz1 ((OwnOf.kept (e := e) hR).keep _ w1 _ _ _ hG' fun b hm => hb.block b (hltG b hm)) hnd.1 (hR.keep _ w1 _ _ _ hG2' fun b hm => hb.block b (hltG2 b hm)) hnd2.1 (fun b hm hm2 => hnd.2.2 b hm b (List.mem_append_left _ hm2) rfl) (c := c) hcell hbytes h63
  refine ⟨v', w', hr', ⟨F' ++ H2, ⟨F', H2, rfl, hF', h3.keep fun b hm => ?_⟩, List.nodup_append.2 ⟨hn', hnd2.2.1, fun p hp q hq e3 => ?_⟩, fun b hm => ?_⟩, (hb.mono hlo).grown hg (by omega) fun k hk => hl k (List.mem_append_left _ (hv k hk))⟩
  · exact (hg.block b (by have := hlt3 b hm; omega) fun e3 => hnd.2.2 b (hv b e3.symm) b (List.mem_append_right _ hm) rfl).trans (hb.block b (hlt3 b hm))
  · subst e3
    rcases hs p hp with h | h | h
    · exact hnd.2.2 p h p (List.mem_append_right _ hq) rfl
    · exact hnd2.2.2 p h p hq rfl
    · have := hlt3 p hq; omega
  · rcases List.mem_append.1 hm with hm | hm
    · rcases hs b hm with h | h | h
      · exact hl b (List.mem_append_left _ h)
      · exact hl b (List.mem_append_right _ (List.mem_append_left _ h))
      · omega
    · exact hl b (List.mem_append_right _ (List.mem_append_right _ hm))
end
section
variable {P : Program} {α : Type} {lo sz : Nat} {f : α → List Value} {w : World} {v : Value} {e : TypeId} {rs : List Res}
/-- append of an element of sz plain cells that has been laid since. -/
theorem Sep.pushG (L : Lay sz f) (t ty : TypeId) (z : Value) (bytes : Nat) (ht : P.underlying t = some (.slice e)) (hinfo : (P.info? e).map (fun i => (i.zero, i.size, i.bytes)) = some (some z, sz, bytes)) (hz1 : z.cells.size = sz)
    {xs : List α} {hh : Held (RowG e sz f)} (h : Sep lo w (Res.of (RowG e sz f) hh v xs :: rs)) (hlo : lo ≤ w.heap.size) {w1 : World} (hb : Below w.heap.size w w1) (y : α) {bb : Nat} (c : Nat) (hcell : ∀ j u, (f y)[j]? = some u → w1.cell? ⟨bb, j, none⟩ = some u) (hbytes : (xs.length + 1) * bytes ≤ 140737488355328) (h63 : xs.length + 1 ≤ 9223372036854775807) :
    ∃ v' w', (Builtin.append_ #[t, t] ty #[v, .slice (some ⟨bb, 0, none⟩) 1 c]).run P w1 = .ok v' w' ∧ Sep lo w' (Res.of (RowG e sz f) hh v' (xs ++ [y]) :: rs) ∧ Below lo w w' := by
  obtain ⟨i, hi, hzz⟩ := Option.map_eq_some_iff.1 hinfo
  simp only [Prod.mk.injEq] at hzz
  obtain ⟨hz, hsz, hby⟩ := hzz
  obtain ⟨G, hG, hf, hK⟩ := h.head
  have hG1 : RowG e sz f w v xs G := hG
  obtain ⟨how, eG⟩ := hG1
  have hltG : ∀ b, v.ownBlock = some b → b < w.heap.size := fun b hb2 => (how.lt b hb2).2
  have how1 : w1.ownsRow 0 e sz v xs.length (xs.flatMap f) := ownsRow_keep how fun b hb2 => hb.block b (hltG b hb2)
  have hzw := hb.size
  obtain ⟨v', w', hrun, how', hg, _, hat⟩ := run_append_own_at (P := P) w1 0 t ty e i z sz bytes ht hi hz hsz hby hz1 L.pos v xs.length (xs.flatMap f) how1 ⟨bb, 0, none⟩ 1 c (f y) (by rw [L.len]; omega)
    (by
      intro j u' hj
      have := hcell j u' hj
      have e2 : (⟨bb, 0, none⟩ : Addr).add j = ⟨bb, j, none⟩ := by unfold Addr.add; split <;> simp_all
      rw [e2]
      exact this)
    (fun u' hu' => L.one y u' hu') h63 hbytes (Nat.zero_le _)
  refine ⟨v', w', hrun, hK w' (Res.of (RowG e sz f) hh v' (xs ++ [y])) v'.ownBlock.toList ⟨by simpa using how', rfl⟩ (by cases v'.ownBlock <;> simp) (fun b hb2 => ?_) hlo fun b hlt hn => ?_, (hb.mono hlo).grown hg (by omega) fun k hk => hf.2 k (by rw [eG]; simp [hk])⟩
  · simp at hb2
    rcases hat with hat | hat
    · rw [hat] at hb2; exact Or.inl (by rw [eG]; simp [hb2])
    · rw [hat] at hb2; simp at hb2; exact Or.inr (by omega)
  · refine (hg.block b (by omega) fun e2 => hn ?_).trans (hb.block b hlt)
    rw [eG]; simp [← e2]
end
end Go.Sd
