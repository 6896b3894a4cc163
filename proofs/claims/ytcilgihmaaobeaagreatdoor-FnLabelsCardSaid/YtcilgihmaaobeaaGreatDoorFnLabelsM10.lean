/-
  Laws for this claim's walks, contracts of the functions that it reaches.
-/
import Derived.Test.YtcilgihmaaobeaaGreatDoorFnLabelsM9
import Derived.Test.YtcilgihmaaobeaaGreatDoorFnLabelsM5
import Derived.Test.YtcilgihmaaobeaaGreatDoorFnLabelsM6
set_option linter.unusedVariables false
set_option linter.unusedSimpArgs false
section
namespace Go.Sd
open Go.RowKit Go.Deep

/-- A thing that lies in blocks: what it says, and that it looks at these blocks alone. -/
structure Res where
  p : World → List Nat → Prop
  keep : ∀ w w' F, p w F → (∀ b, b ∈ F → w'.heap[b]? = w.heap[b]?) → p w' F
  lt : ∀ w F, p w F → ∀ b, b ∈ F → b < w.heap.size

/-- An own value. -/
def Res.of {α : Type} (R : OwnRel α) (hR : Held R) (v : Value) (x : α) : Res := ⟨fun w F => R w v x F, fun _ _ _ h hk => hR.keep _ _ _ _ _ h hk, fun _ _ h b hb => hR.lt _ _ _ _ h b hb⟩

/-- A block that holds these cells. -/
def Cells (w : World) (b : Nat) (vs : List Value) : Prop := b < w.heap.size ∧ ∀ j u, vs[j]? = some u → w.cell? ⟨b, j, none⟩ = some u ∧ w.frozen? ⟨b, j, none⟩ = false
theorem Cells.same {w w' : World} {b : Nat} {vs : List Value} (h : Cells w b vs) (e : w'.heap[b]? = w.heap[b]?) : Cells w' b vs := by
  obtain ⟨h0, h1⟩ := h
  refine ⟨?_, fun j u hu => ?_⟩
  · have h3 : (w.heap[b]?).isSome = true := by simp [h0]
    rw [← e] at h3
    simpa using h3
  · obtain ⟨a1, a2⟩ := h1 j u hu
    refine ⟨?_, ?_⟩
    · rw [← a1]; simp [World.cell?, e]
    · rw [← a2]; simp [World.frozen?, e]
theorem Cells.store {w : World} {b : Nat} {vs : List Value} (h : Cells w b vs) {j : Nat} {u0 : Value} (hj : vs[j]? = some u0) (u : Value) : Cells (w.setCell ⟨b, j, none⟩ u) b (vs.set j u) := by
  obtain ⟨h0, h1⟩ := h
  have hl := (List.getElem?_eq_some_iff.1 hj).1
  refine ⟨by rw [World.size_setCell]; exact h0, fun i x hx => ?_⟩
  by_cases e : i = j
  · subst e
    rw [List.getElem?_set_self hl] at hx
    cases hx
    exact ⟨World.cell?_setCell_same _ _ _ (h1 i u0 hj).1, (World.frozen?_setCell _ _ _ _).trans (h1 i u0 hj).2⟩
  · rw [List.getElem?_set_ne (Ne.symm e)] at hx
    exact ⟨(World.cell?_setCell_other _ _ _ _ (by simp <;> omega)).trans (h1 i x hx).1, (World.frozen?_setCell _ _ _ _).trans (h1 i x hx).2⟩
def Res.box (b : Nat) (vs : List Value) : Res := ⟨fun w F => F = [b] ∧ Cells w b vs, fun _ _ _ h hk => ⟨h.1, h.2.same (hk b (by rw [h.1]; simp))⟩, fun _ _ h c hc => by rw [h.1] at hc; simp at hc; rw [hc]; exact h.2.1⟩

def SepF (w : World) : List Res → List Nat → Prop
  | [], F => F = []
  | r :: rs, F => ∃ G H, F = G ++ H ∧ r.p w G ∧ SepF w rs H
def Sep (lo : Nat) (w : World) (rs : List Res) : Prop := ∃ F, SepF w rs F ∧ Fresh lo F

theorem SepF.keep {w w' : World} : ∀ {rs : List Res} {F : List Nat}, SepF w rs F → (∀ b, b ∈ F → w'.heap[b]? = w.heap[b]?) → SepF w' rs F
  | [], _, h, _ => h
  | r :: rs, _, ⟨G, H, e, h1, h2⟩, hk => by
    subst e
    exact ⟨G, H, rfl, r.keep _ _ _ h1 fun b hb => hk b (List.mem_append_left _ hb), SepF.keep h2 fun b hb => hk b (List.mem_append_right _ hb)⟩
theorem SepF.lt {w : World} : ∀ {rs : List Res} {F : List Nat}, SepF w rs F → ∀ b, b ∈ F → b < w.heap.size
  | [], _, h, b, hb => by rw [show _ = [] from h] at hb; cases hb
  | r :: rs, _, ⟨G, H, e, h1, h2⟩, b, hb => by
    subst e
    rcases List.mem_append.1 hb with hb | hb
    · exact r.lt _ _ h1 b hb
    · exact SepF.lt h2 b hb
theorem Sep.nil (lo : Nat) (w : World) : Sep lo w [] := ⟨[], rfl, by simp [Fresh]⟩
/-- What is made since lies elsewhere. -/
theorem Sep.below {lo B : Nat} {w w' : World} {rs : List Res} (h : Sep lo w rs) (hb : Below B w w') (hB : w.heap.size ≤ B) : Sep lo w' rs := by
  obtain ⟨F, h1, h2⟩ := h
  exact ⟨F, h1.keep fun b hm => hb.block b (Nat.lt_of_lt_of_le (h1.lt b hm) hB), h2⟩
theorem Sep.cons {lo : Nat} {w w' : World} {rs : List Res} {r : Res} (h : Sep lo w rs) (hb : Below w.heap.size w w') (hlo : lo ≤ w.heap.size) {G : List Nat} (hr : r.p w' G) (hG : Fresh w.heap.size G) : Sep lo w' (r :: rs) := by
  obtain ⟨F, h1, h2, h3⟩ := h
  refine ⟨G ++ F, ⟨G, F, rfl, hr, h1.keep fun b hm => hb.block b (h1.lt b hm)⟩, List.nodup_append.2 ⟨hG.1, h2, fun p hp q hq e => ?_⟩, fun b hm => ?_⟩
  · subst e
    have := hG.2 p hp
    have := h1.lt p hq
    omega
  · rcases List.mem_append.1 hm with hm | hm
    · exact Nat.le_trans hlo (hG.2 b hm)
    · exact h3 b hm
/-- A new own value. -/
theorem Sep.new {α : Type} {R : OwnRel α} (hR : Held R) {lo : Nat} {w w' : World} {rs : List Res} (h : Sep lo w rs) (hb : Below w.heap.size w w') (hlo : lo ≤ w.heap.size) {v : Value} {x : α} (hn : New R w.heap.size w' v x) : Sep lo w' (Res.of R hR v x :: rs) := by
  obtain ⟨G, hG, hf⟩ := hn
  exact h.cons hb hlo (r := Res.of R hR v x) hG hf
theorem Sep.swap {lo : Nat} {w : World} {r s : Res} {rs : List Res} (h : Sep lo w (r :: s :: rs)) : Sep lo w (s :: r :: rs) := by
  obtain ⟨F, ⟨G, H, e1, h1, G2, H2, e2, h2, h3⟩, hn, hl⟩ := h
  subst e1 e2
  refine ⟨G2 ++ (G ++ H2), ⟨G2, _, rfl, h2, G, H2, rfl, h1, h3⟩, ?_, fun b hb => hl b ?_⟩
  · have hp : (G2 ++ (G ++ H2)).Perm (G ++ (G2 ++ H2)) := by
      rw [← List.append_assoc, ← List.append_assoc]
      exact List.Perm.append_right _ List.perm_append_comm
    exact hp.nodup_iff.2 hn
  · simp only [List.mem_append] at hb ⊢
    rcases hb with h | h | h
    · exact Or.inr (Or.inl h)
    · exact Or.inl h
    · exact Or.inr (Or.inr h)
theorem Sep.tail {lo : Nat} {w : World} {r : Res} {rs : List Res} (h : Sep lo w (r :: rs)) : Sep lo w rs := by
  obtain ⟨F, ⟨G, H, e1, h1, h2⟩, hn, hl⟩ := h
  subst e1
  exact ⟨H, h2, (List.nodup_append.1 hn).2.1, fun b hb => hl b (List.mem_append_right _ hb)⟩
/-- The third to the front. -/
theorem Sep.third {lo : Nat} {w : World} {r s t : Res} {rs : List Res} (h : Sep lo w (r :: s :: t :: rs)) : Sep lo w (t :: r :: s :: rs) := by
  obtain ⟨F, ⟨G, H, e1, h1, G2, H2, e2, h2, G3, H3, e3, h3, h4⟩, hn, hl⟩ := h
  subst e1 e2 e3
  have hp : (G3 ++ (G ++ (G2 ++ H3))).Perm (G ++ (G2 ++ (G3 ++ H3))) := by
    have h1 : (G3 ++ ((G ++ G2) ++ H3)).Perm ((G ++ G2) ++ (G3 ++ H3)) := by
      have h2 := List.Perm.append_right H3 (List.perm_append_comm (l₁ := G3) (l₂ := G ++ G2))
      simpa [List.append_assoc] using h2
    simpa [List.append_assoc] using h1
  exact ⟨_, ⟨G3, _, rfl, h3, G, _, rfl, h1, G2, H3, rfl, h2, h4⟩, hp.nodup_iff.2 hn, fun b hb => hl b (hp.mem_iff.1 hb)⟩
/-- The first turns, in its own blocks and new ones; the others stay. -/
theorem Sep.head {lo : Nat} {w : World} {r : Res} {rs : List Res} (h : Sep lo w (r :: rs)) :
    ∃ G, r.p w G ∧ Fresh lo G ∧ ∀ (w' : World) (r' : Res) (G' : List Nat), r'.p w' G' → G'.Nodup → (∀ b, b ∈ G' → b ∈ G ∨ w.heap.size ≤ b) → lo ≤ w.heap.size → (∀ b, b < w.heap.size → b ∉ G → w'.heap[b]? = w.heap[b]?) → Sep lo w' (r' :: rs) := by
  obtain ⟨F, ⟨G, H, e, h1, h2⟩, hn, hl⟩ := h
  subst e
  have hnd := List.nodup_append.1 hn
  refine ⟨G, h1, ⟨hnd.1, fun b hb => hl b (List.mem_append_left _ hb)⟩, fun w' r' G' hr' hn' hs hlo hk => ?_⟩
  have hlt := h2.lt
  refine ⟨G' ++ H, ⟨G', H, rfl, hr', h2.keep fun b hb => hk b (hlt b hb) fun hm => hnd.2.2 b hm b hb rfl⟩, List.nodup_append.2 ⟨hn', hnd.2.1, fun p hp q hq e => ?_⟩, fun b hb => ?_⟩
  · subst e
    rcases hs p hp with h | h
    · exact hnd.2.2 p h p hq rfl
    · have := hlt p hq; omega
  · rcases List.mem_append.1 hb with hb | hb
    · rcases hs b hb with h | h
      · exact hl b (List.mem_append_left _ h)
      · omega
    · exact hl b (List.mem_append_right _ hb)
theorem Sep.headNew {α : Type} {R : OwnRel α} {hR : Held R} {v : Value} {x : α} {lo : Nat} {w : World} {rs : List Res} (h : Sep lo w (Res.of R hR v x :: rs)) : New R lo w v x := by
  obtain ⟨G, h1, h2, _⟩ := h.head
  exact ⟨G, h1, h2⟩
theorem Sep.headBox {b : Nat} {vs : List Value} {lo : Nat} {w : World} {rs : List Res} (h : Sep lo w (Res.box b vs :: rs)) : lo ≤ b ∧ Cells w b vs := by
  obtain ⟨G, ⟨rfl, h1⟩, h2, _⟩ := h.head
  exact ⟨h2.2 b (by simp), h1⟩
/-- A store into a box. -/
theorem Sep.boxStore {b : Nat} {vs : List Value} {lo : Nat} {w : World} {rs : List Res} (h : Sep lo w (Res.box b vs :: rs)) (hlo : lo ≤ w.heap.size) {j : Nat} {u0 : Value} (hj : vs[j]? = some u0) (u : Value) : Sep lo (w.setCell ⟨b, j, none⟩ u) (Res.box b (vs.set j u) :: rs) := by
  obtain ⟨G, ⟨rfl, h1⟩, h2, hK⟩ := h.head
  exact hK _ (Res.box b (vs.set j u)) [b] ⟨rfl, h1.store hj u⟩ (by simp) (fun _ h => Or.inl h) hlo fun c _ hc => Below.heap_setCell _ _ _ _ (fun e => hc (by simp; exact e))
/-- A new box. -/
theorem Sep.boxNew {lo : Nat} {w : World} {rs : List Res} (h : Sep lo w rs) (hlo : lo ≤ w.heap.size) (vs : List Value) (ty : TypeId) : Sep lo (w.alloc (.cells vs.toArray ty)) (Res.box w.heap.size vs :: rs) := by
  refine h.cons ((Below.refl _ _).alloc (Nat.le_refl _) _) hlo (r := Res.box w.heap.size vs) (G := [w.heap.size]) ⟨rfl, by simp, fun j u hu => ?_⟩ (by simp [Fresh])
  have h2 : vs.toArray[j]? = some u := by simpa using hu
  constructor
  · exact (World.cell?_alloc_at _ _ _ j rfl).trans h2
  · exact World.frozen?_alloc_new w _ _ j
section
variable {P : Program} {α : Type} {R : OwnRel α} {lo : Nat} {w : World} {v : Value} {e : TypeId} {rs : List Res}
/-- append of an element made since. -/
theorem Sep.push (hR : Kept R) (t ty : TypeId) (z : Value) (bytes : Nat) (ht : P.underlying t = some (.slice e)) (hinfo : (P.info? e).map (fun i => (i.zero, i.size, i.bytes)) = some (some z, 1, bytes)) (hz1 : z.cells = #[z])
    {xs : List α} {hh : Held (OwnOf e R)} (h : Sep lo w (Res.of (OwnOf e R) hh v xs :: rs)) (hlo : lo ≤ w.heap.size) {w1 : World} (hb : Below w.heap.size w w1) {q : Value} {x : α} (hq : New R w.heap.size w1 q x) {bb c : Nat} (hcell : w1.cell? ⟨bb, 0, none⟩ = some q) (hbytes : (xs.length + 1) * bytes ≤ 140737488355328) (h63 : xs.length + 1 ≤ 9223372036854775807) :
    ∃ v' w', (Builtin.append_ #[t, t] ty #[v, .slice (some ⟨bb, 0, none⟩) 1 c]).run P w1 = .ok v' w' ∧ Sep lo w' (Res.of (OwnOf e R) hh v' (xs ++ [x]) :: rs) ∧ Below lo w w' := by
  obtain ⟨G, hG, hf, hK⟩ := h.head
  obtain ⟨H, hH, hHn, hHg⟩ := hq
  have hG' : OwnOf e R w v xs G := hG
  have hltG := (OwnOf.kept (e := e) hR).lt _ _ _ _ hG'
  have hz := hb.size
  obtain ⟨v', w', F', hr, hF', hn', hs, hg, hv⟩ := push_run hR t ty e z bytes ht hinfo hz1 ((OwnOf.kept (e := e) hR).keep _ w1 _ _ _ hG' fun b hm => hb.block b (hltG b hm)) hf.1 hH hHn (fun b hm hm2 => by have := hltG b hm; have := hHg b hm2; omega) (c := c) hcell hbytes h63
  refine ⟨v', w', hr, hK w' (Res.of (OwnOf e R) hh v' (xs ++ [x])) F' hF' hn' (fun b hb2 => ?_) hlo fun b hlt hn => ?_, (hb.mono hlo).grown hg (by omega) fun k hk => hf.2 k (hv k hk)⟩
  · rcases hs b hb2 with h1 | h1 | h1
    · exact Or.inl h1
    · exact Or.inr (hHg b h1)
    · exact Or.inr (by omega)
  · exact (hg.block b (by omega) fun e => hn (hv b e.symm)).trans (hb.block b hlt)
end
section
variable {P : Program} {α : Type} {R : OwnRel α} {lo : Nat} {w : World} {v u : Value} {e : TypeId} {rs : List Res}
/-- append of the second thing to the first. -/
theorem Sep.absorb (hR : Kept R) (t ty : TypeId) (z : Value) (bytes : Nat) (ht : P.underlying t = some (.slice e)) (hinfo : (P.info? e).map (fun i => (i.zero, i.size, i.bytes)) = some (some z, 1, bytes)) (hz1 : z.cells = #[z])
    {xs : List α} {y : α} {hh : Held (OwnOf e R)} {hr : Held R} (h : Sep lo w (Res.of (OwnOf e R) hh v xs :: Res.of R hr u y :: rs)) (hlo : lo ≤ w.heap.size) {w1 : World} (hb : Below w.heap.size w w1) {bb c : Nat} (hcell : w1.cell? ⟨bb, 0, none⟩ = some u) (hbytes : (xs.length + 1) * bytes ≤ 140737488355328) (h63 : xs.length + 1 ≤ 9223372036854775807) :
    ∃ v' w', (Builtin.append_ #[t, t] ty #[v, .slice (some ⟨bb, 0, none⟩) 1 c]).run P w1 = .ok v' w' ∧ Sep lo w' (Res.of (OwnOf e R) hh v' (xs ++ [y]) :: rs) ∧ Below lo w w' := by
  obtain ⟨F, ⟨G, H, e1, hG, G2, H2, e2, hG2, h3⟩, hn, hl⟩ := h
  subst e1 e2
  have hG' : OwnOf e R w v xs G := hG
  have hG2' : R w u y G2 := hG2
  have hnd := List.nodup_append.1 hn
  have hnd2 := List.nodup_append.1 hnd.2.1
  have hltG := (OwnOf.kept (e := e) hR).lt _ _ _ _ hG'
  have hltG2 := hR.lt _ _ _ _ hG2'
  have hlt3 := h3.lt
  have hz := hb.size
  obtain ⟨v', w', F', hr', hF', hn', hs, hg, hv⟩ := push_run hR t ty e z bytes ht hinfo hz1 ((OwnOf.kept (e := e) hR).keep _ w1 _ _ _ hG' fun b hm => hb.block b (hltG b hm)) hnd.1 (hR.keep _ w1 _ _ _ hG2' fun b hm => hb.block b (hltG2 b hm)) hnd2.1 (fun b hm hm2 => hnd.2.2 b hm b (List.mem_append_left _ hm2) rfl) (c := c) hcell hbytes h63
  refine ⟨v', w', hr', ⟨F' ++ H2, ⟨F', H2, rfl, hF', h3.keep fun b hm => ?_⟩, List.nodup_append.2 ⟨hn', hnd2.2.1, fun p hp q hq e3 => ?_⟩, fun b hm => ?_⟩, (hb.mono hlo).grown hg (by omega) fun k hk => hl k (List.mem_append_left _ (hv k hk))⟩
  · exact (hg.block b (by have := hlt3 b hm; omega) fun e3 => hnd.2.2 b (hv b e3.symm) b (List.mem_append_right _ hm) rfl).trans (hb.block b (hlt3 b hm))
  · subst e3
    rcases hs p hp with h | h | h
    · exact hnd.2.2 p h p (List.mem_append_right _ hq) rfl
    · exact hnd2.2.2 p h p hq rfl
    · have := hlt3 p hq; omega
  · rcases List.mem_append.1 hm with hm | hm
    · rcases hs b hm with h | h | h
      · exact hl b (List.mem_append_left _ h)
      · exact hl b (List.mem_append_right _ (List.mem_append_left _ h))
      · omega
    · exact hl b (List.mem_append_right _ (List.mem_append_right _ hm))
end
section
variable {P : Program} {α : Type} {lo sz : Nat} {f : α → List Value} {w : World} {v : Value} {e : TypeId} {rs : List Res}
/-- append of an element of sz plain cells that has been laid since. -/
theorem Sep.pushG (L : Lay sz f) (t ty : TypeId) (z : Value) (bytes : Nat) (ht : P.underlying t = some (.slice e)) (hinfo : (P.info? e).map (fun i => (i.zero, i.size, i.bytes)) = some (some z, sz, bytes)) (hz1 : z.cells.size = sz)
    {xs : List α} {hh : Held (RowG e sz f)} (h : Sep lo w (Res.of (RowG e sz f) hh v xs :: rs)) (hlo : lo ≤ w.heap.size) {w1 : World} (hb : Below w.heap.size w w1) (y : α) {bb : Nat} (c : Nat) (hcell : ∀ j u, (f y)[j]? = some u → w1.cell? ⟨bb, j, none⟩ = some u) (hbytes : (xs.length + 1) * bytes ≤ 140737488355328) (h63 : xs.length + 1 ≤ 9223372036854775807) :
    ∃ v' w', (Builtin.append_ #[t, t] ty #[v, .slice (some ⟨bb, 0, none⟩) 1 c]).run P w1 = .ok v' w' ∧ Sep lo w' (Res.of (RowG e sz f) hh v' (xs ++ [y]) :: rs) ∧ Below lo w w' := by
  obtain ⟨i, hi, hzz⟩ := Option.map_eq_some_iff.1 hinfo
  simp only [Prod.mk.injEq] at hzz
  obtain ⟨hz, hsz, hby⟩ := hzz
  obtain ⟨G, hG, hf, hK⟩ := h.head
  have hG1 : RowG e sz f w v xs G := hG
  obtain ⟨how, eG⟩ := hG1
  have hltG : ∀ b, v.ownBlock = some b → b < w.heap.size := fun b hb2 => (how.lt b hb2).2
  have how1 : w1.ownsRow 0 e sz v xs.length (xs.flatMap f) := ownsRow_keep how fun b hb2 => hb.block b (hltG b hb2)
  have hzw := hb.size
  obtain ⟨v', w', hrun, how', hg, _, hat⟩ := run_append_own_at (P := P) w1 0 t ty e i z sz bytes ht hi hz hsz hby hz1 L.pos v xs.length (xs.flatMap f) how1 ⟨bb, 0, none⟩ 1 c (f y) (by rw [L.len]; omega)
    (by
      intro j u' hj
      have := hcell j u' hj
      have e2 : (⟨bb, 0, none⟩ : Addr).add j = ⟨bb, j, none⟩ := by unfold Addr.add; split <;> simp_all
      rw [e2]
      exact this)
    (fun u' hu' => L.one y u' hu') h63 hbytes (Nat.zero_le _)
  refine ⟨v', w', hrun, hK w' (Res.of (RowG e sz f) hh v' (xs ++ [y])) v'.ownBlock.toList ⟨by simpa using how', rfl⟩ (by cases v'.ownBlock <;> simp) (fun b hb2 => ?_) hlo fun b hlt hn => ?_, (hb.mono hlo).grown hg (by omega) fun k hk => hf.2 k (by rw [eG]; simp [hk])⟩
  · simp at hb2
    rcases hat with hat | hat
    · rw [hat] at hb2; exact Or.inl (by rw [eG]; simp [hb2])
    · rw [hat] at hb2; simp at hb2; exact Or.inr (by omega)
  · refine (hg.block b (by omega) fun e2 => hn ?_).trans (hb.block b hlt)
    rw [eG]; simp [← e2]
end
end Go.Sd
end

section
namespace Go.Proofs.YtcilgihmaaobeaaGreatDoor
open Go.RowKit Go.Deep Go.Sd
set_option linter.unusedSimpArgs false
theorem slVal_kept {α : Type} {f : α → Value} (hf : ∀ x, (f x).oneCell' = true) : Kept (OValR f) := ⟨fun _ _ _ _ _ h _ => h, fun _ _ _ _ h b hb => by rw [h.2] at hb; simp at hb, fun _ _ _ _ h => by rw [h.1]; exact hf _⟩
theorem infoTx : (Tryz.prog.info? 9).map (fun i => (i.zero, i.size, i.bytes)) = some (some (.string ⟨#[]⟩), 1, 16) := by kernel_rfl
abbrev OTxt : OwnRel (List ByteArray) := OwnOf 9 (OValR Value.string)
abbrev TxtR : World → Value → List ByteArray → Prop := SlOf (ValR Value.string)
theorem New.txt {lo : Nat} {w : World} {v : Value} {xs : List ByteArray} (h : New OTxt lo w v xs) : TxtR w v xs := by obtain ⟨F, hF, _⟩ := h; exact OwnOf.reads (fun _ _ _ _ h => h.1) hF
def splitL (s : ByteArray) (c : Nat) : Nat → Nat → Nat → List ByteArray
  | 0, _, _ => []
  | g + 1, f, i => if h : i < s.size then (if s[i].toNat = c then s.extract f i :: splitL s c g (i + 1) (i + 1) else splitL s c g f (i + 1)) else s.extract f i :: splitL s c g (i + 1) (i + 1)
def splitB (s : ByteArray) (c : Nat) : List ByteArray := splitL s c (s.size + 1) 0 0
set_option maxHeartbeats 1000000 in
set_option maxRecDepth 100000 in
theorem SplitByte_c {w : World} {s : ByteArray} {c : Nat} (hs : s.size ≤ 1000) (hc : c < 256) :
    Calls Tryz.prog 119 #[.string s, .int .u8 c] w (Makes OTxt w (splitB s c)) := by
  have H0 := Lib.hid (show ([] : List ByteArray) ++ splitL s c (s.size + 1) 0 0 = splitB s c from rfl)
  generalize splitB s c = R at H0 ⊢
  have HN0 := Lib.hid (New.empty (e := 9) (R := OValR Value.string) w (Nat.le_refl w.heap.size))
  have HB0 := Lib.hid ((Below.refl w.heap.size w).alloc (Nat.le_refl _) (.cells #[] 9))
  go_enter Tryz.func119, Tryz.ntmps119
  go_wp2
  go_loopg [5, 6, 7] (s.size + 1) (fun g v fv iv wr => ∃ (f i : Nat) (L : List ByteArray), fv = .int .i64 f ∧ iv = .int .i64 i ∧ i + g = s.size + 1 ∧ f ≤ i ∧ L.length ≤ i ∧ Hid (L ++ splitL s c g f i = R) ∧ Hid (New OTxt w.heap.size wr v L) ∧ Hid (Below w.heap.size w wr))
  case atStart => exact ⟨0, 0, [], rfl, rfl, by omega, by omega, by simp, H0, HN0, HB0⟩
  case round =>
    clear H0 HN0 HB0
    obtain ⟨f, i, L, rfl, rfl, hi, hf, hL, HR, Hn, Hb⟩ := hrel
    obtain ⟨wk, rfl⟩ : ∃ x, x = wr := ⟨_, rfl⟩
    have hle := Hb.out.size
    obtain ⟨oa, oc, rfl, -⟩ := (New.txt Hn.out).shape
    by_cases hg : 0 < gk
    · obtain ⟨g, hgk⟩ : ∃ g, gk = g + 1 := ⟨gk - 1, by omega⟩
      subst hgk
      have hii : (i : Int) ≤ (s.size : Int) := by omega
      by_cases his : i < s.size
      · have hne : ((i : Int) == (s.size : Int)) = false := by simp; omega
        have hsi : (i : Int) < (s.size : Int) := by omega
        by_cases hcc : s[i].toNat = c
        · have t1 : ((s[i].toNat : Int) == (c : Int)) = true := by simp [hcc]
          have HR2 := Lib.hid (show (L ++ [s.extract f i]) ++ splitL s c g (i + 1) (i + 1) = R from by have h := HR.out; rw [splitL, dif_pos his, if_pos hcc] at h; rw [List.append_assoc]; exact h)
          clear HR hcc
          go_wp2_with (at_builtin; refine wpl_push (w0 := wk) (lo := w.heap.size) (y := s.extract f i) (slVal_kept fun _ => rfl) rfl (.tmp 26) (.tmp 31) 29 rfl 9 (.string ⟨#[]⟩) 16 Tryz.underlying29 infoTx rfl Hn.out hle ((Below.refl _ _).alloc (Nat.le_refl _) _) ⟨[], ⟨rfl, rfl⟩, by simp [Fresh]⟩ (bb := wk.heap.size) (c := 1) (by simp) rfl rfl (by omega) (by omega) ?_; intro v3 w3 hn3 _ _ hb3; have Hn3 := Lib.hid hn3; have Hb3 := Lib.hid hb3; clear hn3 hb3)
          go_roundg g
          case measure => omega
          case rel => exact ⟨i + 1, i + 1, _, by go_num, by go_num, by omega, by omega, by simp; omega, HR2, Hn3, Lib.hid (Hb.out.trans Hb3.out)⟩
        · have t1 : ((s[i].toNat : Int) == (c : Int)) = false := by simp; omega
          have HR2 := Lib.hid (show L ++ splitL s c g f (i + 1) = R from by have h := HR.out; rw [splitL, dif_pos his, if_neg hcc] at h; exact h)
          clear HR hcc
          go_wp2
          go_roundg g
          case measure => omega
          case rel => exact ⟨f, i + 1, L, rfl, by go_num, by omega, by omega, by omega, HR2, Hn, Hb⟩
      · have hie : i = s.size := by omega
        have heq : ((i : Int) == (s.size : Int)) = true := by simp [hie]
        have HR2 := Lib.hid (show (L ++ [s.extract f i]) ++ splitL s c g (i + 1) (i + 1) = R from by have h := HR.out; rw [splitL, dif_neg his] at h; rw [List.append_assoc]; exact h)
        clear HR hie
        go_wp2_with (at_builtin; refine wpl_push (w0 := wk) (lo := w.heap.size) (y := s.extract f i) (slVal_kept fun _ => rfl) rfl (.tmp 26) (.tmp 31) 29 rfl 9 (.string ⟨#[]⟩) 16 Tryz.underlying29 infoTx rfl Hn.out hle ((Below.refl _ _).alloc (Nat.le_refl _) _) ⟨[], ⟨rfl, rfl⟩, by simp [Fresh]⟩ (bb := wk.heap.size) (c := 1) (by simp) rfl rfl (by omega) (by omega) ?_; intro v3 w3 hn3 _ _ hb3; have Hn3 := Lib.hid hn3; have Hb3 := Lib.hid hb3; clear hn3 hb3)
        go_roundg g
        case measure => omega
        case rel => exact ⟨i + 1, i + 1, _, by go_num, by go_num, by omega, by omega, by simp; omega, HR2, Hn3, Lib.hid (Hb.out.trans Hb3.out)⟩
    · obtain rfl : gk = 0 := by omega
      have hii : ¬ ((i : Int) ≤ (s.size : Int)) := by omega
      have HF := Lib.hid (show L = R from by have h := HR.out; rw [splitL, List.append_nil] at h; exact h)
      clear HR
      go_wp2
      go_ret
      exact ⟨_, rfl, by rw [← HF.out]; exact Hn.out, Hb.out⟩
end Go.Proofs.YtcilgihmaaobeaaGreatDoor
end

section
namespace Go.Sd
open Go.RowKit Go.Deep

abbrev OwnCells (α : Type) := World → List Value → α → List Nat → Prop
section
variable {α : Type} {e : TypeId} {sz : Nat} {R : OwnCells α}
section
variable {P : Program} {lo : Nat} {w : World} {v : Value} {rs : List Res}
end
end
end Go.Sd
end

section
namespace Go.Sd
open Go.RowKit Go.Deep
theorem Sep.one {α : Type} {R : OwnRel α} (hR : Held R) {lo : Nat} {w : World} {v : Value} {x : α} (h : New R lo w v x) : Sep lo w [Res.of R hR v x] := by
  obtain ⟨F, hF, hf⟩ := h
  exact ⟨F, ⟨F, [], by simp, hF, rfl⟩, hf⟩
theorem Sep.get {lo : Nat} {w : World} : ∀ {rs : List Res} {r : Res}, Sep lo w rs → r ∈ rs → ∃ G, r.p w G ∧ ∀ b, b ∈ G → lo ≤ b
  | [], r, _, hm => by cases hm
  | s :: rs, r, h, hm => by
    rcases List.mem_cons.1 hm with rfl | hm
    · obtain ⟨G, h1, h2, _⟩ := h.head
      exact ⟨G, h1, h2.2⟩
    · exact Sep.get h.tail hm
theorem Sep.getBox {lo : Nat} {w : World} {rs : List Res} {b : Nat} {vs : List Value} (h : Sep lo w rs) (hm : Res.box b vs ∈ rs) : lo ≤ b ∧ Cells w b vs := by
  obtain ⟨G, ⟨rfl, h1⟩, h2⟩ := h.get hm
  exact ⟨h2 b (by simp), h1⟩
theorem SepF.perm {w : World} {rs ss : List Res} (hp : rs.Perm ss) : ∀ {F : List Nat}, SepF w rs F → ∃ F', F'.Perm F ∧ SepF w ss F' := by
  induction hp with
  | nil => exact fun h => ⟨_, List.Perm.refl _, h⟩
  | cons r _ ih =>
    rintro F ⟨G, H, rfl, h1, h2⟩
    obtain ⟨H', hp, h3⟩ := ih h2
    exact ⟨G ++ H', hp.append_left G, G, H', rfl, h1, h3⟩
  | swap r s l =>
    rintro F ⟨G, H, rfl, h1, G2, H2, rfl, h2, h3⟩
    refine ⟨G2 ++ (G ++ H2), ?_, G2, _, rfl, h2, G, H2, rfl, h1, h3⟩
    rw [← List.append_assoc, ← List.append_assoc]
    exact List.Perm.append_right _ List.perm_append_comm
  | trans _ _ ih1 ih2 =>
    intro F h
    obtain ⟨F1, p1, h1⟩ := ih1 h
    obtain ⟨F2, p2, h2⟩ := ih2 h1
    exact ⟨F2, p2.trans p1, h2⟩
theorem Sep.perm {lo : Nat} {w : World} {rs ss : List Res} (h : Sep lo w rs) (hp : rs.Perm ss) : Sep lo w ss := by
  obtain ⟨F, h1, hn, hl⟩ := h
  obtain ⟨F', p, h2⟩ := h1.perm hp
  exact ⟨F', h2, p.nodup_iff.2 hn, fun b hb => hl b (p.mem_iff.1 hb)⟩
/-- A thing comes to the front; goes back. -/
theorem Sep.front {lo : Nat} {w : World} (a : List Res) {r : Res} {b : List Res} (h : Sep lo w (a ++ r :: b)) : Sep lo w (r :: (a ++ b)) := h.perm List.perm_middle
end Go.Sd
end

section
namespace Go.Proofs.YtcilgihmaaobeaaGreatDoor
open Go.RowKit Go.Deep Go.Sd

def at3 (xs : List Arc3) (k : Nat) : Arc3 := xs.getD k (0, 0, 0)
theorem at3_of {xs : List Arc3} {k : Nat} {x : Arc3} (h : xs[k]? = some x) : at3 xs k = x := by simp [at3, List.getD, h]
def arcOk (L S : Int) (x : Arc3) : Bool := decide (0 ≤ x.1 ∧ x.1 < S ∧ 0 ≤ x.2.1 ∧ x.2.1 < S ∧ 0 ≤ x.2.2 ∧ x.2.2 < L)
def arcB (L S : Int) (xs : List Arc3) (k : Nat) : Bool := arcOk L S (at3 xs k) && (decide (k = 0) || before (at3 xs (k - 1)) (at3 xs k))
def isLab (l : Lb) : Bool := decide (1 ≤ l.1 ∧ l.1 ≤ 3) && (decide (1 ≤ l.2.1 ∧ l.2.1 ≤ 12) && allF (arcB l.1 l.2.1 l.2.2) l.2.2.length 0)

end Go.Proofs.YtcilgihmaaobeaaGreatDoor
end

section
namespace Go.Sd
open Go.RowKit Go.Deep

/-- A box's three cells. -/
def Box3 (w : World) (b : Nat) (u0 u1 u2 : Value) : Prop := b < w.heap.size ∧ w.cell? ⟨b, 0, none⟩ = some u0 ∧ w.cell? ⟨b, 1, none⟩ = some u1 ∧ w.cell? ⟨b, 2, none⟩ = some u2
theorem Box3.below {w w' : World} {b : Nat} {u0 u1 u2 : Value} (h : Box3 w b u0 u1 u2) {B : Nat} (hb : Below B w w') (hB : b < B) : Box3 w' b u0 u1 u2 :=
  ⟨Nat.lt_of_lt_of_le h.1 hb.size, (hb.cell (p := ⟨b, 0, none⟩) hB).trans h.2.1, (hb.cell (p := ⟨b, 1, none⟩) hB).trans h.2.2.1, (hb.cell (p := ⟨b, 2, none⟩) hB).trans h.2.2.2⟩
theorem New.oneG {α : Type} {e : TypeId} {R : OwnRel α} (hR : Kept R) {lo : Nat} {w : World} {u : Value} {x : α} (h : New R lo w u x) (hlo : lo ≤ w.heap.size) :
    New (OwnOf e R) lo (w.alloc (.cells #[u] e)) (.slice (some ⟨w.heap.size, 0, none⟩) 1 1) [x] := by
  obtain ⟨F, hF, hn, hge⟩ := h
  have hlt := hR.lt _ _ _ _ hF
  refine ⟨w.heap.size :: F, ⟨[u], [F], ⟨by simp, .inr ⟨w.heap.size, 1, #[u], rfl, Nat.zero_le _, heap_alloc_new w _, Nat.le_refl _, by simp [maxLen], by simp, by simp⟩⟩, rfl, ?_, by simp [Value.ownBlock]⟩, List.nodup_cons.2 ⟨fun hm => by have := hlt _ hm; omega, hn⟩, fun b hb => by
    rcases List.mem_cons.1 hb with rfl | hb
    · exact hlo
    · exact hge b hb⟩
  intro i u' x' G hu hx hG
  cases i with
  | zero =>
    simp at hu hx hG
    subst hu hx hG
    exact hR.keep _ _ _ _ _ hF fun b hb' => ((Below.refl w.heap.size w).alloc (Nat.le_refl _) _).block b (hR.lt _ _ _ _ hF b hb')
  | succ i => simp at hu
abbrev Res.ints (e : TypeId) (v : Value) (xs : List Int) : Res := Res.of (OInts e) (OInts.kept e).held v xs
/-- Where the numbers lie. -/
theorem Sep.intsAt {lo : Nat} {w : World} {e : TypeId} {v : Value} {xs : List Int} {rs : List Res} (h : Sep lo w (Res.ints e v xs :: rs)) : ∃ a c, v = .slice a xs.length c ∧ xs.length ≤ c ∧ (0 < xs.length → ∃ b, a = some ⟨b, 0, none⟩ ∧ b < w.heap.size ∧ ∀ i x, xs[i]? = some x → w.cell? ⟨b, i, none⟩ = some (.int .i64 x)) := by
  have hn := h.headNew
  obtain ⟨a, c, rfl, hc, _, h1⟩ := (New.ints hn).shape
  refine ⟨a, c, rfl, hc, fun h0 => ?_⟩
  obtain ⟨b, o, rfl, hb, hx⟩ := h1 h0
  obtain ⟨x0, hx0, _⟩ := at_lt h0
  obtain ⟨b', c', hv, _⟩ := hn.int_at hx0
  have e1 : b = b' ∧ o = 0 := by simp at hv; exact ⟨hv.1.1, hv.1.2⟩
  obtain ⟨rfl, rfl⟩ := e1
  refine ⟨b, rfl, hb, fun i x hi => ?_⟩
  obtain ⟨u, hu, rfl⟩ := hx i x hi
  simpa using hu
/-- append of a number, laid in a block of its own. -/
theorem Sep.pushInt {P : Program} {lo : Nat} {w : World} {e : TypeId} {v : Value} {xs : List Int} {rs : List Res} (t ty : TypeId) (ht : P.underlying t = some (.slice e)) (hinfo : (P.info? e).map (fun i => (i.zero, i.size, i.bytes)) = some (some (.int .i64 0), 1, 8))
    (h : Sep lo w (Res.ints e v xs :: rs)) (hlo : lo ≤ w.heap.size) (x : Int) (hl : xs.length ≤ 16777216) (el : TypeId) :
    ∃ a c w', (Builtin.append_ #[t, t] ty #[v, .slice (some ⟨w.heap.size, 0, none⟩) 1 1]).run P (w.alloc (.cells #[.int .i64 x] el)) = .ok (.slice a (xs ++ [x]).length c) w' ∧ Sep lo w' (Res.ints e (.slice a (xs ++ [x]).length c) (xs ++ [x]) :: rs) ∧ Below lo w w' := by
  obtain ⟨v', w', hr, hs, hb⟩ := Sep.push (P := P) OIntR.kept t ty (.int .i64 0) 8 ht hinfo rfl h hlo ((Below.refl _ _).alloc (Nat.le_refl _) (.cells #[.int .i64 x] el)) (q := .int .i64 x) (x := x) ⟨[], ⟨rfl, rfl⟩, by simp [Fresh]⟩ (bb := w.heap.size) (c := 1) (World.cell?_alloc_at _ _ _ 0 rfl) (by omega) (by omega)
  obtain ⟨a, c, rfl, _⟩ := hs.intsAt
  exact ⟨a, c, w', hr, hs, hb⟩
abbrev Res.row {α : Type} (e : TypeId) (sz : Nat) (f : α → List Value) (v : Value) (xs : List α) : Res := Res.of (RowG e sz f) RowG.held v xs
theorem Sep.rowAt {α : Type} {e : TypeId} {sz : Nat} {f : α → List Value} (L : Lay sz f) {lo : Nat} {w : World} {v : Value} {xs : List α} {rs : List Res} (h : Sep lo w (Res.row e sz f v xs :: rs)) : ∃ a c, v = .slice a xs.length c ∧ (0 < xs.length → ∃ b, a = some ⟨b, 0, none⟩ ∧ lo ≤ b ∧ b < w.heap.size ∧ ∀ i x j u, xs[i]? = some x → (f x)[j]? = some u → w.cell? ⟨b, i * sz + j, none⟩ = some u) := by
  have hn := h.headNew
  obtain ⟨a, c, rfl⟩ := hn.rowSlice
  refine ⟨a, c, rfl, fun h0 => ?_⟩
  obtain ⟨g, c', hv, _, _, hlo, hg, hx⟩ := hn.rowAt L h0
  simp at hv
  exact ⟨g, hv.1, hlo, hg, fun i x j u h1 h2 => (hx i x j u h1 h2).1⟩
end Go.Sd
end
