/-
  Texts of this claim joined: laws for its walks, contracts of the functions that the law reaches.
-/
import Derived.Test.YtcilgihmaaobeaaFnResolvedM1
import Derived.Maps.OwnSet
import Derived.Test.YtcilgihmaaobeaaRows
import Derived.Laws.BitsLemmas
import Derived.IntWalk
import Derived.Deep.RegionHeld3
import Derived.Deep.DeepCutAuto
set_option linter.unusedVariables false
set_option linter.unusedSimpArgs false
section
namespace Go.Sd
open Go.RowKit Go.Deep

/-- 'append(v, u)' by footprints, as a run of the builtin. -/
theorem push_run {P : Program} {w : World} {α : Type} {R : OwnRel α} (hR : Kept R) (t ty e : TypeId) (z : Value) (bytes : Nat) (ht : P.underlying t = some (.slice e)) (hinfo : (P.info? e).map (fun i => (i.zero, i.size, i.bytes)) = some (some z, 1, bytes)) (hz1 : z.cells = #[z])
    {v : Value} {xs : List α} {F : List Nat} (h0 : OwnOf e R w v xs F) (hnd : F.Nodup) {u : Value} {y : α} {G : List Nat} (hG : R w u y G) (hGn : G.Nodup) (hd : ∀ b, b ∈ F → b ∉ G)
    {bb c : Nat} (hcell : w.cell? ⟨bb, 0, none⟩ = some u) (hbytes : (xs.length + 1) * bytes ≤ 140737488355328) (h63 : xs.length + 1 ≤ 9223372036854775807) :
    ∃ v' w' F', (Builtin.append_ #[t, t] ty #[v, .slice (some ⟨bb, 0, none⟩) 1 c]).run P w = .ok v' w' ∧ OwnOf e R w' v' (xs ++ [y]) F' ∧ F'.Nodup ∧ (∀ b, b ∈ F' → b ∈ F ∨ b ∈ G ∨ w.heap.size ≤ b) ∧ w.grownBy w' v.ownBlock ∧ (∀ k, v.ownBlock = some k → k ∈ F) := by
  obtain ⟨i, hi, hzz⟩ := Option.map_eq_some_iff.1 hinfo
  simp only [Prod.mk.injEq] at hzz
  obtain ⟨hz, hsz, hby⟩ := hzz
  have hltF := (OwnOf.kept (e := e) hR).lt _ _ _ _ h0
  obtain ⟨us, Fs, how, hl, hr, rfl⟩ := h0
  have hul : us.length = xs.length := by simpa using how.1
  have hvF : ∀ k, v.ownBlock = some k → k ∈ v.ownBlock.toList ++ Fs.flatten := fun k hk => by simp [hk]
  obtain ⟨v', w', hrun, how', hg, _, hat⟩ := run_append_own_at (P := P) w 0 t ty e i z 1 bytes ht hi hz hsz hby (by rw [hz1]; rfl) (by decide) v xs.length us how ⟨bb, 0, none⟩ 1 c [u] (by simp)
    (by
      intro j u' hj
      match j, hj with
      | 0, hj =>
        simp at hj
        subst hj
        simpa [Addr.add] using hcell)
    (by
      intro u' hu'
      simp at hu'
      subst hu'
      exact hR.one _ _ _ _ hG) h63 hbytes (Nat.zero_le _)
  have hGlt : ∀ b, b ∈ G → b < w.heap.size := hR.lt _ _ _ _ hG
  have hnd' := List.nodup_append.1 hnd
  have hnv : ∀ k, v.ownBlock = some k → k ∉ Fs.flatten := fun k hk hm => hnd'.2.2 k (by simp [hk]) k hm rfl
  have hat' : ∀ k, v'.ownBlock = some k → v.ownBlock = some k ∨ w.heap.size ≤ k := by
    intro k hk
    rcases hat with hat | hat
    · rw [hat] at hk; exact Or.inl hk
    · rw [hat] at hk; simp at hk; exact Or.inr (by omega)
  refine ⟨v', w', v'.ownBlock.toList ++ (Fs ++ [G]).flatten, hrun, ⟨us ++ [u], Fs ++ [G], by simpa using how', by simp [hl], ?_, rfl⟩, ?_, ?_, hg, hvF⟩
  · intro j u' x' G' hu' hx' hG'
    by_cases hj : j < xs.length
    · rw [List.getElem?_append_left (by omega)] at hu' hx' hG'
      refine hR.keep _ _ _ _ _ (hr j u' x' G' hu' hx' hG') fun b hb' => ?_
      have hm : b ∈ Fs.flatten := List.mem_flatten_of_mem (List.mem_of_getElem? hG') hb'
      exact hg.block b (hltF b (List.mem_append_right _ hm)) (fun e => hnv b e.symm hm)
    · have hj2 : j = xs.length := by
        have := (List.getElem?_eq_some_iff.1 hx').1
        simp at this; omega
      subst hj2
      rw [List.getElem?_append_right (by omega)] at hu' hx' hG'
      simp [hul, hl] at hu' hx' hG'
      subst hu' hx' hG'
      exact hR.keep _ _ _ _ _ hG fun b hb' => hg.block b (hGlt b hb') fun e => hd b (hvF b e.symm) hb'
  · simp only [List.flatten_append, List.flatten_cons, List.flatten_nil, List.append_nil]
    refine List.nodup_append.2 ⟨by cases v'.ownBlock <;> simp, List.nodup_append.2 ⟨hnd'.2.1, hGn, ?_⟩, ?_⟩
    · intro p hp q hq e
      subst e
      exact hd p (List.mem_append_right _ hp) hq
    · intro p hp q hq e
      subst e
      simp at hp
      rcases hat' p hp with hk | hk
      · rcases List.mem_append.1 hq with hq | hq
        · exact hnv p hk hq
        · exact hd p (hvF p hk) hq
      · rcases List.mem_append.1 hq with hq | hq
        · have := hltF p (List.mem_append_right _ hq); omega
        · have := hGlt p hq; omega
  · intro b hb'
    rcases List.mem_append.1 hb' with hb' | hb'
    · simp at hb'
      rcases hat' b hb' with hk | hk
      · exact Or.inl (hvF b hk)
      · exact Or.inr (Or.inr hk)
    · simp at hb'
      rcases hb' with ⟨H, hH, hb'⟩ | hb'
      · exact Or.inl (List.mem_append_right _ (List.mem_flatten_of_mem hH hb'))
      · exact Or.inr (Or.inl hb')

/-- Two things of the call's own that share no block. -/
def Apart {α β : Type} (R : OwnRel α) (S : OwnRel β) (lo : Nat) (w : World) (v : Value) (x : α) (u : Value) (y : β) : Prop :=
  ∃ F G, R w v x F ∧ S w u y G ∧ Fresh lo F ∧ Fresh lo G ∧ ∀ b, b ∈ F → b ∉ G

section
variable {α β : Type} {R : OwnRel α} {S : OwnRel β} {lo : Nat} {w : World} {v u : Value} {x : α} {y : β}
end

section
variable {P : Program} {α β : Type} {R : OwnRel α} {S : OwnRel β} {lo : Nat} {w : World} {v u : Value} {e : TypeId}

end

end Go.Sd
end

section
namespace Go.Sd
open Go.RowKit Go.Deep
/-- Elements of sz cells each, given by f. -/
structure Lay {α : Type} (sz : Nat) (f : α → List Value) : Prop where
  pos : 0 < sz
  len : ∀ x, (f x).length = sz
  one : ∀ x u, u ∈ f x → u.oneCell' = true
def RowG {α : Type} (e : TypeId) (sz : Nat) (f : α → List Value) : OwnRel (List α) := fun w v xs F => w.ownsRow 0 e sz v xs.length (xs.flatMap f) ∧ F = v.ownBlock.toList
section
variable {α : Type} {e : TypeId} {sz : Nat} {f : α → List Value}
theorem flatMap_len (L : Lay sz f) : ∀ (xs : List α), (xs.flatMap f).length = xs.length * sz
  | [] => by simp
  | x :: xs => by simp only [List.flatMap_cons, List.length_append, List.length_cons, L.len, flatMap_len L xs, Nat.add_mul]; omega
theorem flatMap_at (L : Lay sz f) : ∀ {xs : List α} {i j : Nat} {x : α} {u : Value}, xs[i]? = some x → (f x)[j]? = some u → (xs.flatMap f)[i * sz + j]? = some u
  | [], i, j, x, u, h, _ => by simp at h
  | y :: xs, 0, j, x, u, h, hu => by
    simp at h
    subst h
    have hj := (List.getElem?_eq_some_iff.1 hu).1
    rw [List.flatMap_cons, Nat.zero_mul, Nat.zero_add, List.getElem?_append_left hj]
    exact hu
  | y :: xs, i + 1, j, x, u, h, hu => by
    have h2 : xs[i]? = some x := by simpa using h
    have ih := flatMap_at L h2 hu
    have e : (i + 1) * sz + j = (f y).length + (i * sz + j) := by rw [L.len, Nat.add_mul]; omega
    rw [List.flatMap_cons, e, List.getElem?_append_right (by omega), Nat.add_sub_cancel_left]
    exact ih
theorem RowG.held : Held (RowG e sz f) := by
  refine ⟨fun w w' v xs F ⟨h, eF⟩ hk => ?_, fun w v xs F ⟨h, eF⟩ b hb => ?_⟩
  · subst eF
    exact ⟨ownsRow_keep h fun b hb => hk b (by simp [hb]), rfl⟩
  · subst eF
    simp at hb
    exact (h.lt b hb).2
theorem RowG.nil {w : World} {lo : Nat} : New (RowG e sz f) lo w (.slice none 0 0) [] := ⟨[], ⟨World.ownsRow_nil _ _ _ _, rfl⟩, by simp [Fresh]⟩
theorem RowG.slice {w : World} {v : Value} {xs : List α} {F : List Nat} (h : RowG e sz f w v xs F) : ∃ a c, v = .slice a xs.length c := by
  rcases h.1.2 with ⟨rfl, h0⟩ | ⟨g, cap, cur, rfl, _⟩
  · exact ⟨none, 0, by rw [h0]⟩
  · exact ⟨_, _, rfl⟩
theorem RowG.at (L : Lay sz f) {w : World} {v : Value} {xs : List α} {F : List Nat} (h : RowG e sz f w v xs F) (h0 : 0 < xs.length) :
    ∃ g c, v = .slice (some ⟨g, 0, none⟩) xs.length c ∧ F = [g] ∧ xs.length ≤ c ∧ c ≤ maxLen ∧ g < w.heap.size ∧ ∀ i x j u, xs[i]? = some x → (f x)[j]? = some u → w.cell? ⟨g, i * sz + j, none⟩ = some u ∧ w.frozen? ⟨g, i * sz + j, none⟩ = false := by
  obtain ⟨h, rfl⟩ := h
  have hh := h
  rcases h.2 with ⟨rfl, h1⟩ | ⟨g, cap, cur, rfl, _, hg, h1, h2, h3, h4⟩
  · omega
  · refine ⟨g, cap, rfl, rfl, h1, h2, (hh.lt g rfl).2, fun i x j u hx hu => ⟨?_, ?_⟩⟩
    · have := hh.cells (g := g) rfl _ _ (flatMap_at L hx hu)
      have e : (⟨g, 0, none⟩ : Addr).add (i * sz + j) = ⟨g, i * sz + j, none⟩ := by unfold Addr.add; split <;> simp_all
      rw [e] at this
      exact this
    · have hc := hh.cells (g := g) rfl _ _ (flatMap_at L hx hu)
      simp [World.frozen?, hg]
theorem New.rowAt (L : Lay sz f) {lo : Nat} {w : World} {v : Value} {xs : List α} (h : New (RowG e sz f) lo w v xs) (h0 : 0 < xs.length) :
    ∃ g c, v = .slice (some ⟨g, 0, none⟩) xs.length c ∧ xs.length ≤ c ∧ c ≤ maxLen ∧ lo ≤ g ∧ g < w.heap.size ∧ ∀ i x j u, xs[i]? = some x → (f x)[j]? = some u → w.cell? ⟨g, i * sz + j, none⟩ = some u ∧ w.frozen? ⟨g, i * sz + j, none⟩ = false := by
  obtain ⟨F, hF, hn, hge⟩ := h
  obtain ⟨g, c, e, rfl, h1, h2, h3, h4⟩ := hF.at L h0
  exact ⟨g, c, e, h1, h2, hge g (by simp), h3, h4⟩
theorem New.rowSlice {lo : Nat} {w : World} {v : Value} {xs : List α} (h : New (RowG e sz f) lo w v xs) : ∃ a c, v = .slice a xs.length c := by
  obtain ⟨F, hF, _⟩ := h; exact hF.slice
section
variable {P : Program} {w : World} {ops : Array Oper} {rest : List Oper} {o : Oper} {a : Act} {Q : Exit → Act → World → Prop}
end
end
def acell (x : Arc3) : List Value := [.int .i64 x.1, .int .i64 x.2.1, .int .i64 x.2.2]
theorem acell_lay : Lay 3 acell := ⟨by decide, fun _ => rfl, fun x u hu => by
  simp [acell] at hu
  rcases hu with rfl | rfl | rfl <;> rfl⟩
abbrev RowA (e : TypeId) : OwnRel (List Arc3) := RowG e 3 acell
theorem RowG.arcs {e : TypeId} {w : World} {v : Value} {xs : List Arc3} {F : List Nat} (h : RowA e w v xs F) : OArcs w v xs F := by
  by_cases h0 : 0 < xs.length
  · obtain ⟨g, c, rfl, rfl, h1, h2, h3, h4⟩ := RowG.at acell_lay h h0
    have h2' : c ≤ 9223372036854775807 := h2
    refine ⟨by omega, Or.inr ⟨g, c, rfl, h1, h2', rfl, h3, fun j hj => ?_⟩⟩
    obtain ⟨x, hx, _⟩ := at_lt (xs := xs) (k := j / 3) (by omega)
    have hg : xs.getD (j / 3) (0, 0, 0) = x := by simp [List.getD, hx]
    have e : j / 3 * 3 + j % 3 = j := by omega
    have key : arcF xs xs.length j = comp (j % 3) x := by unfold arcF; rw [if_pos (by omega), hg]
    rw [key]
    have h5 := h4 (j / 3) x (j % 3) (.int .i64 (comp (j % 3) x)) hx (by
      have h3 : j % 3 = 0 ∨ j % 3 = 1 ∨ j % 3 = 2 := by omega
      rcases h3 with h3 | h3 | h3 <;> rw [h3] <;> rfl)
    rw [e] at h5
    exact h5
  · have e0 : xs = [] := List.eq_nil_of_length_eq_zero (by omega)
    subst e0
    obtain ⟨h, rfl⟩ := h
    rcases h.2 with ⟨rfl, _⟩ | ⟨g, cap, cur, rfl, _, hg, h1, h2, _, _⟩
    · exact ⟨by simp, Or.inl ⟨rfl, rfl, rfl⟩⟩
    · have h2' : cap ≤ 9223372036854775807 := h2
      exact ⟨by simp, Or.inr ⟨g, cap, rfl, h1, h2', rfl, (h.lt g rfl).2, fun j hj => by simp at hj⟩⟩
end Go.Sd
end

section
namespace Go.Sd
open Go.RowKit Go.Deep

/-- A thing that lies in blocks: what it says, and that it looks at these blocks alone. -/
structure Res where
  p : World → List Nat → Prop
  keep : ∀ w w' F, p w F → (∀ b, b ∈ F → w'.heap[b]? = w.heap[b]?) → p w' F
  lt : ∀ w F, p w F → ∀ b, b ∈ F → b < w.heap.size

/-- An own value. -/
def Res.of {α : Type} (R : OwnRel α) (hR : Held R) (v : Value) (x : α) : Res := ⟨fun w F => R w v x F, fun _ _ _ h hk => hR.keep _ _ _ _ _ h hk, fun _ _ h b hb => hR.lt _ _ _ _ h b hb⟩

/-- A block that holds these cells. -/
def Cells (w : World) (b : Nat) (vs : List Value) : Prop := b < w.heap.size ∧ ∀ j u, vs[j]? = some u → w.cell? ⟨b, j, none⟩ = some u ∧ w.frozen? ⟨b, j, none⟩ = false
theorem Cells.same {w w' : World} {b : Nat} {vs : List Value} (h : Cells w b vs) (e : w'.heap[b]? = w.heap[b]?) : Cells w' b vs := by
  obtain ⟨h0, h1⟩ := h
  refine ⟨?_, fun j u hu => ?_⟩
  · have h3 : (w.heap[b]?).isSome = true := by simp [h0]
    rw [← e] at h3
    simpa using h3
  · obtain ⟨a1, a2⟩ := h1 j u hu
    refine ⟨?_, ?_⟩
    · rw [← a1]; simp [World.cell?, e]
    · rw [← a2]; simp [World.frozen?, e]
theorem Cells.store {w : World} {b : Nat} {vs : List Value} (h : Cells w b vs) {j : Nat} {u0 : Value} (hj : vs[j]? = some u0) (u : Value) : Cells (w.setCell ⟨b, j, none⟩ u) b (vs.set j u) := by
  obtain ⟨h0, h1⟩ := h
  have hl := (List.getElem?_eq_some_iff.1 hj).1
  refine ⟨by rw [World.size_setCell]; exact h0, fun i x hx => ?_⟩
  by_cases e : i = j
  · subst e
    rw [List.getElem?_set_self hl] at hx
    cases hx
    exact ⟨World.cell?_setCell_same _ _ _ (h1 i u0 hj).1, (World.frozen?_setCell _ _ _ _).trans (h1 i u0 hj).2⟩
  · rw [List.getElem?_set_ne (Ne.symm e)] at hx
    exact ⟨(World.cell?_setCell_other _ _ _ _ (by simp <;> omega)).trans (h1 i x hx).1, (World.frozen?_setCell _ _ _ _).trans (h1 i x hx).2⟩
def Res.box (b : Nat) (vs : List Value) : Res := ⟨fun w F => F = [b] ∧ Cells w b vs, fun _ _ _ h hk => ⟨h.1, h.2.same (hk b (by rw [h.1]; simp))⟩, fun _ _ h c hc => by rw [h.1] at hc; simp at hc; rw [hc]; exact h.2.1⟩

def SepF (w : World) : List Res → List Nat → Prop
  | [], F => F = []
  | r :: rs, F => ∃ G H, F = G ++ H ∧ r.p w G ∧ SepF w rs H
def Sep (lo : Nat) (w : World) (rs : List Res) : Prop := ∃ F, SepF w rs F ∧ Fresh lo F

theorem SepF.keep {w w' : World} : ∀ {rs : List Res} {F : List Nat}, SepF w rs F → (∀ b, b ∈ F → w'.heap[b]? = w.heap[b]?) → SepF w' rs F
  | [], _, h, _ => h
  | r :: rs, _, ⟨G, H, e, h1, h2⟩, hk => by
    subst e
    exact ⟨G, H, rfl, r.keep _ _ _ h1 fun b hb => hk b (List.mem_append_left _ hb), SepF.keep h2 fun b hb => hk b (List.mem_append_right _ hb)⟩
theorem SepF.lt {w : World} : ∀ {rs : List Res} {F : List Nat}, SepF w rs F → ∀ b, b ∈ F → b < w.heap.size
  | [], _, h, b, hb => by rw [show _ = [] from h] at hb; cases hb
  | r :: rs, _, ⟨G, H, e, h1, h2⟩, b, hb => by
    subst e
    rcases List.mem_append.1 hb with hb | hb
    · exact r.lt _ _ h1 b hb
    · exact SepF.lt h2 b hb
theorem Sep.nil (lo : Nat) (w : World) : Sep lo w [] := ⟨[], rfl, by simp [Fresh]⟩
/-- What is made since lies elsewhere. -/
theorem Sep.below {lo B : Nat} {w w' : World} {rs : List Res} (h : Sep lo w rs) (hb : Below B w w') (hB : w.heap.size ≤ B) : Sep lo w' rs := by
  obtain ⟨F, h1, h2⟩ := h
  exact ⟨F, h1.keep fun b hm => hb.block b (Nat.lt_of_lt_of_le (h1.lt b hm) hB), h2⟩
theorem Sep.cons {lo : Nat} {w w' : World} {rs : List Res} {r : Res} (h : Sep lo w rs) (hb : Below w.heap.size w w') (hlo : lo ≤ w.heap.size) {G : List Nat} (hr : r.p w' G) (hG : Fresh w.heap.size G) : Sep lo w' (r :: rs) := by
  obtain ⟨F, h1, h2, h3⟩ := h
  refine ⟨G ++ F, ⟨G, F, rfl, hr, h1.keep fun b hm => hb.block b (h1.lt b hm)⟩, List.nodup_append.2 ⟨hG.1, h2, fun p hp q hq e => ?_⟩, fun b hm => ?_⟩
  · subst e
    have := hG.2 p hp
    have := h1.lt p hq
    omega
  · rcases List.mem_append.1 hm with hm | hm
    · exact Nat.le_trans hlo (hG.2 b hm)
    · exact h3 b hm
/-- A new own value. -/
theorem Sep.new {α : Type} {R : OwnRel α} (hR : Held R) {lo : Nat} {w w' : World} {rs : List Res} (h : Sep lo w rs) (hb : Below w.heap.size w w') (hlo : lo ≤ w.heap.size) {v : Value} {x : α} (hn : New R w.heap.size w' v x) : Sep lo w' (Res.of R hR v x :: rs) := by
  obtain ⟨G, hG, hf⟩ := hn
  exact h.cons hb hlo (r := Res.of R hR v x) hG hf
theorem Sep.swap {lo : Nat} {w : World} {r s : Res} {rs : List Res} (h : Sep lo w (r :: s :: rs)) : Sep lo w (s :: r :: rs) := by
  obtain ⟨F, ⟨G, H, e1, h1, G2, H2, e2, h2, h3⟩, hn, hl⟩ := h
  subst e1 e2
  refine ⟨G2 ++ (G ++ H2), ⟨G2, _, rfl, h2, G, H2, rfl, h1, h3⟩, ?_, fun b hb => hl b ?_⟩
  · have hp : (G2 ++ (G ++ H2)).Perm (G ++ (G2 ++ H2)) := by
      rw [← List.append_assoc, ← List.append_assoc]
      exact List.Perm.append_right _ List.perm_append_comm
    exact hp.nodup_iff.2 hn
  · simp only [List.mem_append] at hb ⊢
    rcases hb with h | h | h
    · exact Or.inr (Or.inl h)
    · exact Or.inl h
    · exact Or.inr (Or.inr h)
theorem Sep.tail {lo : Nat} {w : World} {r : Res} {rs : List Res} (h : Sep lo w (r :: rs)) : Sep lo w rs := by
  obtain ⟨F, ⟨G, H, e1, h1, h2⟩, hn, hl⟩ := h
  subst e1
  exact ⟨H, h2, (List.nodup_append.1 hn).2.1, fun b hb => hl b (List.mem_append_right _ hb)⟩
/-- The third to the front. -/
theorem Sep.third {lo : Nat} {w : World} {r s t : Res} {rs : List Res} (h : Sep lo w (r :: s :: t :: rs)) : Sep lo w (t :: r :: s :: rs) := by
  obtain ⟨F, ⟨G, H, e1, h1, G2, H2, e2, h2, G3, H3, e3, h3, h4⟩, hn, hl⟩ := h
  subst e1 e2 e3
  have hp : (G3 ++ (G ++ (G2 ++ H3))).Perm (G ++ (G2 ++ (G3 ++ H3))) := by
    have h1 : (G3 ++ ((G ++ G2) ++ H3)).Perm ((G ++ G2) ++ (G3 ++ H3)) := by
      have h2 := List.Perm.append_right H3 (List.perm_append_comm (l₁ := G3) (l₂ := G ++ G2))
      simpa [List.append_assoc] using h2
    simpa [List.append_assoc] using h1
  exact ⟨_, ⟨G3, _, rfl, h3, G, _, rfl, h1, G2, H3, rfl, h2, h4⟩, hp.nodup_iff.2 hn, fun b hb => hl b (hp.mem_iff.1 hb)⟩
/-- The first turns, in its own blocks and new ones; the others stay. -/
theorem Sep.head {lo : Nat} {w : World} {r : Res} {rs : List Res} (h : Sep lo w (r :: rs)) :
    ∃ G, r.p w G ∧ Fresh lo G ∧ ∀ (w' : World) (r' : Res) (G' : List Nat), r'.p w' G' → G'.Nodup → (∀ b, b ∈ G' → b ∈ G ∨ w.heap.size ≤ b) → lo ≤ w.heap.size → (∀ b, b < w.heap.size → b ∉ G → w'.heap[b]? = w.heap[b]?) → Sep lo w' (r' :: rs) := by
  obtain ⟨F, ⟨G, H, e, h1, h2⟩, hn, hl⟩ := h
  subst e
  have hnd := List.nodup_append.1 hn
  refine ⟨G, h1, ⟨hnd.1, fun b hb => hl b (List.mem_append_left _ hb)⟩, fun w' r' G' hr' hn' hs hlo hk => ?_⟩
  have hlt := h2.lt
  refine ⟨G' ++ H, ⟨G', H, rfl, hr', h2.keep fun b hb => hk b (hlt b hb) fun hm => hnd.2.2 b hm b hb rfl⟩, List.nodup_append.2 ⟨hn', hnd.2.1, fun p hp q hq e => ?_⟩, fun b hb => ?_⟩
  · subst e
    rcases hs p hp with h | h
    · exact hnd.2.2 p h p hq rfl
    · have := hlt p hq; omega
  · rcases List.mem_append.1 hb with hb | hb
    · rcases hs b hb with h | h
      · exact hl b (List.mem_append_left _ h)
      · omega
    · exact hl b (List.mem_append_right _ hb)
theorem Sep.headNew {α : Type} {R : OwnRel α} {hR : Held R} {v : Value} {x : α} {lo : Nat} {w : World} {rs : List Res} (h : Sep lo w (Res.of R hR v x :: rs)) : New R lo w v x := by
  obtain ⟨G, h1, h2, _⟩ := h.head
  exact ⟨G, h1, h2⟩
theorem Sep.headBox {b : Nat} {vs : List Value} {lo : Nat} {w : World} {rs : List Res} (h : Sep lo w (Res.box b vs :: rs)) : lo ≤ b ∧ Cells w b vs := by
  obtain ⟨G, ⟨rfl, h1⟩, h2, _⟩ := h.head
  exact ⟨h2.2 b (by simp), h1⟩
theorem Sep.apart {α β : Type} {R : OwnRel α} {S : OwnRel β} {hR : Held R} {hS : Held S} {v u : Value} {x : α} {y : β} {lo : Nat} {w : World} {rs : List Res} (h : Sep lo w (Res.of R hR v x :: Res.of S hS u y :: rs)) : Apart R S lo w v x u y := by
  obtain ⟨F, ⟨G, H, e1, hG, G2, H2, e2, hG2, h3⟩, hn, hl⟩ := h
  subst e1 e2
  have hnd := List.nodup_append.1 hn
  have hnd2 := List.nodup_append.1 hnd.2.1
  exact ⟨G, G2, hG, hG2, ⟨hnd.1, fun b hb => hl b (List.mem_append_left _ hb)⟩, ⟨hnd2.1, fun b hb => hl b (List.mem_append_right _ (List.mem_append_left _ hb))⟩, fun b hb hb2 => hnd.2.2 b hb b (List.mem_append_left _ hb2) rfl⟩
/-- A store into a box. -/
theorem Sep.boxStore {b : Nat} {vs : List Value} {lo : Nat} {w : World} {rs : List Res} (h : Sep lo w (Res.box b vs :: rs)) (hlo : lo ≤ w.heap.size) {j : Nat} {u0 : Value} (hj : vs[j]? = some u0) (u : Value) : Sep lo (w.setCell ⟨b, j, none⟩ u) (Res.box b (vs.set j u) :: rs) := by
  obtain ⟨G, ⟨rfl, h1⟩, h2, hK⟩ := h.head
  exact hK _ (Res.box b (vs.set j u)) [b] ⟨rfl, h1.store hj u⟩ (by simp) (fun _ h => Or.inl h) hlo fun c _ hc => Below.heap_setCell _ _ _ _ (fun e => hc (by simp; exact e))
/-- A new box. -/
theorem Sep.boxNew {lo : Nat} {w : World} {rs : List Res} (h : Sep lo w rs) (hlo : lo ≤ w.heap.size) (vs : List Value) (ty : TypeId) : Sep lo (w.alloc (.cells vs.toArray ty)) (Res.box w.heap.size vs :: rs) := by
  refine h.cons ((Below.refl _ _).alloc (Nat.le_refl _) _) hlo (r := Res.box w.heap.size vs) (G := [w.heap.size]) ⟨rfl, by simp, fun j u hu => ?_⟩ (by simp [Fresh])
  have h2 : vs.toArray[j]? = some u := by simpa using hu
  constructor
  · exact (World.cell?_alloc_at _ _ _ j rfl).trans h2
  · exact World.frozen?_alloc_new w _ _ j
section
variable {P : Program} {α : Type} {R : OwnRel α} {lo : Nat} {w : World} {v : Value} {e : TypeId} {rs : List Res}
/-- append of an element made since. -/
theorem Sep.push (hR : Kept R) (t ty : TypeId) (z : Value) (bytes : Nat) (ht : P.underlying t = some (.slice e)) (hinfo : (P.info? e).map (fun i => (i.zero, i.size, i.bytes)) = some (some z, 1, bytes)) (hz1 : z.cells = #[z])
    {xs : List α} {hh : Held (OwnOf e R)} (h : Sep lo w (Res.of (OwnOf e R) hh v xs :: rs)) (hlo : lo ≤ w.heap.size) {w1 : World} (hb : Below w.heap.size w w1) {q : Value} {x : α} (hq : New R w.heap.size w1 q x) {bb c : Nat} (hcell : w1.cell? ⟨bb, 0, none⟩ = some q) (hbytes : (xs.length + 1) * bytes ≤ 140737488355328) (h63 : xs.length + 1 ≤ 9223372036854775807) :
    ∃ v' w', (Builtin.append_ #[t, t] ty #[v, .slice (some ⟨bb, 0, none⟩) 1 c]).run P w1 = .ok v' w' ∧ Sep lo w' (Res.of (OwnOf e R) hh v' (xs ++ [x]) :: rs) ∧ Below lo w w' := by
  obtain ⟨G, hG, hf, hK⟩ := h.head
  obtain ⟨H, hH, hHn, hHg⟩ := hq
  have hG' : OwnOf e R w v xs G := hG
  have hltG := (OwnOf.kept (e := e) hR).lt _ _ _ _ hG'
  have hz := hb.size
  obtain ⟨v', w', F', hr, hF', hn', hs, hg, hv⟩ := push_run hR t ty e z bytes ht hinfo hz1 ((OwnOf.kept (e := e) hR).keep _ w1 _ _ _ hG' fun b hm => hb.block b (hltG b hm)) hf.1 hH hHn (fun b hm hm2 => by have := hltG b hm; have := hHg b hm2; omega) (c := c) hcell hbytes h63
  refine ⟨v', w', hr, hK w' (Res.of (OwnOf e R) hh v' (xs ++ [x])) F' hF' hn' (fun b hb2 => ?_) hlo fun b hlt hn => ?_, (hb.mono hlo).grown hg (by omega) fun k hk => hf.2 k (hv k hk)⟩
  · rcases hs b hb2 with h1 | h1 | h1
    · exact Or.inl h1
    · exact Or.inr (hHg b h1)
    · exact Or.inr (by omega)
  · exact (hg.block b (by omega) fun e => hn (hv b e.symm)).trans (hb.block b hlt)
end
/-- The second and the third change places. -/
theorem Sep.swap23 {lo : Nat} {w : World} {r s t : Res} {rs : List Res} (h : Sep lo w (r :: s :: t :: rs)) : Sep lo w (r :: t :: s :: rs) := h.third.swap
section
variable {P : Program} {α : Type} {R : OwnRel α} {lo : Nat} {w : World} {v u : Value} {e : TypeId} {rs : List Res}
/-- append of the second thing to the first. -/
theorem Sep.absorb (hR : Kept R) (t ty : TypeId) (z : Value) (bytes : Nat) (ht : P.underlying t = some (.slice e)) (hinfo : (P.info? e).map (fun i => (i.zero, i.size, i.bytes)) = some (some z, 1, bytes)) (hz1 : z.cells = #[z])
    {xs : List α} {y : α} {hh : Held (OwnOf e R)} {hr : Held R} (h : Sep lo w (Res.of (OwnOf e R) hh v xs :: Res.of R hr u y :: rs)) (hlo : lo ≤ w.heap.size) {w1 : World} (hb : Below w.heap.size w w1) {bb c : Nat} (hcell : w1.cell? ⟨bb, 0, none⟩ = some u) (hbytes : (xs.length + 1) * bytes ≤ 140737488355328) (h63 : xs.length + 1 ≤ 9223372036854775807) :
    ∃ v' w', (Builtin.append_ #[t, t] ty #[v, .slice (some ⟨bb, 0, none⟩) 1 c]).run P w1 = .ok v' w' ∧ Sep lo w' (Res.of (OwnOf e R) hh v' (xs ++ [y]) :: rs) ∧ Below lo w w' := by
  obtain ⟨F, ⟨G, H, e1, hG, G2, H2, e2, hG2, h3⟩, hn, hl⟩ := h
  subst e1 e2
  have hG' : OwnOf e R w v xs G := hG
  have hG2' : R w u y G2 := hG2
  have hnd := List.nodup_append.1 hn
  have hnd2 := List.nodup_append.1 hnd.2.1
  have hltG := (OwnOf.kept (e := e) hR).lt _ _ _ _ hG'
  have hltG2 := hR.lt _ _ _ _ hG2'
  have hlt3 := h3.lt
  have hz := hb.size
  obtain ⟨v', w', F', hr', hF', hn', hs, hg, hv⟩ := push_run hR t ty e z bytes ht hinfo hz1 ((OwnOf.kept (e := e) hR).keep _ w1 _ _ _ hG' fun b hm => hb.block b (hltG b hm)) hnd.1 (hR.keep _ w1 _ _ _ hG2' fun b hm => hb.block b (hltG2 b hm)) hnd2.1 (fun b hm hm2 => hnd.2.2 b hm b (List.mem_append_left _ hm2) rfl) (c := c) hcell hbytes h63
  refine ⟨v', w', hr', ⟨F' ++ H2, ⟨F', H2, rfl, hF', h3.keep fun b hm => ?_⟩, List.nodup_append.2 ⟨hn', hnd2.2.1, fun p hp q hq e3 => ?_⟩, fun b hm => ?_⟩, (hb.mono hlo).grown hg (by omega) fun k hk => hl k (List.mem_append_left _ (hv k hk))⟩
  · exact (hg.block b (by have := hlt3 b hm; omega) fun e3 => hnd.2.2 b (hv b e3.symm) b (List.mem_append_right _ hm) rfl).trans (hb.block b (hlt3 b hm))
  · subst e3
    rcases hs p hp with h | h | h
    · exact hnd.2.2 p h p (List.mem_append_right _ hq) rfl
    · exact hnd2.2.2 p h p hq rfl
    · have := hlt3 p hq; omega
  · rcases List.mem_append.1 hm with hm | hm
    · rcases hs b hm with h | h | h
      · exact hl b (List.mem_append_left _ h)
      · exact hl b (List.mem_append_right _ (List.mem_append_left _ h))
      · omega
    · exact hl b (List.mem_append_right _ (List.mem_append_right _ hm))
end
section
variable {P : Program} {α : Type} {lo sz : Nat} {f : α → List Value} {w : World} {v : Value} {e : TypeId} {rs : List Res}
/-- append of an element of sz plain cells that has been laid since. -/
theorem Sep.pushG (L : Lay sz f) (t ty : TypeId) (z : Value) (bytes : Nat) (ht : P.underlying t = some (.slice e)) (hinfo : (P.info? e).map (fun i => (i.zero, i.size, i.bytes)) = some (some z, sz, bytes)) (hz1 : z.cells.size = sz)
    {xs : List α} {hh : Held (RowG e sz f)} (h : Sep lo w (Res.of (RowG e sz f) hh v xs :: rs)) (hlo : lo ≤ w.heap.size) {w1 : World} (hb : Below w.heap.size w w1) (y : α) {bb : Nat} (c : Nat) (hcell : ∀ j u, (f y)[j]? = some u → w1.cell? ⟨bb, j, none⟩ = some u) (hbytes : (xs.length + 1) * bytes ≤ 140737488355328) (h63 : xs.length + 1 ≤ 9223372036854775807) :
    ∃ v' w', (Builtin.append_ #[t, t] ty #[v, .slice (some ⟨bb, 0, none⟩) 1 c]).run P w1 = .ok v' w' ∧ Sep lo w' (Res.of (RowG e sz f) hh v' (xs ++ [y]) :: rs) ∧ Below lo w w' := by
  obtain ⟨i, hi, hzz⟩ := Option.map_eq_some_iff.1 hinfo
  simp only [Prod.mk.injEq] at hzz
  obtain ⟨hz, hsz, hby⟩ := hzz
  obtain ⟨G, hG, hf, hK⟩ := h.head
  have hG1 : RowG e sz f w v xs G := hG
  obtain ⟨how, eG⟩ := hG1
  have hltG : ∀ b, v.ownBlock = some b → b < w.heap.size := fun b hb2 => (how.lt b hb2).2
  have how1 : w1.ownsRow 0 e sz v xs.length (xs.flatMap f) := ownsRow_keep how fun b hb2 => hb.block b (hltG b hb2)
  have hzw := hb.size
  obtain ⟨v', w', hrun, how', hg, _, hat⟩ := run_append_own_at (P := P) w1 0 t ty e i z sz bytes ht hi hz hsz hby hz1 L.pos v xs.length (xs.flatMap f) how1 ⟨bb, 0, none⟩ 1 c (f y) (by rw [L.len]; omega)
    (by
      intro j u' hj
      have := hcell j u' hj
      have e2 : (⟨bb, 0, none⟩ : Addr).add j = ⟨bb, j, none⟩ := by unfold Addr.add; split <;> simp_all
      rw [e2]
      exact this)
    (fun u' hu' => L.one y u' hu') h63 hbytes (Nat.zero_le _)
  refine ⟨v', w', hrun, hK w' (Res.of (RowG e sz f) hh v' (xs ++ [y])) v'.ownBlock.toList ⟨by simpa using how', rfl⟩ (by cases v'.ownBlock <;> simp) (fun b hb2 => ?_) hlo fun b hlt hn => ?_, (hb.mono hlo).grown hg (by omega) fun k hk => hf.2 k (by rw [eG]; simp [hk])⟩
  · simp at hb2
    rcases hat with hat | hat
    · rw [hat] at hb2; exact Or.inl (by rw [eG]; simp [hb2])
    · rw [hat] at hb2; simp at hb2; exact Or.inr (by omega)
  · refine (hg.block b (by omega) fun e2 => hn ?_).trans (hb.block b hlt)
    rw [eG]; simp [← e2]
end
end Go.Sd
end

section
namespace Go.Sd
open Go.RowKit Go.Deep Go.Maps

/-- How keys of type k are written and read, and elements of type e. -/
structure MapK (P : Program) (k e : TypeId) {κ β : Type} (dom : κ → Prop) (kv : κ → Value) (kf : κ → Lit) (ev : β → Value) (ed : β → DataW Unit) : Prop where
  law : Keyed P k
  key : ∀ x, dom x → keyOf P k (kv x) = some (kf x)
  inj : ∀ x y, dom x → dom y → kf x = kf y → x = y
  val : ∀ y, plainElem (H := Unit) P e (ev y) = some (ed y, [])
  inv : ∀ y v ps, plainElem (H := Unit) P e v = some (ed y, ps) → v = ev y
  lit : ∀ x, dom x → WideAt.IsKeyLit (kf x)

/-- Block b is a map of at most n entries that holds g. -/
def MapAt (P : Program) (k e : TypeId) {κ β : Type} (dom : κ → Prop) (kf : κ → Lit) (ed : β → DataW Unit) (w : World) (b n : Nat) (g : κ → Option β) : Prop :=
  ∃ D, w.ownsMap P k (plainElem (H := Unit) P e) b n D ∧ ∀ x, dom x → match g x with
    | none => Maps.has D (kf x) = false
    | some y => Maps.has D (kf x) = true ∧ ∀ z, D.atKey (kf x) z = ed y

section
variable {P : Program} {k e : TypeId} {κ β : Type} {dom : κ → Prop} {kv : κ → Value} {kf : κ → Lit} {ev : β → Value} {ed : β → DataW Unit}

def Res.map (P : Program) (k e : TypeId) {κ β : Type} (dom : κ → Prop) (kf : κ → Lit) (ed : β → DataW Unit) (b n : Nat) (g : κ → Option β) : Res :=
  ⟨fun w F => F = [b] ∧ MapAt P k e dom kf ed w b n g,
   fun w w' F h hk => by
    obtain ⟨rfl, D, ⟨es, clock, hb, r⟩, hg⟩ := h
    exact ⟨rfl, D, ⟨es, clock, (hk b (by simp)).trans hb, r⟩, hg⟩,
   fun w F h c hc => by
    obtain ⟨rfl, D, ho, _⟩ := h
    simp at hc
    subst hc
    exact ho.lt⟩

theorem Sep.mapNew {lo : Nat} {w : World} {rs : List Res} (h : Sep lo w rs) (hlo : lo ≤ w.heap.size) (P : Program) (k e : TypeId) {κ β : Type} (dom : κ → Prop) (kf : κ → Lit) (ed : β → DataW Unit) :
    Sep lo (w.alloc (.map #[] 0)) (Res.map P k e dom kf ed w.heap.size 0 (fun _ => none) :: rs) :=
  h.cons ((Below.refl _ _).alloc (Nat.le_refl _) _) hlo (r := Res.map P k e dom kf ed w.heap.size 0 (fun _ => none)) (G := [w.heap.size]) ⟨rfl, .map [], World.ownsMap_made _ _ _ _, fun _ _ => rfl⟩ (by simp [Fresh])

theorem Sep.mapLt {lo : Nat} {w : World} {rs : List Res} {b n : Nat} {g : κ → Option β} (h : Sep lo w (Res.map P k e dom kf ed b n g :: rs)) : b < w.heap.size := by
  obtain ⟨G, ⟨rfl, D, ho, hg⟩, _⟩ := h.head
  exact ho.lt
theorem Sep.mapLook (M : MapK P k e dom kv kf ev ed) {lo : Nat} {w : World} {rs : List Res} {b n : Nat} {g : κ → Option β} (h : Sep lo w (Res.map P k e dom kf ed b n g :: rs)) {t : TypeId} (ht : P.underlying t = some (.map k e)) {z : Value} (hz : (zeroValue e).run P w = .ok z w) {zd : DataW Unit} (hzd : plainElem P e z = some (zd, [])) (hzi : ∀ v ps, plainElem (H := Unit) P e v = some (zd, ps) → v = z) (x : κ) (hx : dom x) :
    (Instr.lookup t (.map (some b)) (kv x) false).run P w = .ok (match g x with | some y => ev y | none => z) w := by
  obtain ⟨G, ⟨rfl, D, ho, hg⟩, _⟩ := h.head
  obtain ⟨v, ps, hr, hv⟩ := ho.lookup M.law ht hz hzd (M.key x hx)
  have h1 := hg x hx
  rw [hr]
  cases hgx : g x with
  | none =>
    rw [hgx] at h1
    rw [Maps.atKey_of_not_has h1] at hv
    rw [hzi v ps hv]
  | some y =>
    rw [hgx] at h1
    rw [h1.2 zd] at hv
    rw [M.inv y v ps hv]
theorem Sep.mapLookOk (M : MapK P k e dom kv kf ev ed) {lo : Nat} {w : World} {rs : List Res} {b n : Nat} {g : κ → Option β} (h : Sep lo w (Res.map P k e dom kf ed b n g :: rs)) {t : TypeId} (ht : P.underlying t = some (.map k e)) {z : Value} (hz : (zeroValue e).run P w = .ok z w) {zd : DataW Unit} (hzd : plainElem P e z = some (zd, [])) (hzi : ∀ v ps, plainElem (H := Unit) P e v = some (zd, ps) → v = z) (x : κ) (hx : dom x) :
    (Instr.lookup t (.map (some b)) (kv x) true).run P w = .ok (.tuple #[match g x with | some y => ev y | none => z, .bool (g x).isSome]) w := by
  obtain ⟨G, ⟨rfl, D, ho, hg⟩, _⟩ := h.head
  obtain ⟨v, ps, hr, hv⟩ := ho.look_ok M.law ht hz hzd (M.key x hx)
  have h1 := hg x hx
  rw [hr]
  cases hgx : g x with
  | none =>
    rw [hgx] at h1
    rw [Maps.atKey_of_not_has h1] at hv
    rw [hzi v ps hv, h1]
    rfl
  | some y =>
    rw [hgx] at h1
    rw [h1.2 zd] at hv
    rw [M.inv y v ps hv, h1.1]
    rfl
open Classical in
theorem Sep.mapStore (M : MapK P k e dom kv kf ev ed) {lo : Nat} {w : World} {rs : List Res} {b n : Nat} {g : κ → Option β} (h : Sep lo w (Res.map P k e dom kf ed b n g :: rs)) (hlo : lo ≤ w.heap.size) {t : TypeId} (ht : P.underlying t = some (.map k e)) (hn : n < maxLen) (x : κ) (hx : dom x) (y : β) :
    ∃ w', (Instr.mapUpdate t (.map (some b)) (kv x) (ev y)).run P w = .ok () w' ∧ Sep lo w' (Res.map P k e dom kf ed b (n + 1) (fun x' => if x' = x then some y else g x') :: rs) ∧ Below lo w w' ∧ ∀ p : Addr, p.block < w.heap.size → p.block ≠ b → w'.cell? p = w.cell? p := by
  obtain ⟨G, ⟨rfl, D, ho, hg⟩, hf, hK⟩ := h.head
  obtain ⟨w', hr, ho', hgr⟩ := ho.update M.law ht hn (M.key x hx) (M.val y)
  have hD := ho.isMap
  refine ⟨w', hr, hK w' (Res.map P k e dom kf ed b (n + 1) (fun x' => if x' = x then some y else g x')) [b] ⟨rfl, _, ho', fun x' hx' => ?_⟩ (by simp) (fun _ h => Or.inl h) hlo fun c hlt hc => hgr.block c hlt fun e2 => hc (by cases e2; simp), (Below.refl lo w).grown hgr hlo fun c hc => hf.2 c (by cases hc; simp), fun p hp hpb => by simp only [World.cell?, hgr.block p.block hp fun e2 => hpb (by cases e2; rfl)]⟩
  by_cases e : x' = x
  · subst e
    simp only [if_true]
    exact ⟨Maps.has_put_same hD (M.lit x' hx') _, fun z => Maps.atKey_put_same hD (M.lit x' hx') _ z⟩
  · simp only [e, if_false]
    have hne : kf x' ≠ kf x := fun e2 => e (M.inj x' x hx' hx e2)
    have h1 := hg x' hx'
    cases hgx : g x' with
    | none =>
      rw [hgx] at h1
      simp only [Maps.has_put_other hne]
      exact h1
    | some y' =>
      rw [hgx] at h1
      simp only [Maps.has_put_other hne, Maps.atKey_put_other hne]
      exact h1
end
section
variable {P : Program} {w : World} {ops : Array Oper} {rest : List Oper} {o : Oper} {a : Act} {Q : Exit → Act → World → Prop}
end
/-- Sets of states, told by numbers, as keys; bools. -/
def domS (s : Nat) : Prop := s < 9223372036854775808
theorem wf_i64 {s : Nat} (h : domS s) : (Lit.int .i64 (s : Int)).wf = true := WalkArith.wf_i64 (by unfold domS at h; omega)
theorem boolElem_inv {P : Program} {e : TypeId} (he : P.underlying e = some .bool) {y : Bool} {v : Value} {ps : List MemPlace} (h : plainElem (H := Unit) P e v = some (.lit (.bool y), ps)) : v = .bool y := by
  unfold plainElem at h
  rw [he] at h
  cases v <;> simp at h
  rw [h.1]
theorem mapK_int {P : Program} {k e : TypeId} (hk : P.underlying k = some (.int .i64)) (he : P.underlying e = some (.int .i64)) : MapK P k e domS (fun s : Nat => .int .i64 (s : Int)) (fun s => .int .i64 (s : Int)) (fun y : {s : Nat // domS s} => .int .i64 (y.1 : Int)) (fun y => .lit (.int .i64 (y.1 : Int))) where
  law := int_keyed hk
  key := fun x hx => keyOf_int_mk hk (wf_i64 hx)
  inj := fun x y _ _ h => by simp at h; omega
  val := fun y => plainElem_int he (wf_i64 y.2)
  inv := fun y v ps h => by
    obtain ⟨a, rfl, h2, _⟩ := plainElem_int_inv he h
    simp at h2
    rw [h2.1]
  lit := fun x _ => by simp [WideAt.IsKeyLit]
end Go.Sd
end

section
namespace Go.Proofs.Ytcilgihmaaobeaa
open Go.RowKit Go.Deep Go.Sd
/-- All of the next g numbers from k on. -/
def allF (h : Nat → Bool) : Nat → Nat → Bool
  | 0, _ => true
  | g + 1, k => if h k = true then allF h g (k + 1) else false
end Go.Proofs.Ytcilgihmaaobeaa
end

section
namespace Go.Proofs.Ytcilgihmaaobeaa
open Go.RowKit Go.Deep Go.Sd

def at3 (xs : List Arc3) (k : Nat) : Arc3 := xs.getD k (0, 0, 0)
theorem at3_of {xs : List Arc3} {k : Nat} {x : Arc3} (h : xs[k]? = some x) : at3 xs k = x := by simp [at3, List.getD, h]
def arcOk (L S : Int) (x : Arc3) : Bool := decide (0 ≤ x.1 ∧ x.1 < S ∧ 0 ≤ x.2.1 ∧ x.2.1 < S ∧ 0 ≤ x.2.2 ∧ x.2.2 < L)
def arcB (L S : Int) (xs : List Arc3) (k : Nat) : Bool := arcOk L S (at3 xs k) && (decide (k = 0) || before (at3 xs (k - 1)) (at3 xs k))
def isLab (l : Lb) : Bool := decide (1 ≤ l.1 ∧ l.1 ≤ 3) && (decide (1 ≤ l.2.1 ∧ l.2.1 ≤ 12) && allF (arcB l.1 l.2.1 l.2.2) l.2.2.length 0)

end Go.Proofs.Ytcilgihmaaobeaa
end

section
namespace Go.Proofs.Ytcilgihmaaobeaa
open Go.RowKit Go.Deep Go.Sd

theorem i64_and1 (n : Int) : bits .and .i64 n 1 = n % 2 := by
  have h1 : (BitVec.ofInt 64 1).toNat = 2 ^ 1 - 1 := by decide
  have key : (BitVec.ofInt 64 n &&& BitVec.ofInt 64 1).toNat = (n % ((2 ^ 64 : Nat) : Int)).toNat % 2 ^ 1 := by
    rw [BitVec.toNat_and, BitVec.toNat_ofInt, h1, Nat.and_two_pow_sub_one_eq_mod]
  show IntKind.i64.wrap ((BitVec.ofInt 64 n &&& BitVec.ofInt 64 1).toNat : Nat) = n % 2
  rw [key, IntKind.wrap_i64]
  omega
theorem ofInt_i64 (a : Nat) (ha : a < 9223372036854775808) : (BitVec.ofInt 64 (a : Int)).toNat = a := by
  rw [BitVec.ofInt_natCast, BitVec.toNat_ofNat]; exact Nat.mod_eq_of_lt (by omega)
theorem i64_or (a b : Nat) (ha : a < 9223372036854775808) (hb : b < 9223372036854775808) : bits .or .i64 (a : Int) (b : Int) = ((a ||| b : Nat) : Int) := by
  have hx : a ||| b < 2 ^ 63 := Nat.or_lt_two_pow (by omega) (by omega)
  show IntKind.i64.wrap ((BitVec.ofInt 64 (a : Int) ||| BitVec.ofInt 64 (b : Int)).toNat : Nat) = _
  rw [BitVec.toNat_or, ofInt_i64 a ha, ofInt_i64 b hb, IntKind.wrap_i64]
  omega

/-- An arc leads on from a set, with a letter. -/
def hit (s : Nat) (x : Int) (a : Arc3) : Bool := decide (a.2.2 = x) && s.testBit a.1.toNat
def stepL (s : Nat) (x : Int) : List Arc3 → Nat → Nat
  | [], out => out
  | a :: ys, out => stepL s x ys (if hit s x a = true then out ||| 2 ^ a.2.1.toNat else out)
def stepN (xs : List Arc3) (s : Nat) (x : Int) : Nat := stepL s x xs 0
def okArcs (S : Int) (xs : List Arc3) : Prop := ∀ a, a ∈ xs → 0 ≤ a.1 ∧ a.1 < S ∧ 0 ≤ a.2.1 ∧ a.2.1 < S
theorem allF_at {f : Nat → Bool} : ∀ {m k : Nat}, allF f m k = true → ∀ j, j < m → f (k + j) = true
  | 0, _, _, j, hj => by omega
  | m + 1, k, h, j, hj => by
    have h1 : (if f k = true then allF f m (k + 1) else false) = true := h
    by_cases hk : f k = true
    · rw [if_pos hk] at h1
      cases j with
      | zero => exact hk
      | succ j => rw [show k + (j + 1) = k + 1 + j by omega]; exact allF_at h1 j (by omega)
    · rw [if_neg hk] at h1; cases h1
theorem isLab_ok {l : Lb} (h : isLab l = true) : okArcs l.2.1 l.2.2 ∧ 1 ≤ l.2.1 ∧ l.2.1 ≤ 12 ∧ 1 ≤ l.1 ∧ l.1 ≤ 3 := by
  unfold isLab at h
  rw [Bool.and_eq_true, Bool.and_eq_true, decide_eq_true_eq, decide_eq_true_eq] at h
  refine ⟨fun a ha => ?_, h.2.1.1, h.2.1.2, h.1.1, h.1.2⟩
  obtain ⟨k, hk⟩ := List.getElem?_of_mem ha
  have h1 := allF_at h.2.2 k (List.getElem?_eq_some_iff.1 hk).1
  rw [Nat.zero_add] at h1
  unfold arcB at h1
  rw [Bool.and_eq_true, at3_of hk] at h1
  have h2 := h1.1
  unfold arcOk at h2
  rw [decide_eq_true_eq] at h2
  exact ⟨h2.1, h2.2.1, h2.2.2.1, h2.2.2.2.1⟩
theorem stepL_lt {S : Int} {N : Nat} (hN : S.toNat ≤ N) : ∀ {xs : List Arc3}, okArcs S xs → ∀ (s : Nat) (x : Int) (out : Nat), out < 2 ^ N → stepL s x xs out < 2 ^ N
  | [], _, _, _, _, h => h
  | a :: ys, ha, s, x, out, h => by
    unfold stepL
    refine stepL_lt hN (fun b hb => ha b (List.mem_cons_of_mem _ hb)) s x _ ?_
    split
    · have := ha a (by simp)
      exact Nat.or_lt_two_pow h (Nat.pow_lt_pow_right (by omega) (by omega))
    · exact h
theorem stepN_lt {S : Int} {xs : List Arc3} (h : okArcs S xs) (hS : S ≤ 12) (s : Nat) (x : Int) : stepN xs s x < 4096 :=
  stepL_lt (N := 12) (by omega) h s x 0 (by decide)
theorem okArcs_at {S : Int} {xs : List Arc3} (h : okArcs S xs) {k : Nat} {x : Arc3} (hx : xs[k]? = some x) : 0 ≤ x.1 ∧ x.1 < S ∧ 0 ≤ x.2.1 ∧ x.2.1 < S := h x (List.mem_of_getElem? hx)

end Go.Proofs.Ytcilgihmaaobeaa
end

section
namespace Go.Proofs.Ytcilgihmaaobeaa
open Go.RowKit Go.Deep Go.Sd

/-- Lists of different numbers below a bound are no longer than the bound. -/
theorem nodup_below : ∀ (n : Nat) (l : List Nat), l.Nodup → (∀ x, x ∈ l → x < n) → l.length ≤ n
  | 0, [], _, _ => by simp
  | 0, x :: l, _, h => absurd (h x (by simp)) (by omega)
  | n + 1, l, hn, h => by
    have h1 : (l.filter (fun x => decide (x ≠ n))).length ≤ n := nodup_below n _ (hn.filter _) fun x hx => by
      have h2 := List.mem_filter.1 hx
      have := h x h2.1
      have h3 : x ≠ n := by simpa using h2.2
      omega
    have h2 : l.length ≤ (l.filter (fun x => decide (x ≠ n))).length + 1 := by
      clear h h1
      induction l with
      | nil => simp
      | cons a t ih =>
        have hn' := List.nodup_cons.1 hn
        by_cases e : a = n
        · subst e
          have : t.filter (fun x => decide (x ≠ a)) = t := List.filter_eq_self.2 fun x hx => by
            simp
            exact fun e => hn'.1 (e ▸ hx)
          rw [List.filter_cons, if_neg (by simp), this]
          simp
        · rw [List.filter_cons, if_pos (by simpa using e)]
          have := ih hn'.2
          simp only [List.length_cons]
          omega
    omega

abbrev P2 := Nat × Nat
def codeP (q : P2) : Nat := q.1 * 4096 + q.2
def nextP (A B : List Arc3) (p : P2) (x : Nat) : P2 := (stepN A p.1 (x : Int), stepN B p.2 (x : Int))
def badP (q : P2) : Bool := (q.1 == 0) != (q.2 == 0)
inductive ReachP (A B : List Arc3) (L : Nat) (p0 : P2) : P2 → Prop
  | start : ReachP A B L p0 p0
  | step {p : P2} (x : Nat) : ReachP A B L p0 p → x < L → ReachP A B L p0 (nextP A B p x)
def goodP (A B : List Arc3) (L : Nat) (p0 : P2) : Prop := ∀ p, ReachP A B L p0 p → ∀ x, x < L → badP (nextP A B p x) = false
def doneP (ps : List P2) (q : P2) : Prop := badP q = false ∧ (q = (0, 0) ∨ q ∈ ps)
/-- The pairs ahead of k are done, and k's first x letters. -/
structure InvP (A B : List Arc3) (L : Nat) (p0 : P2) (ps : List P2) (k x : Nat) : Prop where
  first : p0 ∈ ps
  reach : ∀ p, p ∈ ps → ReachP A B L p0 p
  small : ∀ p, p ∈ ps → p.1 < 4096 ∧ p.2 < 4096
  once : ps.Nodup
  ahead : ∀ i p, i < k → ps[i]? = some p → ∀ y, y < L → doneP ps (nextP A B p y)
  row : ∀ p, ps[k]? = some p → ∀ y, y < x → doneP ps (nextP A B p y)
section
variable {A B : List Arc3} {L : Nat} {p0 : P2} {ps : List P2} {k x : Nat}
theorem InvP.start (h : p0.1 < 4096 ∧ p0.2 < 4096) : InvP A B L p0 [p0] 0 0 :=
  ⟨by simp, fun p hp => by simp at hp; subst hp; exact .start, fun p hp => by simp at hp; subst hp; exact h, by simp, fun i p hi => by omega, fun p _ y hy => by omega⟩
theorem InvP.len (h : InvP A B L p0 ps k x) : ps.length ≤ 16777216 := by
  have h1 : (ps.map codeP).Nodup := by
    have := h.once
    rw [List.Nodup, List.pairwise_map]
    refine List.Pairwise.imp_of_mem (fun {a b} ha hb hne e => hne ?_) this
    have h1 := h.small a ha
    have h2 := h.small b hb
    unfold codeP at e
    exact Prod.ext (by omega) (by omega)
  have h2 := nodup_below 16777216 (ps.map codeP) h1 fun y hy => by
    obtain ⟨p, hp, rfl⟩ := List.mem_map.1 hy
    have := h.small p hp
    unfold codeP
    omega
  simpa using h2
theorem InvP.bad (h : InvP A B L p0 ps k x) {p : P2} (hp : ps[k]? = some p) (hx : x < L) (hb : badP (nextP A B p x) = true) : ¬ goodP A B L p0 := fun hg => by
  have := hg p (h.reach p (List.mem_of_getElem? hp)) x hx
  rw [this] at hb
  cases hb
theorem InvP.known (h : InvP A B L p0 ps k x) {p : P2} (hp : ps[k]? = some p) (hb : badP (nextP A B p x) = false) (hm : nextP A B p x = (0, 0) ∨ nextP A B p x ∈ ps) : InvP A B L p0 ps k (x + 1) :=
  ⟨h.first, h.reach, h.small, h.once, h.ahead, fun q hq y hy => by
    rw [hp] at hq
    cases hq
    by_cases e : y = x
    · subst e; exact ⟨hb, hm⟩
    · exact h.row p hp y (by omega)⟩
theorem doneP.snoc {q r : P2} (h : doneP ps q) : doneP (ps ++ [r]) q := ⟨h.1, h.2.imp id fun h => List.mem_append_left _ h⟩
theorem InvP.add (h : InvP A B L p0 ps k x) {p : P2} (hp : ps[k]? = some p) (hx : x < L) (hb : badP (nextP A B p x) = false) (hm : nextP A B p x ∉ ps) (hs : (nextP A B p x).1 < 4096 ∧ (nextP A B p x).2 < 4096) : InvP A B L p0 (ps ++ [nextP A B p x]) k (x + 1) := by
  have hk := (List.getElem?_eq_some_iff.1 hp).1
  refine ⟨List.mem_append_left _ h.first, fun q hq => ?_, fun q hq => ?_, ?_, fun i q hi hq y hy => ?_, fun q hq y hy => ?_⟩
  · rcases List.mem_append.1 hq with hq | hq
    · exact h.reach q hq
    · simp at hq; subst hq; exact .step x (h.reach p (List.mem_of_getElem? hp)) hx
  · rcases List.mem_append.1 hq with hq | hq
    · exact h.small q hq
    · simp at hq; subst hq; exact hs
  · refine List.nodup_append.2 ⟨h.once, by simp, fun a ha b hb' e => ?_⟩
    simp at hb'
    subst e hb'
    exact hm ha
  · rw [List.getElem?_append_left (by omega)] at hq
    exact (h.ahead i q hi hq y hy).snoc
  · rw [List.getElem?_append_left hk, hp] at hq
    cases hq
    by_cases e : y = x
    · subst e; exact ⟨hb, Or.inr (by simp)⟩
    · exact (h.row p hp y (by omega)).snoc
theorem InvP.next (h : InvP A B L p0 ps k L) : InvP A B L p0 ps (k + 1) 0 :=
  ⟨h.first, h.reach, h.small, h.once, fun i p hi hp y hy => by
    by_cases e : i = k
    · subst e; exact h.row p hp y hy
    · exact h.ahead i p (by omega) hp y hy, fun p _ y hy => by omega⟩
theorem stepN_zero (xs : List Arc3) (x : Int) : stepN xs 0 x = 0 := by
  have : ∀ (ys : List Arc3) (o : Nat), stepL 0 x ys o = o := by
    intro ys
    induction ys with
    | nil => intro o; rfl
    | cons a ys ih => intro o; unfold stepL; rw [ih]; simp [hit]
  exact this xs 0
theorem InvP.end (h : InvP A B L p0 ps k 0) (hk : ps.length ≤ k) : goodP A B L p0 := by
  have key : ∀ p, ReachP A B L p0 p → p = (0, 0) ∨ p ∈ ps := by
    intro p hp
    induction hp with
    | start => exact Or.inr h.first
    | @step p x hp hx ih =>
      rcases ih with rfl | ih
      · left; simp [nextP, stepN_zero]
      · obtain ⟨i, hi⟩ := List.getElem?_of_mem ih
        have := (List.getElem?_eq_some_iff.1 hi).1
        exact (h.ahead i p (by omega) hi x hx).2
  intro p hp x hx
  rcases key p hp with rfl | hp
  · simp [nextP, stepN_zero, badP]
  · obtain ⟨i, hi⟩ := List.getElem?_of_mem hp
    have := (List.getElem?_eq_some_iff.1 hi).1
    exact (h.ahead i p (by omega) hi x hx).1
end
open Classical in
noncomputable def readSameM (a b : Lb) : Bool :=
  isLab a && (isLab b && (decide (a.1 = b.1) && decide (goodP a.2.2 b.2.2 a.1.toNat (2 ^ a.2.1.toNat - 1, 2 ^ b.2.1.toNat - 1))))
end Go.Proofs.Ytcilgihmaaobeaa
end

section
namespace Go.Proofs.Ytcilgihmaaobeaa
open Go.RowKit Go.Deep Go.Sd

def OkS (sets : List Nat) : Prop := sets.Nodup ∧ ∀ s, s ∈ sets → 0 < s ∧ s < 4096
theorem OkS.len {sets : List Nat} (h : OkS sets) : sets.length ≤ 4095 := by
  have h1 : (sets.map (· - 1)).Nodup := by
    rw [List.Nodup, List.pairwise_map]
    refine List.Pairwise.imp_of_mem (fun {a b} ha hb hne e => hne ?_) h.1
    have := h.2 a ha
    have := h.2 b hb
    omega
  have h2 := nodup_below 4095 _ h1 fun x hx => by
    obtain ⟨s, hs, rfl⟩ := List.mem_map.1 hx
    have := h.2 s hs
    omega
  simpa using h2
def addS (sets : List Nat) (t : Nat) : List Nat := if t = 0 ∨ t ∈ sets then sets else sets ++ [t]
def posS (sets : List Nat) (t : Nat) : Int := if t = 0 then -1 else (sets.idxOf t : Int)
theorem OkS.add {sets : List Nat} (h : OkS sets) {t : Nat} (ht : t < 4096) : OkS (addS sets t) := by
  unfold addS
  by_cases e : t = 0 ∨ t ∈ sets
  · rw [if_pos e]; exact h
  · rw [if_neg e]
    rw [not_or] at e
    refine ⟨List.nodup_append.2 ⟨h.1, by simp, fun a ha b hb => ?_⟩, fun s hs => ?_⟩
    · simp at hb; subst hb; exact fun e2 => e.2 (e2 ▸ ha)
    · rcases List.mem_append.1 hs with hs | hs
      · exact h.2 s hs
      · simp at hs; subst hs; omega
theorem addS_pre (sets : List Nat) (t : Nat) : ∃ u, addS sets t = sets ++ u := by
  unfold addS
  split
  · exact ⟨[], by simp⟩
  · exact ⟨[t], rfl⟩
/-- One row: where each letter leads from s. -/
def rowS (A : List Arc3) (s : Nat) : Nat → Nat → List Nat → List Int → List Nat × List Int
  | 0, _, sets, row => (sets, row)
  | n + 1, x, sets, row => rowS A s n (x + 1) (addS sets (stepN A s (x : Int))) (row ++ [posS sets (stepN A s (x : Int))])
def bfsS (A : List Arc3) (L : Nat) : Nat → List Nat → Nat → List (List Int) → List Nat × List (List Int)
  | 0, sets, _, next => (sets, next)
  | f + 1, sets, k, next => match sets[k]? with
    | none => (sets, next)
    | some s => bfsS A L f (rowS A s L 0 sets []).1 (k + 1) (next ++ [(rowS A s L 0 sets []).2])
section
variable {A : List Arc3}
theorem rowS_ok (hA : ∀ s x, stepN A s x < 4096) (s : Nat) : ∀ (n x : Nat) (sets : List Nat) (row : List Int), OkS sets → OkS (rowS A s n x sets row).1
  | 0, _, _, _, h => h
  | n + 1, x, sets, row, h => rowS_ok hA s n (x + 1) _ _ (h.add (hA _ _))
theorem rowS_pre (s : Nat) : ∀ (n x : Nat) (sets : List Nat) (row : List Int), ∃ u, (rowS A s n x sets row).1 = sets ++ u
  | 0, _, sets, _ => ⟨[], by simp [rowS]⟩
  | n + 1, x, sets, row => by
    obtain ⟨u, hu⟩ := addS_pre sets (stepN A s (x : Int))
    obtain ⟨v, hv⟩ := rowS_pre s n (x + 1) (addS sets (stepN A s (x : Int))) (row ++ [posS sets (stepN A s (x : Int))])
    exact ⟨u ++ v, by simp only [rowS]; rw [hv, hu, List.append_assoc]⟩
end
/-! The search with words. -/
/-! The least of numbers that belong to the sets. -/
end Go.Proofs.Ytcilgihmaaobeaa
end

section
namespace Go.Sd
open Go.RowKit Go.Deep
theorem Sep.one {α : Type} {R : OwnRel α} (hR : Held R) {lo : Nat} {w : World} {v : Value} {x : α} (h : New R lo w v x) : Sep lo w [Res.of R hR v x] := by
  obtain ⟨F, hF, hf⟩ := h
  exact ⟨F, ⟨F, [], by simp, hF, rfl⟩, hf⟩
theorem SepF.perm {w : World} {rs ss : List Res} (hp : rs.Perm ss) : ∀ {F : List Nat}, SepF w rs F → ∃ F', F'.Perm F ∧ SepF w ss F' := by
  induction hp with
  | nil => exact fun h => ⟨_, List.Perm.refl _, h⟩
  | cons r _ ih =>
    rintro F ⟨G, H, rfl, h1, h2⟩
    obtain ⟨H', hp, h3⟩ := ih h2
    exact ⟨G ++ H', hp.append_left G, G, H', rfl, h1, h3⟩
  | swap r s l =>
    rintro F ⟨G, H, rfl, h1, G2, H2, rfl, h2, h3⟩
    refine ⟨G2 ++ (G ++ H2), ?_, G2, _, rfl, h2, G, H2, rfl, h1, h3⟩
    rw [← List.append_assoc, ← List.append_assoc]
    exact List.Perm.append_right _ List.perm_append_comm
  | trans _ _ ih1 ih2 =>
    intro F h
    obtain ⟨F1, p1, h1⟩ := ih1 h
    obtain ⟨F2, p2, h2⟩ := ih2 h1
    exact ⟨F2, p2.trans p1, h2⟩
theorem Sep.perm {lo : Nat} {w : World} {rs ss : List Res} (h : Sep lo w rs) (hp : rs.Perm ss) : Sep lo w ss := by
  obtain ⟨F, h1, hn, hl⟩ := h
  obtain ⟨F', p, h2⟩ := h1.perm hp
  exact ⟨F', h2, p.nodup_iff.2 hn, fun b hb => hl b (p.mem_iff.1 hb)⟩
/-- A thing comes to the front; goes back. -/
theorem Sep.front {lo : Nat} {w : World} (a : List Res) {r : Res} {b : List Res} (h : Sep lo w (a ++ r :: b)) : Sep lo w (r :: (a ++ b)) := h.perm List.perm_middle
theorem Sep.back {lo : Nat} {w : World} (a : List Res) {r : Res} {b : List Res} (h : Sep lo w (r :: (a ++ b))) : Sep lo w (a ++ r :: b) := h.perm List.perm_middle.symm
end Go.Sd
end

section
namespace Go.Sd
open Go.RowKit Go.Deep
/-- A letter as a byte. -/
def letV (x : Nat) : Value := .int .u8 (97 + (x : Int))
end Go.Sd
namespace Go.Proofs.Ytcilgihmaaobeaa
open Go.RowKit Go.Deep Go.Sd Go.Maps
theorem infoB8 : (Try.prog.info? 5).map (fun i => (i.zero, i.size, i.bytes)) = some (some (.int .u8 0), 1, 1) := by kernel_rfl
end Go.Proofs.Ytcilgihmaaobeaa
end

section
namespace Go.Proofs.Ytcilgihmaaobeaa
open Go.RowKit Go.Deep Go.Sd

theorem bit_shr (s p : Nat) : bits BinOp.and IntKind.i64 ((s : Int) / 2 ^ p) 1 = if s.testBit p = true then 1 else 0 := by
  rw [i64_and1, Nat.testBit_eq_decide_div_mod_eq]
  have h : (s : Int) / 2 ^ p = ((s / 2 ^ p : Nat) : Int) := by
    rw [show ((2 : Int) ^ p) = ((2 ^ p : Nat) : Int) by simp]; rfl
  rw [h]
  generalize s / 2 ^ p = t
  split
  · rename_i h1; simp at h1; omega
  · rename_i h1; simp at h1; omega
theorem bit_or (q p : Nat) (hq : q < 4096) (hp : p < 12) : bits BinOp.or IntKind.i64 (q : Int) (wrap64 (2 ^ p)) = ((q ||| 2 ^ p : Nat) : Int) := by
  have h1 : 2 ^ p < 4096 := Nat.pow_lt_pow_right (n := 12) (by decide) hp
  have h2 : ((2 : Int) ^ p) = ((2 ^ p : Nat) : Int) := by simp
  rw [h2]
  clear h2
  generalize 2 ^ p = r at h1 ⊢
  rw [IntWalk.wrap64_in _ (by omega), i64_or _ _ (by omega) (by omega)]
theorem or_lt (q p : Nat) (hq : q < 4096) (hp : p < 12) : q ||| 2 ^ p < 4096 := Nat.or_lt_two_pow (n := 12) hq (Nat.pow_lt_pow_right (by decide) hp)
set_option maxHeartbeats 2000000 in
set_option maxRecDepth 10000 in
theorem impl_step_c {w : World} {v : Value} {l : Lb} (h : LabR w v l) (hv : okArcs l.2.1 l.2.2) (hS : l.2.1 ≤ 12) {s : Nat} (_hs : s < 4096) (x : Int) :
    Calls Try.prog 39 #[v, .int .i64 s, .int .i64 x] w fun e w' => e = .returned (.int .i64 (stepN l.2.2 s x)) ∧ Below w.heap.size w w' := by
  obtain ⟨L, S, xs⟩ := l
  obtain ⟨va, rfl, hlen, a, c, rfl, _, _, _, hcell⟩ := h
  simp only at hcell hlen hv hS
  simp only
  have H0 := Lib.hid (show stepN xs s x = stepL s x (xs.drop 0) 0 from rfl)
  generalize stepN xs s x = T at H0 ⊢
  obtain ⟨n, hn⟩ : ∃ n, n = xs.length := ⟨_, rfl⟩
  have Hn := Lib.hid hn
  rw [← hn] at hcell hlen ⊢
  clear hn
  have Hv := Lib.hid hv
  clear hv
  go_enter Try.func39, Try.ntmps39
  have q2 : (w.alloc (.cells #[.int .i64 L, .int .i64 S, .slice a n c] 26)).cell? ⟨w.heap.size, 2, none⟩ = some (.slice a n c) := by simp
  have hb1 : Below w.heap.size w (w.alloc (.cells #[.int .i64 L, .int .i64 S, .slice a n c] 26)) := (Below.refl _ _).alloc (Nat.le_refl _) _
  have m1 : w.heap.size < (w.alloc (.cells #[.int .i64 L, .int .i64 S, .slice a n c] 26)).heap.size := by simp
  go_wp2
  generalize w.alloc (.cells #[.int .i64 L, .int .i64 S, .slice a n c] 26) = w1 at *
  have Hb1 := Lib.hid hb1
  have hz := hb1.size
  go_loopg [7, 13] n (fun g u i wr => ∃ (k q : Nat), i = .int .i64 k ∧ u = .int .i64 q ∧ q < 4096 ∧ k + g = n ∧ Hid (T = stepL s x (xs.drop k) q) ∧ Below w1.heap.size w1 wr)
  case atStart => exact ⟨0, 0, rfl, rfl, by decide, by omega, H0, Below.refl _ _⟩
  case round =>
    obtain ⟨k, q, rfl, rfl, hq, hk, HK, hbel⟩ := hrel
    by_cases hlt : k < n
    · obtain ⟨b, o, rfl, hb, hx0⟩ := hcell (by omega)
      obtain ⟨y, hy, hd⟩ := at_lt (xs := xs) (k := k) (by have := Hn.out; omega)
      obtain ⟨f0, f1, f2⟩ := hx0 k y hy
      obtain ⟨i0, i1, i2, i3⟩ := okArcs_at Hv.out hy
      have g0 : wr.cell? ⟨b, o + k * 3, none⟩ = some (.int .i64 y.1) := (hbel.cell (p := ⟨b, o + k * 3, none⟩) (by simp; omega)).trans ((hb1.cell (p := ⟨b, o + k * 3, none⟩) hb).trans f0)
      have g1 : wr.cell? ⟨b, o + k * 3 + 1, none⟩ = some (.int .i64 y.2.1) := (hbel.cell (p := ⟨b, o + k * 3 + 1, none⟩) (by simp; omega)).trans ((hb1.cell (p := ⟨b, o + k * 3 + 1, none⟩) hb).trans f1)
      have g2 : wr.cell? ⟨b, o + k * 3 + 2, none⟩ = some (.int .i64 y.2.2) := (hbel.cell (p := ⟨b, o + k * 3 + 2, none⟩) (by simp; omega)).trans ((hb1.cell (p := ⟨b, o + k * 3 + 2, none⟩) hb).trans f2)
      have r2 : wr.cell? ⟨w.heap.size, 2, none⟩ = some (.slice (some ⟨b, o, none⟩) n c) := (hbel.cell (p := ⟨w.heap.size, 2, none⟩) m1).trans q2
      have hz2 := hbel.size
      have hbr : b < wr.heap.size := by omega
      have hwr : w.heap.size < wr.heap.size := by omega
      have Hbel := Lib.hid hbel
      have HK1 := Lib.hid (show T = stepL s x (xs.drop (k + 1)) (if hit s x y = true then q ||| 2 ^ y.2.1.toNat else q) from by rw [HK.out, hd]; rfl)
      obtain ⟨y0, y1, y2⟩ := y
      simp only at g0 g1 g2 i0 i1 i2 i3 HK1
      obtain ⟨p0, rfl⟩ := Int.eq_ofNat_of_zero_le i0
      obtain ⟨p1, rfl⟩ := Int.eq_ofNat_of_zero_le i2
      clear HK hx0 hcell hy hd f0 f1 f2 hbel hb1 q2 H0 Hv
      have HT := Lib.hid (show (p1 : Nat) < 12 from by omega)
      have Hbs := Lib.hid (bit_shr s p0)
      have Hh := Lib.hid (show hit s x ((p0 : Int), (p1 : Int), y2) = (decide (y2 = x) && s.testBit p0) from rfl)
      generalize s.testBit p0 = tb at Hbs Hh
      cases tb with
      | false =>
        have HK2 := Lib.hid (show T = stepL s x (xs.drop (k + 1)) q from by rw [HK1.out, if_neg (by rw [Hh.out]; simp)])
        have hbs : bits BinOp.and IntKind.i64 ((s : Int) / 2 ^ p0) 1 = 0 := by rw [Hbs.out]; rfl
        clear HK1 Hh Hbs
        go_wp2
        go_roundg (n - (k + 1))
        case measure => omega
        case rel => exact ⟨k + 1, q, by go_num, rfl, hq, by omega, HK2, Hbel.out.alloc hz2 _⟩
      | true =>
      have hbs : bits BinOp.and IntKind.i64 ((s : Int) / 2 ^ p0) 1 = 1 := by rw [Hbs.out]; rfl
      by_cases he : y2 = x
      · have HK2 := Lib.hid (show T = stepL s x (xs.drop (k + 1)) (q ||| 2 ^ p1) from by rw [HK1.out, if_pos (by rw [Hh.out]; simp [he])]; rfl)
        have t1 : (y2 == x) = true := by simp [he]
        have hor := bit_or q p1 hq HT.out
        have Hlt := Lib.hid (or_lt q p1 hq HT.out)
        clear HK1 Hh Hbs he
        generalize q ||| 2 ^ p1 = q' at hor HK2 Hlt
        go_wp2
        go_roundg (n - (k + 1))
        case measure => omega
        case rel => exact ⟨k + 1, q', by go_num, rfl, Hlt.out, by omega, HK2, Hbel.out.alloc hz2 _⟩
      · have HK2 := Lib.hid (show T = stepL s x (xs.drop (k + 1)) q from by rw [HK1.out, if_neg (by rw [Hh.out]; simp [he])])
        have t1 : (y2 == x) = false := by simp [he]
        clear HK1 Hh Hbs he
        go_wp2
        go_roundg (n - (k + 1))
        case measure => omega
        case rel => exact ⟨k + 1, q, by go_num, rfl, hq, by omega, HK2, Hbel.out.alloc hz2 _⟩
    · have HF := Lib.hid (show T = q from by rw [HK.out, drop_len (by have := Hn.out; omega)]; rfl)
      have Hbz := Lib.hid (Hb1.out.trans (hbel.mono hz))
      clear HK hbel hb1 hcell H0 Hv
      go_wp2
      go_ret
      exact ⟨by rw [HF.out]; rfl, Hbz.out⟩
set_option maxHeartbeats 2000000 in
set_option maxRecDepth 10000 in
theorem spec_step_c {w : World} {v : Value} {l : Lb} (h : LabR w v l) (hv : okArcs l.2.1 l.2.2) (hS : l.2.1 ≤ 12) {s : Nat} (_hs : s < 4096) (x : Int) :
    Calls Try.prog 50 #[v, .int .i64 s, .int .i64 x] w fun e w' => e = .returned (.int .i64 (stepN l.2.2 s x)) ∧ Below w.heap.size w w' := by
  obtain ⟨L, S, xs⟩ := l
  obtain ⟨va, rfl, hlen, a, c, rfl, _, _, _, hcell⟩ := h
  simp only at hcell hlen hv hS
  simp only
  have H0 := Lib.hid (show stepN xs s x = stepL s x (xs.drop 0) 0 from rfl)
  generalize stepN xs s x = T at H0 ⊢
  obtain ⟨n, hn⟩ : ∃ n, n = xs.length := ⟨_, rfl⟩
  have Hn := Lib.hid hn
  rw [← hn] at hcell hlen ⊢
  clear hn
  have Hv := Lib.hid hv
  clear hv
  go_enter Try.func50, Try.ntmps50
  have q2 : (w.alloc (.cells #[.int .i64 L, .int .i64 S, .slice a n c] 26)).cell? ⟨w.heap.size, 2, none⟩ = some (.slice a n c) := by simp
  have hb1 : Below w.heap.size w (w.alloc (.cells #[.int .i64 L, .int .i64 S, .slice a n c] 26)) := (Below.refl _ _).alloc (Nat.le_refl _) _
  have m1 : w.heap.size < (w.alloc (.cells #[.int .i64 L, .int .i64 S, .slice a n c] 26)).heap.size := by simp
  go_wp2
  generalize w.alloc (.cells #[.int .i64 L, .int .i64 S, .slice a n c] 26) = w1 at *
  have Hb1 := Lib.hid hb1
  have hz := hb1.size
  go_loopg [7, 8] n (fun g u i wr => ∃ (k q : Nat), i = .int .i64 k ∧ u = .int .i64 q ∧ q < 4096 ∧ k + g = n ∧ Hid (T = stepL s x (xs.drop k) q) ∧ Below w1.heap.size w1 wr)
  case atStart => exact ⟨0, 0, rfl, rfl, by decide, by omega, H0, Below.refl _ _⟩
  case round =>
    obtain ⟨k, q, rfl, rfl, hq, hk, HK, hbel⟩ := hrel
    by_cases hlt : k < n
    · obtain ⟨b, o, rfl, hb, hx0⟩ := hcell (by omega)
      obtain ⟨y, hy, hd⟩ := at_lt (xs := xs) (k := k) (by have := Hn.out; omega)
      obtain ⟨f0, f1, f2⟩ := hx0 k y hy
      obtain ⟨i0, i1, i2, i3⟩ := okArcs_at Hv.out hy
      have g0 : wr.cell? ⟨b, o + k * 3, none⟩ = some (.int .i64 y.1) := (hbel.cell (p := ⟨b, o + k * 3, none⟩) (by simp; omega)).trans ((hb1.cell (p := ⟨b, o + k * 3, none⟩) hb).trans f0)
      have g1 : wr.cell? ⟨b, o + k * 3 + 1, none⟩ = some (.int .i64 y.2.1) := (hbel.cell (p := ⟨b, o + k * 3 + 1, none⟩) (by simp; omega)).trans ((hb1.cell (p := ⟨b, o + k * 3 + 1, none⟩) hb).trans f1)
      have g2 : wr.cell? ⟨b, o + k * 3 + 2, none⟩ = some (.int .i64 y.2.2) := (hbel.cell (p := ⟨b, o + k * 3 + 2, none⟩) (by simp; omega)).trans ((hb1.cell (p := ⟨b, o + k * 3 + 2, none⟩) hb).trans f2)
      have r2 : wr.cell? ⟨w.heap.size, 2, none⟩ = some (.slice (some ⟨b, o, none⟩) n c) := (hbel.cell (p := ⟨w.heap.size, 2, none⟩) m1).trans q2
      have hz2 := hbel.size
      have hbr : b < wr.heap.size := by omega
      have hwr : w.heap.size < wr.heap.size := by omega
      have Hbel := Lib.hid hbel
      have HK1 := Lib.hid (show T = stepL s x (xs.drop (k + 1)) (if hit s x y = true then q ||| 2 ^ y.2.1.toNat else q) from by rw [HK.out, hd]; rfl)
      obtain ⟨y0, y1, y2⟩ := y
      simp only at g0 g1 g2 i0 i1 i2 i3 HK1
      obtain ⟨p0, rfl⟩ := Int.eq_ofNat_of_zero_le i0
      obtain ⟨p1, rfl⟩ := Int.eq_ofNat_of_zero_le i2
      clear HK hx0 hcell hy hd f0 f1 f2 hbel hb1 q2 H0 Hv
      have HT := Lib.hid (show (p1 : Nat) < 12 from by omega)
      have Hbs := Lib.hid (bit_shr s p0)
      have Hh := Lib.hid (show hit s x ((p0 : Int), (p1 : Int), y2) = (decide (y2 = x) && s.testBit p0) from rfl)
      generalize s.testBit p0 = tb at Hbs Hh
      cases tb with
      | false =>
        have HK2 := Lib.hid (show T = stepL s x (xs.drop (k + 1)) q from by rw [HK1.out, if_neg (by rw [Hh.out]; simp)])
        have hbs : bits BinOp.and IntKind.i64 ((s : Int) / 2 ^ p0) 1 = 0 := by rw [Hbs.out]; rfl
        clear HK1 Hh Hbs
        by_cases he : y2 = x
        · have t1 : (y2 == x) = true := by simp [he]
          clear he
          go_wp2
          go_roundg (n - (k + 1))
          case measure => omega
          case rel => exact ⟨k + 1, q, by go_num, rfl, hq, by omega, HK2, Hbel.out.alloc hz2 _⟩
        · have t1 : (y2 == x) = false := by simp [he]
          clear he
          go_wp2
          go_roundg (n - (k + 1))
          case measure => omega
          case rel => exact ⟨k + 1, q, by go_num, rfl, hq, by omega, HK2, Hbel.out.alloc hz2 _⟩
      | true =>
      have hbs : bits BinOp.and IntKind.i64 ((s : Int) / 2 ^ p0) 1 = 1 := by rw [Hbs.out]; rfl
      by_cases he : y2 = x
      · have HK2 := Lib.hid (show T = stepL s x (xs.drop (k + 1)) (q ||| 2 ^ p1) from by rw [HK1.out, if_pos (by rw [Hh.out]; simp [he])]; rfl)
        have t1 : (y2 == x) = true := by simp [he]
        have hor := bit_or q p1 hq HT.out
        have Hlt := Lib.hid (or_lt q p1 hq HT.out)
        clear HK1 Hh Hbs he
        generalize q ||| 2 ^ p1 = q' at hor HK2 Hlt
        go_wp2
        go_roundg (n - (k + 1))
        case measure => omega
        case rel => exact ⟨k + 1, q', by go_num, rfl, Hlt.out, by omega, HK2, Hbel.out.alloc hz2 _⟩
      · have HK2 := Lib.hid (show T = stepL s x (xs.drop (k + 1)) q from by rw [HK1.out, if_neg (by rw [Hh.out]; simp [he])])
        have t1 : (y2 == x) = false := by simp [he]
        clear HK1 Hh Hbs he
        go_wp2
        go_roundg (n - (k + 1))
        case measure => omega
        case rel => exact ⟨k + 1, q, by go_num, rfl, hq, by omega, HK2, Hbel.out.alloc hz2 _⟩
    · have HF := Lib.hid (show T = q from by rw [HK.out, drop_len (by have := Hn.out; omega)]; rfl)
      have Hbz := Lib.hid (Hb1.out.trans (hbel.mono hz))
      have r2 : wr.cell? ⟨w.heap.size, 2, none⟩ = some (.slice a n c) := (hbel.cell (p := ⟨w.heap.size, 2, none⟩) m1).trans q2
      clear HK hbel hb1 hcell H0 Hv
      go_wp2
      go_ret
      exact ⟨by rw [HF.out]; rfl, Hbz.out⟩
end Go.Proofs.Ytcilgihmaaobeaa
end
