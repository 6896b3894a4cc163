/-
  Texts of this claim joined: laws for its walks, contracts of the functions that the law reaches.
-/
import Derived.Test.YtcilgihmaaobeaaLabelsOfM1
import Derived.Test.YtcilgihmaaobeaaLabelsOfM2
import Derived.Maps.OwnSet
import Derived.Test.YtcilgihmaaobeaaRows
import Derived.Laws.BitsLemmas
section
/-
  Own slices whose elements are several plain cells each (structs, arrays of numbers): how they read, append of one element.
-/
namespace Go.Sd
open Go.RowKit Go.Deep
/-- Elements of sz cells each, given by f. -/
structure Lay {α : Type} (sz : Nat) (f : α → List Value) : Prop where
  pos : 0 < sz
  len : ∀ x, (f x).length = sz
  one : ∀ x u, u ∈ f x → u.oneCell' = true
def RowG {α : Type} (e : TypeId) (sz : Nat) (f : α → List Value) : OwnRel (List α) := fun w v xs F => w.ownsRow 0 e sz v xs.length (xs.flatMap f) ∧ F = v.ownBlock.toList
section
variable {α : Type} {e : TypeId} {sz : Nat} {f : α → List Value}
theorem flatMap_len (L : Lay sz f) : ∀ (xs : List α), (xs.flatMap f).length = xs.length * sz
  | [] => by simp
  | x :: xs => by simp only [List.flatMap_cons, List.length_append, List.length_cons, L.len, flatMap_len L xs, Nat.add_mul]; omega
theorem flatMap_at (L : Lay sz f) : ∀ {xs : List α} {i j : Nat} {x : α} {u : Value}, xs[i]? = some x → (f x)[j]? = some u → (xs.flatMap f)[i * sz + j]? = some u
  | [], i, j, x, u, h, _ => by simp at h
  | y :: xs, 0, j, x, u, h, hu => by
    simp at h
    subst h
    have hj := (List.getElem?_eq_some_iff.1 hu).1
    rw [List.flatMap_cons, Nat.zero_mul, Nat.zero_add, List.getElem?_append_left hj]
    exact hu
  | y :: xs, i + 1, j, x, u, h, hu => by
    have h2 : xs[i]? = some x := by simpa using h
    have ih := flatMap_at L h2 hu
    have e : (i + 1) * sz + j = (f y).length + (i * sz + j) := by rw [L.len, Nat.add_mul]; omega
    rw [List.flatMap_cons, e, List.getElem?_append_right (by omega), Nat.add_sub_cancel_left]
    exact ih
theorem RowG.held : Held (RowG e sz f) := by
  refine ⟨fun w w' v xs F ⟨h, eF⟩ hk => ?_, fun w v xs F ⟨h, eF⟩ b hb => ?_⟩
  · subst eF
    exact ⟨ownsRow_keep h fun b hb => hk b (by simp [hb]), rfl⟩
  · subst eF
    simp at hb
    exact (h.lt b hb).2
theorem RowG.nil {w : World} {lo : Nat} : New (RowG e sz f) lo w (.slice none 0 0) [] := ⟨[], ⟨World.ownsRow_nil _ _ _ _, rfl⟩, by simp [Fresh]⟩
theorem RowG.slice {w : World} {v : Value} {xs : List α} {F : List Nat} (h : RowG e sz f w v xs F) : ∃ a c, v = .slice a xs.length c := by
  rcases h.1.2 with ⟨rfl, h0⟩ | ⟨g, cap, cur, rfl, _⟩
  · exact ⟨none, 0, by rw [h0]⟩
  · exact ⟨_, _, rfl⟩
theorem RowG.at (L : Lay sz f) {w : World} {v : Value} {xs : List α} {F : List Nat} (h : RowG e sz f w v xs F) (h0 : 0 < xs.length) :
    ∃ g c, v = .slice (some ⟨g, 0, none⟩) xs.length c ∧ F = [g] ∧ xs.length ≤ c ∧ c ≤ maxLen ∧ g < w.heap.size ∧ ∀ i x j u, xs[i]? = some x → (f x)[j]? = some u → w.cell? ⟨g, i * sz + j, none⟩ = some u ∧ w.frozen? ⟨g, i * sz + j, none⟩ = false := by
  obtain ⟨h, rfl⟩ := h
  have hh := h
  rcases h.2 with ⟨rfl, h1⟩ | ⟨g, cap, cur, rfl, _, hg, h1, h2, h3, h4⟩
  · omega
  · refine ⟨g, cap, rfl, rfl, h1, h2, (hh.lt g rfl).2, fun i x j u hx hu => ⟨?_, ?_⟩⟩
    · have := hh.cells (g := g) rfl _ _ (flatMap_at L hx hu)
      have e : (⟨g, 0, none⟩ : Addr).add (i * sz + j) = ⟨g, i * sz + j, none⟩ := by unfold Addr.add; split <;> simp_all
      rw [e] at this
      exact this
    · have hc := hh.cells (g := g) rfl _ _ (flatMap_at L hx hu)
      simp [World.frozen?, hg]
theorem New.rowAt (L : Lay sz f) {lo : Nat} {w : World} {v : Value} {xs : List α} (h : New (RowG e sz f) lo w v xs) (h0 : 0 < xs.length) :
    ∃ g c, v = .slice (some ⟨g, 0, none⟩) xs.length c ∧ xs.length ≤ c ∧ c ≤ maxLen ∧ lo ≤ g ∧ g < w.heap.size ∧ ∀ i x j u, xs[i]? = some x → (f x)[j]? = some u → w.cell? ⟨g, i * sz + j, none⟩ = some u ∧ w.frozen? ⟨g, i * sz + j, none⟩ = false := by
  obtain ⟨F, hF, hn, hge⟩ := h
  obtain ⟨g, c, e, rfl, h1, h2, h3, h4⟩ := hF.at L h0
  exact ⟨g, c, e, h1, h2, hge g (by simp), h3, h4⟩
theorem New.rowSlice {lo : Nat} {w : World} {v : Value} {xs : List α} (h : New (RowG e sz f) lo w v xs) : ∃ a c, v = .slice a xs.length c := by
  obtain ⟨F, hF, _⟩ := h; exact hF.slice
theorem New.rowLen (L : Lay sz f) {lo : Nat} {w : World} {v : Value} {xs : List α} (h : New (RowG e sz f) lo w v xs) : xs.length ≤ maxLen := by
  by_cases h0 : 0 < xs.length
  · obtain ⟨g, c, _, h1, h2, _⟩ := h.rowAt L h0; omega
  · omega
section
variable {P : Program} {w : World} {ops : Array Oper} {rest : List Oper} {o : Oper} {a : Act} {Q : Exit → Act → World → Prop}
/-- 'append(v, y)' where y has sz plain cells, laid in a block of its own. -/
theorem wpl_pushG (L : Lay sz f) (hgd : Region.wanted o (yielded ops a.tmps) = true) (s x : Operand) (t : TypeId)
    (ho : o.op = .call { callee := .builtin .append, args := #[s, x], argTypes := #[t, t] })
    (z : Value) (bytes : Nat) (ht : P.underlying t = some (.slice e)) (hinfo : (P.info? e).map (fun i => (i.zero, i.size, i.bytes)) = some (some z, sz, bytes)) (hz1 : z.cells.size = sz)
    {lo : Nat} {v : Value} {xs : List α} (h0 : New (RowG e sz f) lo w v xs) (hlo : lo ≤ w.heap.size)
    (y : α) {bb : Nat} {c : Nat} (hcell : ∀ j u, (f y)[j]? = some u → w.cell? ⟨bb, j, none⟩ = some u)
    (hs : a.eval s = v) (hx : a.eval x = .slice (some ⟨bb, 0, none⟩) 1 c)
    (hbytes : (xs.length + 1) * bytes ≤ 140737488355328) (h63 : xs.length + 1 ≤ 9223372036854775807)
    (h : ∀ v' w', New (RowG e sz f) lo w' v' (xs ++ [y]) → Below lo w w' → wpList P ops Q rest (a.put o.dst v') w') :
    wpList P ops Q (o :: rest) a w := by
  obtain ⟨i, hi, hzz⟩ := Option.map_eq_some_iff.1 hinfo
  simp only [Prod.mk.injEq] at hzz
  obtain ⟨hz, hsz, hby⟩ := hzz
  obtain ⟨F, ⟨how, rfl⟩, hnd, hge⟩ := h0
  have hvlt : ∀ k, v.ownBlock = some k → lo ≤ k ∧ k < w.heap.size := fun k hk => ⟨hge k (by simp [hk]), (how.lt k hk).2⟩
  obtain ⟨v', w', hrun, how', hg, _, hat⟩ := run_append_own_at (P := P) w 0 t o.type e i z sz bytes ht hi hz hsz hby hz1 L.pos v xs.length (xs.flatMap f) how ⟨bb, 0, none⟩ 1 c (f y) (by rw [L.len]; omega)
    (by
      intro j u' hj
      have e : (⟨bb, 0, none⟩ : Addr).add j = ⟨bb, j, none⟩ := by unfold Addr.add; split <;> simp_all
      rw [e]
      exact hcell j u' hj)
    (fun u hu => L.one y u hu) h63 hbytes (Nat.zero_le _)
  refine wpl_append_run hgd s x t ho hs hx hrun ?_
  refine h v' w' ⟨v'.ownBlock.toList, ⟨by simpa [List.flatMap_append] using how', rfl⟩, by cases v'.ownBlock <;> simp, ?_⟩ (Below.of_grown hg hlo (fun k hk => (hvlt k hk).1))
  intro b hb
  simp at hb
  rcases hat with hat | hat
  · rw [hat] at hb; exact (hvlt b hb).1
  · rw [hat] at hb; simp at hb; omega
end
end
def acell (x : Arc3) : List Value := [.int .i64 x.1, .int .i64 x.2.1, .int .i64 x.2.2]
theorem acell_lay : Lay 3 acell := ⟨by decide, fun _ => rfl, fun x u hu => by
  simp [acell] at hu
  rcases hu with rfl | rfl | rfl <;> rfl⟩
abbrev RowA (e : TypeId) : OwnRel (List Arc3) := RowG e 3 acell
theorem RowG.arcs {e : TypeId} {w : World} {v : Value} {xs : List Arc3} {F : List Nat} (h : RowA e w v xs F) : OArcs w v xs F := by
  by_cases h0 : 0 < xs.length
  · obtain ⟨g, c, rfl, rfl, h1, h2, h3, h4⟩ := RowG.at acell_lay h h0
    have h2' : c ≤ 9223372036854775807 := h2
    refine ⟨by omega, Or.inr ⟨g, c, rfl, h1, h2', rfl, h3, fun j hj => ?_⟩⟩
    obtain ⟨x, hx, _⟩ := at_lt (xs := xs) (k := j / 3) (by omega)
    have hg : xs.getD (j / 3) (0, 0, 0) = x := by simp [List.getD, hx]
    have e : j / 3 * 3 + j % 3 = j := by omega
    have key : arcF xs xs.length j = comp (j % 3) x := by unfold arcF; rw [if_pos (by omega), hg]
    rw [key]
    have h5 := h4 (j / 3) x (j % 3) (.int .i64 (comp (j % 3) x)) hx (by
      have h3 : j % 3 = 0 ∨ j % 3 = 1 ∨ j % 3 = 2 := by omega
      rcases h3 with h3 | h3 | h3 <;> rw [h3] <;> rfl)
    rw [e] at h5
    exact h5
  · have e0 : xs = [] := List.eq_nil_of_length_eq_zero (by omega)
    subst e0
    obtain ⟨h, rfl⟩ := h
    rcases h.2 with ⟨rfl, _⟩ | ⟨g, cap, cur, rfl, _, hg, h1, h2, _, _⟩
    · exact ⟨by simp, Or.inl ⟨rfl, rfl, rfl⟩⟩
    · have h2' : cap ≤ 9223372036854775807 := h2
      exact ⟨by simp, Or.inr ⟨g, cap, rfl, h1, h2', rfl, (h.lt g rfl).2, fun j hj => by simp at hj⟩⟩
end Go.Sd
end

section
/-
  Many things of the call's own, side by side, each with blocks of its own.
-/
namespace Go.Sd
open Go.RowKit Go.Deep

/-- A thing that lies in blocks: what it says, and that it looks at these blocks alone. -/
structure Res where
  p : World → List Nat → Prop
  keep : ∀ w w' F, p w F → (∀ b, b ∈ F → w'.heap[b]? = w.heap[b]?) → p w' F
  lt : ∀ w F, p w F → ∀ b, b ∈ F → b < w.heap.size

/-- An own value. -/
def Res.of {α : Type} (R : OwnRel α) (hR : Held R) (v : Value) (x : α) : Res := ⟨fun w F => R w v x F, fun _ _ _ h hk => hR.keep _ _ _ _ _ h hk, fun _ _ h b hb => hR.lt _ _ _ _ h b hb⟩

/-- A block that holds these cells. -/
def Cells (w : World) (b : Nat) (vs : List Value) : Prop := b < w.heap.size ∧ ∀ j u, vs[j]? = some u → w.cell? ⟨b, j, none⟩ = some u ∧ w.frozen? ⟨b, j, none⟩ = false
theorem Cells.same {w w' : World} {b : Nat} {vs : List Value} (h : Cells w b vs) (e : w'.heap[b]? = w.heap[b]?) : Cells w' b vs := by
  obtain ⟨h0, h1⟩ := h
  refine ⟨?_, fun j u hu => ?_⟩
  · have h3 : (w.heap[b]?).isSome = true := by simp [h0]
    rw [← e] at h3
    simpa using h3
  · obtain ⟨a1, a2⟩ := h1 j u hu
    refine ⟨?_, ?_⟩
    · rw [← a1]; simp [World.cell?, e]
    · rw [← a2]; simp [World.frozen?, e]
theorem Cells.store {w : World} {b : Nat} {vs : List Value} (h : Cells w b vs) {j : Nat} {u0 : Value} (hj : vs[j]? = some u0) (u : Value) : Cells (w.setCell ⟨b, j, none⟩ u) b (vs.set j u) := by
  obtain ⟨h0, h1⟩ := h
  have hl := (List.getElem?_eq_some_iff.1 hj).1
  refine ⟨by rw [World.size_setCell]; exact h0, fun i x hx => ?_⟩
  by_cases e : i = j
  · subst e
    rw [List.getElem?_set_self hl] at hx
    cases hx
    exact ⟨World.cell?_setCell_same _ _ _ (h1 i u0 hj).1, (World.frozen?_setCell _ _ _ _).trans (h1 i u0 hj).2⟩
  · rw [List.getElem?_set_ne (Ne.symm e)] at hx
    exact ⟨(World.cell?_setCell_other _ _ _ _ (by simp <;> omega)).trans (h1 i x hx).1, (World.frozen?_setCell _ _ _ _).trans (h1 i x hx).2⟩
def Res.box (b : Nat) (vs : List Value) : Res := ⟨fun w F => F = [b] ∧ Cells w b vs, fun _ _ _ h hk => ⟨h.1, h.2.same (hk b (by rw [h.1]; simp))⟩, fun _ _ h c hc => by rw [h.1] at hc; simp at hc; rw [hc]; exact h.2.1⟩

def SepF (w : World) : List Res → List Nat → Prop
  | [], F => F = []
  | r :: rs, F => ∃ G H, F = G ++ H ∧ r.p w G ∧ SepF w rs H
def Sep (lo : Nat) (w : World) (rs : List Res) : Prop := ∃ F, SepF w rs F ∧ Fresh lo F

theorem SepF.keep {w w' : World} : ∀ {rs : List Res} {F : List Nat}, SepF w rs F → (∀ b, b ∈ F → w'.heap[b]? = w.heap[b]?) → SepF w' rs F
  | [], _, h, _ => h
  | r :: rs, _, ⟨G, H, e, h1, h2⟩, hk => by
    subst e
    exact ⟨G, H, rfl, r.keep _ _ _ h1 fun b hb => hk b (List.mem_append_left _ hb), SepF.keep h2 fun b hb => hk b (List.mem_append_right _ hb)⟩
theorem SepF.lt {w : World} : ∀ {rs : List Res} {F : List Nat}, SepF w rs F → ∀ b, b ∈ F → b < w.heap.size
  | [], _, h, b, hb => by rw [show _ = [] from h] at hb; cases hb
  | r :: rs, _, ⟨G, H, e, h1, h2⟩, b, hb => by
    subst e
    rcases List.mem_append.1 hb with hb | hb
    · exact r.lt _ _ h1 b hb
    · exact SepF.lt h2 b hb
theorem Sep.nil (lo : Nat) (w : World) : Sep lo w [] := ⟨[], rfl, by simp [Fresh]⟩
theorem Sep.mono {lo lo' : Nat} {w : World} {rs : List Res} (h : Sep lo w rs) (hl : lo' ≤ lo) : Sep lo' w rs := by
  obtain ⟨F, h1, h2, h3⟩ := h
  exact ⟨F, h1, h2, fun b hb => Nat.le_trans hl (h3 b hb)⟩
/-- What is made since lies elsewhere. -/
theorem Sep.below {lo B : Nat} {w w' : World} {rs : List Res} (h : Sep lo w rs) (hb : Below B w w') (hB : w.heap.size ≤ B) : Sep lo w' rs := by
  obtain ⟨F, h1, h2⟩ := h
  exact ⟨F, h1.keep fun b hm => hb.block b (Nat.lt_of_lt_of_le (h1.lt b hm) hB), h2⟩
theorem Sep.cons {lo : Nat} {w w' : World} {rs : List Res} {r : Res} (h : Sep lo w rs) (hb : Below w.heap.size w w') (hlo : lo ≤ w.heap.size) {G : List Nat} (hr : r.p w' G) (hG : Fresh w.heap.size G) : Sep lo w' (r :: rs) := by
  obtain ⟨F, h1, h2, h3⟩ := h
  refine ⟨G ++ F, ⟨G, F, rfl, hr, h1.keep fun b hm => hb.block b (h1.lt b hm)⟩, List.nodup_append.2 ⟨hG.1, h2, fun p hp q hq e => ?_⟩, fun b hm => ?_⟩
  · subst e
    have := hG.2 p hp
    have := h1.lt p hq
    omega
  · rcases List.mem_append.1 hm with hm | hm
    · exact Nat.le_trans hlo (hG.2 b hm)
    · exact h3 b hm
/-- A new own value. -/
theorem Sep.new {α : Type} {R : OwnRel α} (hR : Held R) {lo : Nat} {w w' : World} {rs : List Res} (h : Sep lo w rs) (hb : Below w.heap.size w w') (hlo : lo ≤ w.heap.size) {v : Value} {x : α} (hn : New R w.heap.size w' v x) : Sep lo w' (Res.of R hR v x :: rs) := by
  obtain ⟨G, hG, hf⟩ := hn
  exact h.cons hb hlo (r := Res.of R hR v x) hG hf
theorem Sep.swap {lo : Nat} {w : World} {r s : Res} {rs : List Res} (h : Sep lo w (r :: s :: rs)) : Sep lo w (s :: r :: rs) := by
  obtain ⟨F, ⟨G, H, e1, h1, G2, H2, e2, h2, h3⟩, hn, hl⟩ := h
  subst e1 e2
  refine ⟨G2 ++ (G ++ H2), ⟨G2, _, rfl, h2, G, H2, rfl, h1, h3⟩, ?_, fun b hb => hl b ?_⟩
  · have hp : (G2 ++ (G ++ H2)).Perm (G ++ (G2 ++ H2)) := by
      rw [← List.append_assoc, ← List.append_assoc]
      exact List.Perm.append_right _ List.perm_append_comm
    exact hp.nodup_iff.2 hn
  · simp only [List.mem_append] at hb ⊢
    rcases hb with h | h | h
    · exact Or.inr (Or.inl h)
    · exact Or.inl h
    · exact Or.inr (Or.inr h)
theorem Sep.tail {lo : Nat} {w : World} {r : Res} {rs : List Res} (h : Sep lo w (r :: rs)) : Sep lo w rs := by
  obtain ⟨F, ⟨G, H, e1, h1, h2⟩, hn, hl⟩ := h
  subst e1
  exact ⟨H, h2, (List.nodup_append.1 hn).2.1, fun b hb => hl b (List.mem_append_right _ hb)⟩
/-- The third to the front. -/
theorem Sep.third {lo : Nat} {w : World} {r s t : Res} {rs : List Res} (h : Sep lo w (r :: s :: t :: rs)) : Sep lo w (t :: r :: s :: rs) := by
  obtain ⟨F, ⟨G, H, e1, h1, G2, H2, e2, h2, G3, H3, e3, h3, h4⟩, hn, hl⟩ := h
  subst e1 e2 e3
  have hp : (G3 ++ (G ++ (G2 ++ H3))).Perm (G ++ (G2 ++ (G3 ++ H3))) := by
    have h1 : (G3 ++ ((G ++ G2) ++ H3)).Perm ((G ++ G2) ++ (G3 ++ H3)) := by
      have h2 := List.Perm.append_right H3 (List.perm_append_comm (l₁ := G3) (l₂ := G ++ G2))
      simpa [List.append_assoc] using h2
    simpa [List.append_assoc] using h1
  exact ⟨_, ⟨G3, _, rfl, h3, G, _, rfl, h1, G2, H3, rfl, h2, h4⟩, hp.nodup_iff.2 hn, fun b hb => hl b (hp.mem_iff.1 hb)⟩
/-- The first turns, in its own blocks and new ones; the others stay. -/
theorem Sep.head {lo : Nat} {w : World} {r : Res} {rs : List Res} (h : Sep lo w (r :: rs)) :
    ∃ G, r.p w G ∧ Fresh lo G ∧ ∀ (w' : World) (r' : Res) (G' : List Nat), r'.p w' G' → G'.Nodup → (∀ b, b ∈ G' → b ∈ G ∨ w.heap.size ≤ b) → lo ≤ w.heap.size → (∀ b, b < w.heap.size → b ∉ G → w'.heap[b]? = w.heap[b]?) → Sep lo w' (r' :: rs) := by
  obtain ⟨F, ⟨G, H, e, h1, h2⟩, hn, hl⟩ := h
  subst e
  have hnd := List.nodup_append.1 hn
  refine ⟨G, h1, ⟨hnd.1, fun b hb => hl b (List.mem_append_left _ hb)⟩, fun w' r' G' hr' hn' hs hlo hk => ?_⟩
  have hlt := h2.lt
  refine ⟨G' ++ H, ⟨G', H, rfl, hr', h2.keep fun b hb => hk b (hlt b hb) fun hm => hnd.2.2 b hm b hb rfl⟩, List.nodup_append.2 ⟨hn', hnd.2.1, fun p hp q hq e => ?_⟩, fun b hb => ?_⟩
  · subst e
    rcases hs p hp with h | h
    · exact hnd.2.2 p h p hq rfl
    · have := hlt p hq; omega
  · rcases List.mem_append.1 hb with hb | hb
    · rcases hs b hb with h | h
      · exact hl b (List.mem_append_left _ h)
      · omega
    · exact hl b (List.mem_append_right _ hb)
theorem Sep.headNew {α : Type} {R : OwnRel α} {hR : Held R} {v : Value} {x : α} {lo : Nat} {w : World} {rs : List Res} (h : Sep lo w (Res.of R hR v x :: rs)) : New R lo w v x := by
  obtain ⟨G, h1, h2, _⟩ := h.head
  exact ⟨G, h1, h2⟩
theorem Sep.headBox {b : Nat} {vs : List Value} {lo : Nat} {w : World} {rs : List Res} (h : Sep lo w (Res.box b vs :: rs)) : lo ≤ b ∧ Cells w b vs := by
  obtain ⟨G, ⟨rfl, h1⟩, h2, _⟩ := h.head
  exact ⟨h2.2 b (by simp), h1⟩
theorem Sep.apart {α β : Type} {R : OwnRel α} {S : OwnRel β} {hR : Held R} {hS : Held S} {v u : Value} {x : α} {y : β} {lo : Nat} {w : World} {rs : List Res} (h : Sep lo w (Res.of R hR v x :: Res.of S hS u y :: rs)) : Apart R S lo w v x u y := by
  obtain ⟨F, ⟨G, H, e1, hG, G2, H2, e2, hG2, h3⟩, hn, hl⟩ := h
  subst e1 e2
  have hnd := List.nodup_append.1 hn
  have hnd2 := List.nodup_append.1 hnd.2.1
  exact ⟨G, G2, hG, hG2, ⟨hnd.1, fun b hb => hl b (List.mem_append_left _ hb)⟩, ⟨hnd2.1, fun b hb => hl b (List.mem_append_right _ (List.mem_append_left _ hb))⟩, fun b hb hb2 => hnd.2.2 b hb b (List.mem_append_left _ hb2) rfl⟩
/-- A store into a box. -/
theorem Sep.boxStore {b : Nat} {vs : List Value} {lo : Nat} {w : World} {rs : List Res} (h : Sep lo w (Res.box b vs :: rs)) (hlo : lo ≤ w.heap.size) {j : Nat} {u0 : Value} (hj : vs[j]? = some u0) (u : Value) : Sep lo (w.setCell ⟨b, j, none⟩ u) (Res.box b (vs.set j u) :: rs) := by
  obtain ⟨G, ⟨rfl, h1⟩, h2, hK⟩ := h.head
  exact hK _ (Res.box b (vs.set j u)) [b] ⟨rfl, h1.store hj u⟩ (by simp) (fun _ h => Or.inl h) hlo fun c _ hc => Below.heap_setCell _ _ _ _ (fun e => hc (by simp; exact e))
/-- A new box. -/
theorem Sep.boxNew {lo : Nat} {w : World} {rs : List Res} (h : Sep lo w rs) (hlo : lo ≤ w.heap.size) (vs : List Value) (ty : TypeId) : Sep lo (w.alloc (.cells vs.toArray ty)) (Res.box w.heap.size vs :: rs) := by
  refine h.cons ((Below.refl _ _).alloc (Nat.le_refl _) _) hlo (r := Res.box w.heap.size vs) (G := [w.heap.size]) ⟨rfl, by simp, fun j u hu => ?_⟩ (by simp [Fresh])
  have h2 : vs.toArray[j]? = some u := by simpa using hu
  constructor
  · exact (World.cell?_alloc_at _ _ _ j rfl).trans h2
  · exact World.frozen?_alloc_new w _ _ j
section
variable {P : Program} {α : Type} {R : OwnRel α} {lo : Nat} {w : World} {v : Value} {e : TypeId} {rs : List Res}
/-- append of an element made since. -/
theorem Sep.push (hR : Kept R) (t ty : TypeId) (z : Value) (bytes : Nat) (ht : P.underlying t = some (.slice e)) (hinfo : (P.info? e).map (fun i => (i.zero, i.size, i.bytes)) = some (some z, 1, bytes)) (hz1 : z.cells = #[z])
    {xs : List α} {hh : Held (OwnOf e R)} (h : Sep lo w (Res.of (OwnOf e R) hh v xs :: rs)) (hlo : lo ≤ w.heap.size) {w1 : World} (hb : Below w.heap.size w w1) {q : Value} {x : α} (hq : New R w.heap.size w1 q x) {bb c : Nat} (hcell : w1.cell? ⟨bb, 0, none⟩ = some q) (hbytes : (xs.length + 1) * bytes ≤ 140737488355328) (h63 : xs.length + 1 ≤ 9223372036854775807) :
    ∃ v' w', (Builtin.append_ #[t, t] ty #[v, .slice (some ⟨bb, 0, none⟩) 1 c]).run P w1 = .ok v' w' ∧ Sep lo w' (Res.of (OwnOf e R) hh v' (xs ++ [x]) :: rs) ∧ Below lo w w' := by
  obtain ⟨G, hG, hf, hK⟩ := h.head
  obtain ⟨H, hH, hHn, hHg⟩ := hq
  have hG' : OwnOf e R w v xs G := hG
  have hltG := (OwnOf.kept (e := e) hR).lt _ _ _ _ hG'
  have hz := hb.size
  obtain ⟨v', w', F', hr, hF', hn', hs, hg, hv⟩ := push_run hR t ty e z bytes ht hinfo hz1 ((OwnOf.kept (e := e) hR).keep _ w1 _ _ _ hG' fun b hm => hb.block b (hltG b hm)) hf.1 hH hHn (fun b hm hm2 => by have := hltG b hm; have := hHg b hm2; omega) (c := c) hcell hbytes h63
  refine ⟨v', w', hr, hK w' (Res.of (OwnOf e R) hh v' (xs ++ [x])) F' hF' hn' (fun b hb2 => ?_) hlo fun b hlt hn => ?_, (hb.mono hlo).grown hg (by omega) fun k hk => hf.2 k (hv k hk)⟩
  · rcases hs b hb2 with h1 | h1 | h1
    · exact Or.inl h1
    · exact Or.inr (hHg b h1)
    · exact Or.inr (by omega)
  · exact (hg.block b (by omega) fun e => hn (hv b e.symm)).trans (hb.block b hlt)
end
/-- The second and the third change places. -/
theorem Sep.swap23 {lo : Nat} {w : World} {r s t : Res} {rs : List Res} (h : Sep lo w (r :: s :: t :: rs)) : Sep lo w (r :: t :: s :: rs) := h.third.swap
section
variable {P : Program} {α : Type} {R : OwnRel α} {lo : Nat} {w : World} {v u : Value} {e : TypeId} {rs : List Res}
/-- append of the second thing to the first. -/
theorem Sep.absorb (hR : Kept R) (t ty : TypeId) (z : Value) (bytes : Nat) (ht : P.underlying t = some (.slice e)) (hinfo : (P.info? e).map (fun i => (i.zero, i.size, i.bytes)) = some (some z, 1, bytes)) (hz1 : z.cells = #[z])
    {xs : List α} {y : α} {hh : Held (OwnOf e R)} {hr : Held R} (h : Sep lo w (Res.of (OwnOf e R) hh v xs :: Res.of R hr u y :: rs)) (hlo : lo ≤ w.heap.size) {w1 : World} (hb : Below w.heap.size w w1) {bb c : Nat} (hcell : w1.cell? ⟨bb, 0, none⟩ = some u) (hbytes : (xs.length + 1) * bytes ≤ 140737488355328) (h63 : xs.length + 1 ≤ 9223372036854775807) :
    ∃ v' w', (Builtin.append_ #[t, t] ty #[v, .slice (some ⟨bb, 0, none⟩) 1 c]).run P w1 = .ok v' w' ∧ Sep lo w' (Res.of (OwnOf e R) hh v' (xs ++ [y]) :: rs) ∧ Below lo w w' := by
  obtain ⟨F, ⟨G, H, e1, hG, G2, H2, e2, hG2, h3⟩, hn, hl⟩ := h
  subst e1 e2
  have hG' : OwnOf e R w v xs G := hG
  have hG2' : R w u y G2 := hG2
  have hnd := List.nodup_append.1 hn
  have hnd2 := List.nodup_append.1 hnd.2.1
  have hltG := (OwnOf.kept (e := e) hR).lt _ _ _ _ hG'
  have hltG2 := hR.lt _ _ _ _ hG2'
  have hlt3 := h3.lt
  have hz := hb.size
  obtain ⟨v', w', F', hr', hF', hn', hs, hg, hv⟩ := push_run hR t ty e z bytes ht hinfo hz1 ((OwnOf.kept (e := e) hR).keep _ w1 _ _ _ hG' fun b hm => hb.block b (hltG b hm)) hnd.1 (hR.keep _ w1 _ _ _ hG2' fun b hm => hb.block b (hltG2 b hm)) hnd2.1 (fun b hm hm2 => hnd.2.2 b hm b (List.mem_append_left _ hm2) rfl) (c := c) hcell hbytes h63
  refine ⟨v', w', hr', ⟨F' ++ H2, ⟨F', H2, rfl, hF', h3.keep fun b hm => ?_⟩, List.nodup_append.2 ⟨hn', hnd2.2.1, fun p hp q hq e3 => ?_⟩, fun b hm => ?_⟩, (hb.mono hlo).grown hg (by omega) fun k hk => hl k (List.mem_append_left _ (hv k hk))⟩
  · exact (hg.block b (by have := hlt3 b hm; omega) fun e3 => hnd.2.2 b (hv b e3.symm) b (List.mem_append_right _ hm) rfl).trans (hb.block b (hlt3 b hm))
  · subst e3
    rcases hs p hp with h | h | h
    · exact hnd.2.2 p h p (List.mem_append_right _ hq) rfl
    · exact hnd2.2.2 p h p hq rfl
    · have := hlt3 p hq; omega
  · rcases List.mem_append.1 hm with hm | hm
    · rcases hs b hm with h | h | h
      · exact hl b (List.mem_append_left _ h)
      · exact hl b (List.mem_append_right _ (List.mem_append_left _ h))
      · omega
    · exact hl b (List.mem_append_right _ (List.mem_append_right _ hm))
end
section
variable {P : Program} {α : Type} {lo sz : Nat} {f : α → List Value} {w : World} {v : Value} {e : TypeId} {rs : List Res}
/-- append of an element of sz plain cells that has been laid since. -/
theorem Sep.pushG (L : Lay sz f) (t ty : TypeId) (z : Value) (bytes : Nat) (ht : P.underlying t = some (.slice e)) (hinfo : (P.info? e).map (fun i => (i.zero, i.size, i.bytes)) = some (some z, sz, bytes)) (hz1 : z.cells.size = sz)
    {xs : List α} {hh : Held (RowG e sz f)} (h : Sep lo w (Res.of (RowG e sz f) hh v xs :: rs)) (hlo : lo ≤ w.heap.size) {w1 : World} (hb : Below w.heap.size w w1) (y : α) {bb : Nat} (c : Nat) (hcell : ∀ j u, (f y)[j]? = some u → w1.cell? ⟨bb, j, none⟩ = some u) (hbytes : (xs.length + 1) * bytes ≤ 140737488355328) (h63 : xs.length + 1 ≤ 9223372036854775807) :
    ∃ v' w', (Builtin.append_ #[t, t] ty #[v, .slice (some ⟨bb, 0, none⟩) 1 c]).run P w1 = .ok v' w' ∧ Sep lo w' (Res.of (RowG e sz f) hh v' (xs ++ [y]) :: rs) ∧ Below lo w w' := by
  obtain ⟨i, hi, hzz⟩ := Option.map_eq_some_iff.1 hinfo
  simp only [Prod.mk.injEq] at hzz
  obtain ⟨hz, hsz, hby⟩ := hzz
  obtain ⟨G, hG, hf, hK⟩ := h.head
  have hG1 : RowG e sz f w v xs G := hG
  obtain ⟨how, eG⟩ := hG1
  have hltG : ∀ b, v.ownBlock = some b → b < w.heap.size := fun b hb2 => (how.lt b hb2).2
  have how1 : w1.ownsRow 0 e sz v xs.length (xs.flatMap f) := ownsRow_keep how fun b hb2 => hb.block b (hltG b hb2)
  have hzw := hb.size
  obtain ⟨v', w', hrun, how', hg, _, hat⟩ := run_append_own_at (P := P) w1 0 t ty e i z sz bytes ht hi hz hsz hby hz1 L.pos v xs.length (xs.flatMap f) how1 ⟨bb, 0, none⟩ 1 c (f y) (by rw [L.len]; omega)
    (by
      intro j u' hj
      have := hcell j u' hj
      have e2 : (⟨bb, 0, none⟩ : Addr).add j = ⟨bb, j, none⟩ := by unfold Addr.add; split <;> simp_all
      rw [e2]
      exact this)
    (fun u' hu' => L.one y u' hu') h63 hbytes (Nat.zero_le _)
  refine ⟨v', w', hrun, hK w' (Res.of (RowG e sz f) hh v' (xs ++ [y])) v'.ownBlock.toList ⟨by simpa using how', rfl⟩ (by cases v'.ownBlock <;> simp) (fun b hb2 => ?_) hlo fun b hlt hn => ?_, (hb.mono hlo).grown hg (by omega) fun k hk => hf.2 k (by rw [eG]; simp [hk])⟩
  · simp at hb2
    rcases hat with hat | hat
    · rw [hat] at hb2; exact Or.inl (by rw [eG]; simp [hb2])
    · rw [hat] at hb2; simp at hb2; exact Or.inr (by omega)
  · refine (hg.block b (by omega) fun e2 => hn ?_).trans (hb.block b hlt)
    rw [eG]; simp [← e2]
end
end Go.Sd
end

section
/-
  A map of the call's own, told by what it holds at each key; the walk's laws on it.
-/
namespace Go.Sd
open Go.RowKit Go.Deep Go.Maps

/-- How keys of type k are written and read, and elements of type e. -/
structure MapK (P : Program) (k e : TypeId) {κ β : Type} (dom : κ → Prop) (kv : κ → Value) (kf : κ → Lit) (ev : β → Value) (ed : β → DataW Unit) : Prop where
  law : Keyed P k
  key : ∀ x, dom x → keyOf P k (kv x) = some (kf x)
  inj : ∀ x y, dom x → dom y → kf x = kf y → x = y
  val : ∀ y, plainElem (H := Unit) P e (ev y) = some (ed y, [])
  inv : ∀ y v ps, plainElem (H := Unit) P e v = some (ed y, ps) → v = ev y
  lit : ∀ x, dom x → WideAt.IsKeyLit (kf x)

/-- Block b is a map of at most n entries that holds g. -/
def MapAt (P : Program) (k e : TypeId) {κ β : Type} (dom : κ → Prop) (kf : κ → Lit) (ed : β → DataW Unit) (w : World) (b n : Nat) (g : κ → Option β) : Prop :=
  ∃ D, w.ownsMap P k (plainElem (H := Unit) P e) b n D ∧ ∀ x, dom x → match g x with
    | none => Maps.has D (kf x) = false
    | some y => Maps.has D (kf x) = true ∧ ∀ z, D.atKey (kf x) z = ed y

section
variable {P : Program} {k e : TypeId} {κ β : Type} {dom : κ → Prop} {kv : κ → Value} {kf : κ → Lit} {ev : β → Value} {ed : β → DataW Unit}

def Res.map (P : Program) (k e : TypeId) {κ β : Type} (dom : κ → Prop) (kf : κ → Lit) (ed : β → DataW Unit) (b n : Nat) (g : κ → Option β) : Res :=
  ⟨fun w F => F = [b] ∧ MapAt P k e dom kf ed w b n g,
   fun w w' F h hk => by
    obtain ⟨rfl, D, ⟨es, clock, hb, r⟩, hg⟩ := h
    exact ⟨rfl, D, ⟨es, clock, (hk b (by simp)).trans hb, r⟩, hg⟩,
   fun w F h c hc => by
    obtain ⟨rfl, D, ho, _⟩ := h
    simp at hc
    subst hc
    exact ho.lt⟩

theorem Sep.mapNew {lo : Nat} {w : World} {rs : List Res} (h : Sep lo w rs) (hlo : lo ≤ w.heap.size) (P : Program) (k e : TypeId) {κ β : Type} (dom : κ → Prop) (kf : κ → Lit) (ed : β → DataW Unit) :
    Sep lo (w.alloc (.map #[] 0)) (Res.map P k e dom kf ed w.heap.size 0 (fun _ => none) :: rs) :=
  h.cons ((Below.refl _ _).alloc (Nat.le_refl _) _) hlo (r := Res.map P k e dom kf ed w.heap.size 0 (fun _ => none)) (G := [w.heap.size]) ⟨rfl, .map [], World.ownsMap_made _ _ _ _, fun _ _ => rfl⟩ (by simp [Fresh])

theorem Sep.mapLt {lo : Nat} {w : World} {rs : List Res} {b n : Nat} {g : κ → Option β} (h : Sep lo w (Res.map P k e dom kf ed b n g :: rs)) : b < w.heap.size := by
  obtain ⟨G, ⟨rfl, D, ho, hg⟩, _⟩ := h.head
  exact ho.lt
theorem Sep.mapLook (M : MapK P k e dom kv kf ev ed) {lo : Nat} {w : World} {rs : List Res} {b n : Nat} {g : κ → Option β} (h : Sep lo w (Res.map P k e dom kf ed b n g :: rs)) {t : TypeId} (ht : P.underlying t = some (.map k e)) {z : Value} (hz : (zeroValue e).run P w = .ok z w) {zd : DataW Unit} (hzd : plainElem P e z = some (zd, [])) (hzi : ∀ v ps, plainElem (H := Unit) P e v = some (zd, ps) → v = z) (x : κ) (hx : dom x) :
    (Instr.lookup t (.map (some b)) (kv x) false).run P w = .ok (match g x with | some y => ev y | none => z) w := by
  obtain ⟨G, ⟨rfl, D, ho, hg⟩, _⟩ := h.head
  obtain ⟨v, ps, hr, hv⟩ := ho.lookup M.law ht hz hzd (M.key x hx)
  have h1 := hg x hx
  rw [hr]
  cases hgx : g x with
  | none =>
    rw [hgx] at h1
    rw [Maps.atKey_of_not_has h1] at hv
    rw [hzi v ps hv]
  | some y =>
    rw [hgx] at h1
    rw [h1.2 zd] at hv
    rw [M.inv y v ps hv]
theorem Sep.mapLookOk (M : MapK P k e dom kv kf ev ed) {lo : Nat} {w : World} {rs : List Res} {b n : Nat} {g : κ → Option β} (h : Sep lo w (Res.map P k e dom kf ed b n g :: rs)) {t : TypeId} (ht : P.underlying t = some (.map k e)) {z : Value} (hz : (zeroValue e).run P w = .ok z w) {zd : DataW Unit} (hzd : plainElem P e z = some (zd, [])) (hzi : ∀ v ps, plainElem (H := Unit) P e v = some (zd, ps) → v = z) (x : κ) (hx : dom x) :
    (Instr.lookup t (.map (some b)) (kv x) true).run P w = .ok (.tuple #[match g x with | some y => ev y | none => z, .bool (g x).isSome]) w := by
  obtain ⟨G, ⟨rfl, D, ho, hg⟩, _⟩ := h.head
  obtain ⟨v, ps, hr, hv⟩ := ho.look_ok M.law ht hz hzd (M.key x hx)
  have h1 := hg x hx
  rw [hr]
  cases hgx : g x with
  | none =>
    rw [hgx] at h1
    rw [Maps.atKey_of_not_has h1] at hv
    rw [hzi v ps hv, h1]
    rfl
  | some y =>
    rw [hgx] at h1
    rw [h1.2 zd] at hv
    rw [M.inv y v ps hv, h1.1]
    rfl
open Classical in
theorem Sep.mapStore (M : MapK P k e dom kv kf ev ed) {lo : Nat} {w : World} {rs : List Res} {b n : Nat} {g : κ → Option β} (h : Sep lo w (Res.map P k e dom kf ed b n g :: rs)) (hlo : lo ≤ w.heap.size) {t : TypeId} (ht : P.underlying t = some (.map k e)) (hn : n < maxLen) (x : κ) (hx : dom x) (y : β) :
    ∃ w', (Instr.mapUpdate t (.map (some b)) (kv x) (ev y)).run P w = .ok () w' ∧ Sep lo w' (Res.map P k e dom kf ed b (n + 1) (fun x' => if x' = x then some y else g x') :: rs) ∧ Below lo w w' ∧ ∀ p : Addr, p.block < w.heap.size → p.block ≠ b → w'.cell? p = w.cell? p := by
  obtain ⟨G, ⟨rfl, D, ho, hg⟩, hf, hK⟩ := h.head
  obtain ⟨w', hr, ho', hgr⟩ := ho.update M.law ht hn (M.key x hx) (M.val y)
  have hD := ho.isMap
  refine ⟨w', hr, hK w' (Res.map P k e dom kf ed b (n + 1) (fun x' => if x' = x then some y else g x')) [b] ⟨rfl, _, ho', fun x' hx' => ?_⟩ (by simp) (fun _ h => Or.inl h) hlo fun c hlt hc => hgr.block c hlt fun e2 => hc (by cases e2; simp), (Below.refl lo w).grown hgr hlo fun c hc => hf.2 c (by cases hc; simp), fun p hp hpb => by simp only [World.cell?, hgr.block p.block hp fun e2 => hpb (by cases e2; rfl)]⟩
  by_cases e : x' = x
  · subst e
    simp only [if_true]
    exact ⟨Maps.has_put_same hD (M.lit x' hx') _, fun z => Maps.atKey_put_same hD (M.lit x' hx') _ z⟩
  · simp only [e, if_false]
    have hne : kf x' ≠ kf x := fun e2 => e (M.inj x' x hx' hx e2)
    have h1 := hg x' hx'
    cases hgx : g x' with
    | none =>
      rw [hgx] at h1
      simp only [Maps.has_put_other hne]
      exact h1
    | some y' =>
      rw [hgx] at h1
      simp only [Maps.has_put_other hne, Maps.atKey_put_other hne]
      exact h1
end
section
variable {P : Program} {w : World} {ops : Array Oper} {rest : List Oper} {o : Oper} {a : Act} {Q : Exit → Act → World → Prop}
/-- 'm[k] = v' and a literal's entry at the operation, the run known. -/
theorem wpl_mapUpdate_run (hw : Region.wanted o (yielded ops a.tmps) = true) (m x v : Operand) (t : TypeId) (hop : o.op = Op.mapUpdate t m x v ∨ o.op = Op.insert t m x v) {vm vk vv : Value} {w' : World} (hm : a.eval m = vm) (hx : a.eval x = vk) (hv : a.eval v = vv)
    (hr : (Instr.mapUpdate t vm vk vv).run P w = .ok () w') (h : wpList P ops Q rest (a.put o.dst undef) w') : wpList P ops Q (o :: rest) a w := by
  refine BigFrame.wpList_want hw fun K hK => ?_
  unfold Oper.wp
  rcases hop with hop | hop <;> simp [execOp, hop, hm, hx, hv, hr, Result.andThen] <;> exact hK _ _ h
theorem wpl_lookup_run (hw : Region.wanted o (yielded ops a.tmps) = true) (m x : Operand) (t : TypeId) (c : Bool) (hop : o.op = Op.lookup t m x c) {vm vk r : Value} (hm : a.eval m = vm) (hx : a.eval x = vk)
    (hr : (Instr.lookup t vm vk c).run P w = .ok r w) (h : wpList P ops Q rest (a.put o.dst r) w) : wpList P ops Q (o :: rest) a w := by
  refine BigFrame.wpList_want hw fun K hK => ?_
  unfold Oper.wp
  simp [execOp, hop, hm, hx, hr, Result.andThen]
  exact hK _ _ h
end
/-- Sets of states, told by numbers, as keys; bools. -/
def domS (s : Nat) : Prop := s < 9223372036854775808
theorem wf_i64 {s : Nat} (h : domS s) : (Lit.int .i64 (s : Int)).wf = true := WalkArith.wf_i64 (by unfold domS at h; omega)
theorem boolElem_inv {P : Program} {e : TypeId} (he : P.underlying e = some .bool) {y : Bool} {v : Value} {ps : List MemPlace} (h : plainElem (H := Unit) P e v = some (.lit (.bool y), ps)) : v = .bool y := by
  unfold plainElem at h
  rw [he] at h
  cases v <;> simp at h
  rw [h.1]
theorem mapK_bool {P : Program} {k e : TypeId} (hk : P.underlying k = some (.int .i64)) (he : P.underlying e = some .bool) : MapK P k e domS (fun s : Nat => .int .i64 (s : Int)) (fun s => .int .i64 (s : Int)) (fun y : Bool => .bool y) (fun y => .lit (.bool y)) where
  law := int_keyed hk
  key := fun x hx => keyOf_int_mk hk (wf_i64 hx)
  inj := fun x y _ _ h => by simp at h; omega
  val := fun y => plainElem_bool he y
  inv := fun y v ps h => by
    unfold plainElem at h
    rw [he] at h
    cases v <;> simp at h
    rw [h.1]
  lit := fun x _ => by simp [WideAt.IsKeyLit]
theorem mapK_int {P : Program} {k e : TypeId} (hk : P.underlying k = some (.int .i64)) (he : P.underlying e = some (.int .i64)) : MapK P k e domS (fun s : Nat => .int .i64 (s : Int)) (fun s => .int .i64 (s : Int)) (fun y : {s : Nat // domS s} => .int .i64 (y.1 : Int)) (fun y => .lit (.int .i64 (y.1 : Int))) where
  law := int_keyed hk
  key := fun x hx => keyOf_int_mk hk (wf_i64 hx)
  inj := fun x y _ _ h => by simp at h; omega
  val := fun y => plainElem_int he (wf_i64 y.2)
  inv := fun y v ps h => by
    obtain ⟨a, rfl, h2, _⟩ := plainElem_int_inv he h
    simp at h2
    rw [h2.1]
  lit := fun x _ => by simp [WideAt.IsKeyLit]
end Go.Sd
end

section
/-
  Own slices whose elements have several cells and blocks of their own besides; append of plain values, as a run.
-/
namespace Go.Sd
open Go.RowKit Go.Deep

abbrev OwnCells (α : Type) := World → List Value → α → List Nat → Prop
structure KeptC {α : Type} (sz : Nat) (R : OwnCells α) : Prop where
  keep : ∀ w w' u x F, R w u x F → (∀ b, b ∈ F → w'.heap[b]? = w.heap[b]?) → R w' u x F
  lt : ∀ w u x F, R w u x F → ∀ b, b ∈ F → b < w.heap.size
  one : ∀ w u x F, R w u x F → ∀ y, y ∈ u → y.oneCell' = true
  len : ∀ w u x F, R w u x F → u.length = sz
def OwnG {α : Type} (e : TypeId) (sz : Nat) (R : OwnCells α) : OwnRel (List α) := fun w v xs F =>
  ∃ (us : List (List Value)) (Fs : List (List Nat)), w.ownsRow 0 e sz v xs.length us.flatten ∧ us.length = xs.length ∧ Fs.length = xs.length ∧ (∀ u, u ∈ us → u.length = sz) ∧
    (∀ (i : Nat) (u : List Value) (x : α) (G : List Nat), us[i]? = some u → xs[i]? = some x → Fs[i]? = some G → R w u x G) ∧ F = v.ownBlock.toList ++ Fs.flatten
theorem flatten_at {sz : Nat} : ∀ {us : List (List Value)}, (∀ u, u ∈ us → u.length = sz) → ∀ {i j : Nat} {u : List Value} {y : Value}, us[i]? = some u → u[j]? = some y → us.flatten[i * sz + j]? = some y
  | [], _, i, j, u, y, h, _ => by simp at h
  | a :: us, hl, 0, j, u, y, h, hy => by
    simp at h
    subst h
    have hj := (List.getElem?_eq_some_iff.1 hy).1
    rw [List.flatten_cons, Nat.zero_mul, Nat.zero_add, List.getElem?_append_left hj]
    exact hy
  | a :: us, hl, i + 1, j, u, y, h, hy => by
    have h2 : us[i]? = some u := by simpa using h
    have ih := flatten_at (fun u hu => hl u (List.mem_cons_of_mem _ hu)) h2 hy
    have ha : a.length = sz := hl a (by simp)
    have e : (i + 1) * sz + j = a.length + (i * sz + j) := by rw [ha, Nat.add_mul]; omega
    rw [List.flatten_cons, e, List.getElem?_append_right (by omega), Nat.add_sub_cancel_left]
    exact ih
section
variable {α : Type} {e : TypeId} {sz : Nat} {R : OwnCells α}
theorem OwnG.held (hR : KeptC sz R) : Held (OwnG e sz R) := by
  refine ⟨?_, ?_⟩
  · rintro w w' v xs F ⟨us, Fs, ho, hl, hf, hs, hr, rfl⟩ hk
    refine ⟨us, Fs, ownsRow_keep ho fun b hb => hk b (by simp [hb]), hl, hf, hs, fun i u x G hu hx hG => hR.keep _ _ _ _ _ (hr i u x G hu hx hG) fun b hb => hk b ?_, rfl⟩
    exact List.mem_append_right _ (List.mem_flatten_of_mem (List.mem_of_getElem? hG) hb)
  · rintro w v xs F ⟨us, Fs, ho, hl, hf, hs, hr, rfl⟩ b hb
    rcases List.mem_append.1 hb with hb | hb
    · simp at hb
      exact (ho.lt b hb).2
    · obtain ⟨G, hG, hb⟩ := List.mem_flatten.1 hb
      obtain ⟨i, hi⟩ := List.getElem?_of_mem hG
      have hi1 : i < Fs.length := (List.getElem?_eq_some_iff.1 hi).1
      exact hR.lt _ _ _ _ (hr i us[i] xs[i] G (List.getElem?_eq_getElem (by omega)) (List.getElem?_eq_getElem (by omega)) hi) b hb
theorem OwnG.slice {w : World} {v : Value} {xs : List α} {F : List Nat} (h : OwnG e sz R w v xs F) : ∃ a c, v = .slice a xs.length c := by
  obtain ⟨us, Fs, ho, _⟩ := h
  rcases ho.2 with ⟨rfl, h0⟩ | ⟨g, cap, cur, rfl, _⟩
  · exact ⟨none, 0, by rw [h0]⟩
  · exact ⟨_, _, rfl⟩
/-- Where the elements lie. -/
theorem OwnG.at {w : World} {v : Value} {xs : List α} {F : List Nat} (h : OwnG e sz R w v xs F) {i : Nat} {x : α} (hx : xs[i]? = some x) :
    ∃ g c u G, v = .slice (some ⟨g, 0, none⟩) xs.length c ∧ g < w.heap.size ∧ R w u x G ∧ (∀ b, b ∈ G → b ∈ F) ∧ g ∈ F ∧ ∀ j y, u[j]? = some y → w.cell? ⟨g, i * sz + j, none⟩ = some y := by
  obtain ⟨us, Fs, ho, hl, hf, hs, hr, rfl⟩ := h
  have hi := (List.getElem?_eq_some_iff.1 hx).1
  have hui : us[i]? = some us[i] := List.getElem?_eq_getElem (by omega)
  have hFi : Fs[i]? = some Fs[i] := List.getElem?_eq_getElem (by omega)
  have hh := ho
  rcases ho.2 with ⟨rfl, h1⟩ | ⟨g, cap, cur, rfl, _⟩
  · omega
  · refine ⟨g, cap, us[i], Fs[i], rfl, (hh.lt g rfl).2, hr i _ x _ hui hx hFi, fun b hb => List.mem_append_right _ (List.mem_flatten_of_mem (List.mem_of_getElem? hFi) hb), by simp [Value.ownBlock], fun j y hy => ?_⟩
    have := hh.cells (g := g) rfl _ _ (flatten_at hs hui hy)
    have e2 : (⟨g, 0, none⟩ : Addr).add (i * sz + j) = ⟨g, i * sz + j, none⟩ := by unfold Addr.add; split <;> simp_all
    rw [e2] at this
    exact this
/-- A slice literal of one element without blocks of its own. -/
theorem New.oneG' (w : World) (u : List Value) (x : α) (hu : u.length = sz) (hR : ∀ w', R w' u x []) : New (OwnG e sz R) w.heap.size (w.alloc (.cells u.toArray e)) (.slice (some ⟨w.heap.size, 0, none⟩) 1 1) [x] :=
  ⟨[w.heap.size], ⟨[u], [[]], ⟨by simp [hu], .inr ⟨w.heap.size, 1, u.toArray, rfl, Nat.zero_le _, heap_alloc_new w _, Nat.le_refl _, by simp [maxLen], by simp [hu], by simp; exact List.take_of_length_le (by omega)⟩⟩, rfl, rfl, by simp [hu], fun i u' x' G' hu' hx' hG' => by
    cases i with
    | zero => simp at hu' hx' hG'; subst hu' hx' hG'; exact hR _
    | succ i => simp at hu', by simp [Value.ownBlock]⟩, by simp [Fresh]⟩
section
variable {P : Program} {lo : Nat} {w : World} {v : Value} {rs : List Res}
/-- append of an element that has been laid since, with blocks made since. -/
theorem Sep.pushC (hR : KeptC sz R) (h0 : 0 < sz) (t ty : TypeId) (z : Value) (bytes : Nat) (ht : P.underlying t = some (.slice e)) (hinfo : (P.info? e).map (fun i => (i.zero, i.size, i.bytes)) = some (some z, sz, bytes)) (hz1 : z.cells.size = sz)
    {xs : List α} {hh : Held (OwnG e sz R)} (h : Sep lo w (Res.of (OwnG e sz R) hh v xs :: rs)) (hlo : lo ≤ w.heap.size) {w1 : World} (hb : Below w.heap.size w w1) {u : List Value} {y : α} {K : List Nat} (hK : R w1 u y K) (hKf : Fresh w.heap.size K) {bb : Nat} (c : Nat) (hcell : ∀ j x, u[j]? = some x → w1.cell? ⟨bb, j, none⟩ = some x) (hbytes : (xs.length + 1) * bytes ≤ 140737488355328) (h63 : xs.length + 1 ≤ 9223372036854775807) :
    ∃ v' w', (Builtin.append_ #[t, t] ty #[v, .slice (some ⟨bb, 0, none⟩) 1 c]).run P w1 = .ok v' w' ∧ Sep lo w' (Res.of (OwnG e sz R) hh v' (xs ++ [y]) :: rs) ∧ Below lo w w' := by
  obtain ⟨i, hi, hzz⟩ := Option.map_eq_some_iff.1 hinfo
  simp only [Prod.mk.injEq] at hzz
  obtain ⟨hz, hsz, hby⟩ := hzz
  obtain ⟨G, hG, hf, hKK⟩ := h.head
  have hG1 : OwnG e sz R w v xs G := hG
  have hltG := hh.lt _ _ _ _ hG1
  obtain ⟨us, Fs, how, hl, hfl, hs, hr, eG⟩ := hG1
  have how1 : w1.ownsRow 0 e sz v xs.length us.flatten := ownsRow_keep how fun b hb2 => hb.block b (how.lt b hb2).2
  have hzw := hb.size
  have hul := hR.len _ _ _ _ hK
  obtain ⟨v', w', hrun, how', hg, _, hat⟩ := run_append_own_at (P := P) w1 0 t ty e i z sz bytes ht hi hz hsz hby hz1 h0 v xs.length us.flatten how1 ⟨bb, 0, none⟩ 1 c u (by rw [hul]; omega)
    (by
      intro j u' hj
      have := hcell j u' hj
      have e2 : (⟨bb, 0, none⟩ : Addr).add j = ⟨bb, j, none⟩ := by unfold Addr.add; split <;> simp_all
      rw [e2]
      exact this)
    (fun u' hu' => hR.one _ _ _ _ hK u' hu') h63 hbytes (Nat.zero_le _)
  have hvG : ∀ k, v.ownBlock = some k → k ∈ G := fun k hk => by rw [eG]; simp [hk]
  have hkeep : ∀ b, b < w.heap.size → b ∉ G → w'.heap[b]? = w.heap[b]? := fun b hlt hn => (hg.block b (by omega) fun e2 => hn (hvG b e2.symm)).trans (hb.block b hlt)
  have hnd : (v.ownBlock.toList ++ Fs.flatten).Nodup := eG ▸ hf.1
  have hnd' := List.nodup_append.1 hnd
  have hnv : ∀ k, v.ownBlock = some k → k ∉ Fs.flatten := fun k hk hm => hnd'.2.2 k (by simp [hk]) k hm rfl
  have hKlt := hR.lt _ _ _ _ hK
  have hFG : ∀ b, b ∈ Fs.flatten → b ∈ G := fun b hb2 => by rw [eG]; exact List.mem_append_right _ hb2
  have hat' : ∀ k, v'.ownBlock = some k → v.ownBlock = some k ∨ w1.heap.size ≤ k := by
    intro k hk
    rcases hat with hat | hat
    · rw [hat] at hk; exact Or.inl hk
    · rw [hat] at hk; simp at hk; exact Or.inr (by omega)
  refine ⟨v', w', hrun, hKK w' (Res.of (OwnG e sz R) hh v' (xs ++ [y])) (v'.ownBlock.toList ++ (Fs ++ [K]).flatten) ⟨us ++ [u], Fs ++ [K], by simpa using how', by simp [hl], by simp [hfl], ?_, ?_, rfl⟩ ?_ ?_ hlo hkeep, (hb.mono hlo).grown hg (by omega) fun k hk => hf.2 k (hvG k hk)⟩
  · intro u' hu'
    rcases List.mem_append.1 hu' with h1 | h1
    · exact hs u' h1
    · simp at h1; subst h1; exact hul
  · intro j u' x' G' hu' hx' hG'
    by_cases hj : j < xs.length
    · rw [List.getElem?_append_left (by omega)] at hu' hx' hG'
      refine hR.keep _ _ _ _ _ (hr j u' x' G' hu' hx' hG') fun b hb' => ?_
      have hm : b ∈ Fs.flatten := List.mem_flatten_of_mem (List.mem_of_getElem? hG') hb'
      exact (hg.block b (by have := hltG b (hFG b hm); omega) (fun e2 => hnv b e2.symm hm)).trans (hb.block b (hltG b (hFG b hm)))
    · have hj2 : j = xs.length := by
        have := (List.getElem?_eq_some_iff.1 hx').1
        simp at this; omega
      subst hj2
      rw [List.getElem?_append_right (by omega)] at hu' hx' hG'
      simp [hl, hfl] at hu' hx' hG'
      subst hu' hx' hG'
      exact hR.keep _ _ _ _ _ hK fun b hb' => hg.block b (hKlt b hb') fun e2 => by
        have h1 := hltG b (hvG b e2.symm)
        have h2 := hKf.2 b hb'
        omega
  · simp only [List.flatten_append, List.flatten_cons, List.flatten_nil, List.append_nil]
    refine List.nodup_append.2 ⟨by cases v'.ownBlock <;> simp, List.nodup_append.2 ⟨hnd'.2.1, hKf.1, ?_⟩, ?_⟩
    · intro p hp q hq e2
      subst e2
      have h1 := hltG p (hFG p hp)
      have h2 := hKf.2 p hq
      omega
    · intro p hp q hq e2
      subst e2
      simp at hp
      rcases hat' p hp with hk | hk
      · rcases List.mem_append.1 hq with hq | hq
        · exact hnv p hk hq
        · have h1 := hltG p (hvG p hk)
          have h2 := hKf.2 p hq
          omega
      · rcases List.mem_append.1 hq with hq | hq
        · have := hltG p (hFG p hq); omega
        · have := hKlt p hq; omega
  · intro b hb'
    rcases List.mem_append.1 hb' with hb' | hb'
    · simp at hb'
      rcases hat' b hb' with hk | hk
      · exact Or.inl (hvG b hk)
      · exact Or.inr (by omega)
    · simp at hb'
      rcases hb' with ⟨H, hH, hb'⟩ | hb'
      · exact Or.inl (hFG b (List.mem_flatten_of_mem hH hb'))
      · exact Or.inr (hKf.2 b hb')
end
end
/-- append of a whole slice of plain values to an own one, as a run. -/
theorem vals_run {P : Program} {w : World} {α : Type} {f : α → Value} (hf : ∀ x, (f x).oneCell' = true) (t ty : TypeId)
    (e : TypeId) (z : Value) (bytes : Nat) (ht : P.underlying t = some (.slice e)) (hinfo : (P.info? e).map (fun i => (i.zero, i.size, i.bytes)) = some (some z, 1, bytes)) (hz1 : z.cells = #[z])
    {lo : Nat} {v : Value} {ys : List α} (h0 : New (OwnOf e (OValR f)) lo w v ys) (hlo : lo ≤ w.heap.size)
    {v2 : Value} {xs : List α} (h2 : SlOf (ValR f) w v2 xs)
    (hbytes : (ys.length + xs.length) * bytes ≤ 140737488355328) (h63 : ys.length + xs.length ≤ 9223372036854775807) :
    ∃ v' w', (Builtin.append_ #[t, t] ty #[v, v2]).run P w = .ok v' w' ∧ New (OwnOf e (OValR f)) lo w' v' (ys ++ xs) ∧ Below lo w w' := by
  obtain ⟨i, hi, hzz⟩ := Option.map_eq_some_iff.1 hinfo
  simp only [Prod.mk.injEq] at hzz
  obtain ⟨hz, hsz, hby⟩ := hzz
  have h0' := h0
  obtain ⟨F, ⟨us, Fs, how, hl, hr, rfl⟩, hnd, hge⟩ := h0
  have hul : us.length = ys.length := by simpa using how.1
  have hvlt : ∀ k, v.ownBlock = some k → lo ≤ k ∧ k < w.heap.size := fun k hk => ⟨hge k (by simp [hk]), (how.lt k hk).2⟩
  obtain ⟨vs, hsl, hvl, hvr⟩ := h2
  have hvs : vs = xs.map f := by
    apply List.ext_getElem?
    intro j
    by_cases hj : j < xs.length
    · rw [List.getElem?_map, List.getElem?_eq_getElem hj, List.getElem?_eq_getElem (by omega)]
      exact congrArg some (hvr j _ _ (List.getElem?_eq_getElem (by omega)) (List.getElem?_eq_getElem hj))
    · rw [List.getElem?_eq_none (by omega), List.getElem?_eq_none (by simp; omega)]
  subst hvs
  obtain ⟨_, ad, c, hv2, _, _, hn, hcells⟩ := hsl
  simp only [List.length_map] at hv2
  have key : ∀ (ad : Addr), (∀ (j : Nat) (u : Value), (xs.map f)[j]? = some u → w.cell? (ad.add j) = some u) → v2 = .slice (some ad) xs.length c → ∃ v' w', (Builtin.append_ #[t, t] ty #[v, v2]).run P w = .ok v' w' ∧ New (OwnOf e (OValR f)) lo w' v' (ys ++ xs) ∧ Below lo w w' := by
    intro ad had hv2'
    obtain ⟨v', w', hrun, how', hg, _, hat⟩ := run_append_own_at (P := P) w 0 t ty e i z 1 bytes ht hi hz hsz hby (by rw [hz1]; rfl) (by decide) v ys.length us how ad xs.length c (xs.map f) (by simp) had
      (by
        intro u hu
        obtain ⟨y, _, rfl⟩ := List.mem_map.1 hu
        exact hf y) h63 hbytes (Nat.zero_le _)
    have hFs : ∀ G, G ∈ Fs → G = [] := fun G hG => by
      obtain ⟨j, hj⟩ := List.getElem?_of_mem hG
      have hj1 : j < Fs.length := (List.getElem?_eq_some_iff.1 hj).1
      exact (hr j us[j] ys[j] G (List.getElem?_eq_getElem (by omega)) (List.getElem?_eq_getElem (by omega)) hj).2
    have hfl : (Fs ++ List.replicate xs.length []).flatten = [] := by
      rw [List.flatten_eq_nil_iff]
      intro G hG
      rcases List.mem_append.1 hG with hG | hG
      · exact hFs G hG
      · exact (List.mem_replicate.1 hG).2
    refine ⟨v', w', by rw [hv2']; exact hrun, ⟨_, ⟨us ++ xs.map f, Fs ++ List.replicate xs.length [], by simpa using how', by simp [hl], ?_, rfl⟩, ?_, ?_⟩, Below.of_grown hg hlo fun k hk => (hvlt k hk).1⟩
    · intro j u' x' G' hu' hx' hG'
      by_cases hj : j < ys.length
      · rw [List.getElem?_append_left (by omega)] at hu' hx' hG'
        exact hr j u' x' G' hu' hx' hG'
      · rw [List.getElem?_append_right (by omega)] at hu' hx' hG'
        rw [hul, List.getElem?_map, hx'] at hu'
        simp at hu'
        exact ⟨hu'.symm, (List.mem_replicate.1 (List.mem_of_getElem? hG')).2⟩
    · rw [hfl]
      cases v'.ownBlock <;> simp
    · intro b hb
      rw [hfl] at hb
      simp at hb
      rcases hat with hat | hat
      · rw [hat] at hb; exact (hvlt b hb).1
      · rw [hat] at hb; simp at hb; omega
  rcases hcells with hnil | ⟨b, o', rfl, _, hc⟩
  · have hx0 : xs = [] := by simpa using hnil
    subst hx0
    cases ad with
    | some ad => exact key ad (by simp) hv2
    | none =>
      have hc0 := hn rfl
      subst hc0
      refine ⟨v, w, ?_, by simpa using h0', Below.refl _ _⟩
      rw [hv2]
      exact run_append_owned_none (P := P) w 0 t ty e i 1 ht hi v ys.length us how
  · exact key ⟨b, o', none⟩ (fun j u hu => by
      have e2 : (⟨b, o', none⟩ : Addr).add j = ⟨b, o' + j, none⟩ := by unfold Addr.add; split <;> simp_all
      rw [e2]
      exact hc j u hu) hv2
end Go.Sd
end

section
/-
  A Bool holds of all numbers from one on.
-/
namespace Go.Proofs.Ytcilgihmaaobeaa
open Go.RowKit Go.Deep Go.Sd
/-- All of the next g numbers from k on. -/
def allF (h : Nat → Bool) : Nat → Nat → Bool
  | 0, _ => true
  | g + 1, k => if h k = true then allF h g (k + 1) else false
end Go.Proofs.Ytcilgihmaaobeaa
end

section
/-
  Which labelled graphs are valid: the model.
-/
namespace Go.Proofs.Ytcilgihmaaobeaa
open Go.RowKit Go.Deep Go.Sd

def at3 (xs : List Arc3) (k : Nat) : Arc3 := xs.getD k (0, 0, 0)
theorem at3_of {xs : List Arc3} {k : Nat} {x : Arc3} (h : xs[k]? = some x) : at3 xs k = x := by simp [at3, List.getD, h]
def arcOk (L S : Int) (x : Arc3) : Bool := decide (0 ≤ x.1 ∧ x.1 < S ∧ 0 ≤ x.2.1 ∧ x.2.1 < S ∧ 0 ≤ x.2.2 ∧ x.2.2 < L)
def arcB (L S : Int) (xs : List Arc3) (k : Nat) : Bool := arcOk L S (at3 xs k) && (decide (k = 0) || before (at3 xs (k - 1)) (at3 xs k))
def isLab (l : Lb) : Bool := decide (1 ≤ l.1 ∧ l.1 ≤ 3) && (decide (1 ≤ l.2.1 ∧ l.2.1 ≤ 12) && allF (arcB l.1 l.2.1 l.2.2) l.2.2.length 0)

end Go.Proofs.Ytcilgihmaaobeaa
end

section
/-
  Labelled graphs: the sets of states to which letters and words lead: the model.
-/
namespace Go.Proofs.Ytcilgihmaaobeaa
open Go.RowKit Go.Deep Go.Sd

theorem i64_and1 (n : Int) : bits .and .i64 n 1 = n % 2 := by
  have h1 : (BitVec.ofInt 64 1).toNat = 2 ^ 1 - 1 := by decide
  have key : (BitVec.ofInt 64 n &&& BitVec.ofInt 64 1).toNat = (n % ((2 ^ 64 : Nat) : Int)).toNat % 2 ^ 1 := by
    rw [BitVec.toNat_and, BitVec.toNat_ofInt, h1, Nat.and_two_pow_sub_one_eq_mod]
  show IntKind.i64.wrap ((BitVec.ofInt 64 n &&& BitVec.ofInt 64 1).toNat : Nat) = n % 2
  rw [key, IntKind.wrap_i64]
  omega
theorem ofInt_i64 (a : Nat) (ha : a < 9223372036854775808) : (BitVec.ofInt 64 (a : Int)).toNat = a := by
  rw [BitVec.ofInt_natCast, BitVec.toNat_ofNat]; exact Nat.mod_eq_of_lt (by omega)
theorem i64_or (a b : Nat) (ha : a < 9223372036854775808) (hb : b < 9223372036854775808) : bits .or .i64 (a : Int) (b : Int) = ((a ||| b : Nat) : Int) := by
  have hx : a ||| b < 2 ^ 63 := Nat.or_lt_two_pow (by omega) (by omega)
  show IntKind.i64.wrap ((BitVec.ofInt 64 (a : Int) ||| BitVec.ofInt 64 (b : Int)).toNat : Nat) = _
  rw [BitVec.toNat_or, ofInt_i64 a ha, ofInt_i64 b hb, IntKind.wrap_i64]
  omega

/-- An arc leads on from a set, with a letter. -/
def hit (s : Nat) (x : Int) (a : Arc3) : Bool := decide (a.2.2 = x) && s.testBit a.1.toNat
def stepL (s : Nat) (x : Int) : List Arc3 → Nat → Nat
  | [], out => out
  | a :: ys, out => stepL s x ys (if hit s x a = true then out ||| 2 ^ a.2.1.toNat else out)
def stepN (xs : List Arc3) (s : Nat) (x : Int) : Nat := stepL s x xs 0
def readL (xs : List Arc3) : List Int → Nat → Nat
  | [], s => s
  | x :: w, s => readL xs w (stepN xs s x)

def okArcs (S : Int) (xs : List Arc3) : Prop := ∀ a, a ∈ xs → 0 ≤ a.1 ∧ a.1 < S ∧ 0 ≤ a.2.1 ∧ a.2.1 < S
theorem allF_at {f : Nat → Bool} : ∀ {m k : Nat}, allF f m k = true → ∀ j, j < m → f (k + j) = true
  | 0, _, _, j, hj => by omega
  | m + 1, k, h, j, hj => by
    have h1 : (if f k = true then allF f m (k + 1) else false) = true := h
    by_cases hk : f k = true
    · rw [if_pos hk] at h1
      cases j with
      | zero => exact hk
      | succ j => rw [show k + (j + 1) = k + 1 + j by omega]; exact allF_at h1 j (by omega)
    · rw [if_neg hk] at h1; cases h1
theorem isLab_ok {l : Lb} (h : isLab l = true) : okArcs l.2.1 l.2.2 ∧ 1 ≤ l.2.1 ∧ l.2.1 ≤ 12 ∧ 1 ≤ l.1 ∧ l.1 ≤ 3 := by
  unfold isLab at h
  rw [Bool.and_eq_true, Bool.and_eq_true, decide_eq_true_eq, decide_eq_true_eq] at h
  refine ⟨fun a ha => ?_, h.2.1.1, h.2.1.2, h.1.1, h.1.2⟩
  obtain ⟨k, hk⟩ := List.getElem?_of_mem ha
  have h1 := allF_at h.2.2 k (List.getElem?_eq_some_iff.1 hk).1
  rw [Nat.zero_add] at h1
  unfold arcB at h1
  rw [Bool.and_eq_true, at3_of hk] at h1
  have h2 := h1.1
  unfold arcOk at h2
  rw [decide_eq_true_eq] at h2
  exact ⟨h2.1, h2.2.1, h2.2.2.1, h2.2.2.2.1⟩
theorem stepL_lt {S : Int} {N : Nat} (hN : S.toNat ≤ N) : ∀ {xs : List Arc3}, okArcs S xs → ∀ (s : Nat) (x : Int) (out : Nat), out < 2 ^ N → stepL s x xs out < 2 ^ N
  | [], _, _, _, _, h => h
  | a :: ys, ha, s, x, out, h => by
    unfold stepL
    refine stepL_lt hN (fun b hb => ha b (List.mem_cons_of_mem _ hb)) s x _ ?_
    split
    · have := ha a (by simp)
      exact Nat.or_lt_two_pow h (Nat.pow_lt_pow_right (by omega) (by omega))
    · exact h
theorem stepN_lt {S : Int} {xs : List Arc3} (h : okArcs S xs) (hS : S ≤ 12) (s : Nat) (x : Int) : stepN xs s x < 4096 :=
  stepL_lt (N := 12) (by omega) h s x 0 (by decide)
theorem readL_lt {S : Int} {xs : List Arc3} (h : okArcs S xs) (hS : S ≤ 12) : ∀ (w : List Int) (s : Nat), s < 4096 → readL xs w s < 4096
  | [], _, hs => hs
  | x :: w, s, _ => readL_lt h hS w _ (stepN_lt h hS s x)
theorem okArcs_at {S : Int} {xs : List Arc3} (h : okArcs S xs) {k : Nat} {x : Arc3} (hx : xs[k]? = some x) : 0 ≤ x.1 ∧ x.1 < S ∧ 0 ≤ x.2.1 ∧ x.2.1 < S := h x (List.mem_of_getElem? hx)

end Go.Proofs.Ytcilgihmaaobeaa
end

section
/-
  ReadSame's model: pairs of sets that are reached; the search's invariant.
-/
namespace Go.Proofs.Ytcilgihmaaobeaa
open Go.RowKit Go.Deep Go.Sd

/-- Lists of different numbers below a bound are no longer than the bound. -/
theorem nodup_below : ∀ (n : Nat) (l : List Nat), l.Nodup → (∀ x, x ∈ l → x < n) → l.length ≤ n
  | 0, [], _, _ => by simp
  | 0, x :: l, _, h => absurd (h x (by simp)) (by omega)
  | n + 1, l, hn, h => by
    have h1 : (l.filter (fun x => decide (x ≠ n))).length ≤ n := nodup_below n _ (hn.filter _) fun x hx => by
      have h2 := List.mem_filter.1 hx
      have := h x h2.1
      have h3 : x ≠ n := by simpa using h2.2
      omega
    have h2 : l.length ≤ (l.filter (fun x => decide (x ≠ n))).length + 1 := by
      clear h h1
      induction l with
      | nil => simp
      | cons a t ih =>
        have hn' := List.nodup_cons.1 hn
        by_cases e : a = n
        · subst e
          have : t.filter (fun x => decide (x ≠ a)) = t := List.filter_eq_self.2 fun x hx => by
            simp
            exact fun e => hn'.1 (e ▸ hx)
          rw [List.filter_cons, if_neg (by simp), this]
          simp
        · rw [List.filter_cons, if_pos (by simpa using e)]
          have := ih hn'.2
          simp only [List.length_cons]
          omega
    omega

abbrev P2 := Nat × Nat
def codeP (q : P2) : Nat := q.1 * 4096 + q.2
def nextP (A B : List Arc3) (p : P2) (x : Nat) : P2 := (stepN A p.1 (x : Int), stepN B p.2 (x : Int))
def badP (q : P2) : Bool := (q.1 == 0) != (q.2 == 0)
inductive ReachP (A B : List Arc3) (L : Nat) (p0 : P2) : P2 → Prop
  | start : ReachP A B L p0 p0
  | step {p : P2} (x : Nat) : ReachP A B L p0 p → x < L → ReachP A B L p0 (nextP A B p x)
def goodP (A B : List Arc3) (L : Nat) (p0 : P2) : Prop := ∀ p, ReachP A B L p0 p → ∀ x, x < L → badP (nextP A B p x) = false
def doneP (ps : List P2) (q : P2) : Prop := badP q = false ∧ (q = (0, 0) ∨ q ∈ ps)
/-- The pairs ahead of k are done, and k's first x letters. -/
structure InvP (A B : List Arc3) (L : Nat) (p0 : P2) (ps : List P2) (k x : Nat) : Prop where
  first : p0 ∈ ps
  reach : ∀ p, p ∈ ps → ReachP A B L p0 p
  small : ∀ p, p ∈ ps → p.1 < 4096 ∧ p.2 < 4096
  once : ps.Nodup
  ahead : ∀ i p, i < k → ps[i]? = some p → ∀ y, y < L → doneP ps (nextP A B p y)
  row : ∀ p, ps[k]? = some p → ∀ y, y < x → doneP ps (nextP A B p y)
section
variable {A B : List Arc3} {L : Nat} {p0 : P2} {ps : List P2} {k x : Nat}
theorem InvP.start (h : p0.1 < 4096 ∧ p0.2 < 4096) : InvP A B L p0 [p0] 0 0 :=
  ⟨by simp, fun p hp => by simp at hp; subst hp; exact .start, fun p hp => by simp at hp; subst hp; exact h, by simp, fun i p hi => by omega, fun p _ y hy => by omega⟩
theorem InvP.len (h : InvP A B L p0 ps k x) : ps.length ≤ 16777216 := by
  have h1 : (ps.map codeP).Nodup := by
    have := h.once
    rw [List.Nodup, List.pairwise_map]
    refine List.Pairwise.imp_of_mem (fun {a b} ha hb hne e => hne ?_) this
    have h1 := h.small a ha
    have h2 := h.small b hb
    unfold codeP at e
    exact Prod.ext (by omega) (by omega)
  have h2 := nodup_below 16777216 (ps.map codeP) h1 fun y hy => by
    obtain ⟨p, hp, rfl⟩ := List.mem_map.1 hy
    have := h.small p hp
    unfold codeP
    omega
  simpa using h2
theorem InvP.bad (h : InvP A B L p0 ps k x) {p : P2} (hp : ps[k]? = some p) (hx : x < L) (hb : badP (nextP A B p x) = true) : ¬ goodP A B L p0 := fun hg => by
  have := hg p (h.reach p (List.mem_of_getElem? hp)) x hx
  rw [this] at hb
  cases hb
theorem InvP.known (h : InvP A B L p0 ps k x) {p : P2} (hp : ps[k]? = some p) (hb : badP (nextP A B p x) = false) (hm : nextP A B p x = (0, 0) ∨ nextP A B p x ∈ ps) : InvP A B L p0 ps k (x + 1) :=
  ⟨h.first, h.reach, h.small, h.once, h.ahead, fun q hq y hy => by
    rw [hp] at hq
    cases hq
    by_cases e : y = x
    · subst e; exact ⟨hb, hm⟩
    · exact h.row p hp y (by omega)⟩
theorem doneP.snoc {q r : P2} (h : doneP ps q) : doneP (ps ++ [r]) q := ⟨h.1, h.2.imp id fun h => List.mem_append_left _ h⟩
theorem InvP.add (h : InvP A B L p0 ps k x) {p : P2} (hp : ps[k]? = some p) (hx : x < L) (hb : badP (nextP A B p x) = false) (hm : nextP A B p x ∉ ps) (hs : (nextP A B p x).1 < 4096 ∧ (nextP A B p x).2 < 4096) : InvP A B L p0 (ps ++ [nextP A B p x]) k (x + 1) := by
  have hk := (List.getElem?_eq_some_iff.1 hp).1
  refine ⟨List.mem_append_left _ h.first, fun q hq => ?_, fun q hq => ?_, ?_, fun i q hi hq y hy => ?_, fun q hq y hy => ?_⟩
  · rcases List.mem_append.1 hq with hq | hq
    · exact h.reach q hq
    · simp at hq; subst hq; exact .step x (h.reach p (List.mem_of_getElem? hp)) hx
  · rcases List.mem_append.1 hq with hq | hq
    · exact h.small q hq
    · simp at hq; subst hq; exact hs
  · refine List.nodup_append.2 ⟨h.once, by simp, fun a ha b hb' e => ?_⟩
    simp at hb'
    subst e hb'
    exact hm ha
  · rw [List.getElem?_append_left (by omega)] at hq
    exact (h.ahead i q hi hq y hy).snoc
  · rw [List.getElem?_append_left hk, hp] at hq
    cases hq
    by_cases e : y = x
    · subst e; exact ⟨hb, Or.inr (by simp)⟩
    · exact (h.row p hp y (by omega)).snoc
theorem InvP.next (h : InvP A B L p0 ps k L) : InvP A B L p0 ps (k + 1) 0 :=
  ⟨h.first, h.reach, h.small, h.once, fun i p hi hp y hy => by
    by_cases e : i = k
    · subst e; exact h.row p hp y hy
    · exact h.ahead i p (by omega) hp y hy, fun p _ y hy => by omega⟩
theorem stepN_zero (xs : List Arc3) (x : Int) : stepN xs 0 x = 0 := by
  have : ∀ (ys : List Arc3) (o : Nat), stepL 0 x ys o = o := by
    intro ys
    induction ys with
    | nil => intro o; rfl
    | cons a ys ih => intro o; unfold stepL; rw [ih]; simp [hit]
  exact this xs 0
theorem InvP.end (h : InvP A B L p0 ps k 0) (hk : ps.length ≤ k) : goodP A B L p0 := by
  have key : ∀ p, ReachP A B L p0 p → p = (0, 0) ∨ p ∈ ps := by
    intro p hp
    induction hp with
    | start => exact Or.inr h.first
    | @step p x hp hx ih =>
      rcases ih with rfl | ih
      · left; simp [nextP, stepN_zero]
      · obtain ⟨i, hi⟩ := List.getElem?_of_mem ih
        have := (List.getElem?_eq_some_iff.1 hi).1
        exact (h.ahead i p (by omega) hi x hx).2
  intro p hp x hx
  rcases key p hp with rfl | hp
  · simp [nextP, stepN_zero, badP]
  · obtain ⟨i, hi⟩ := List.getElem?_of_mem hp
    have := (List.getElem?_eq_some_iff.1 hi).1
    exact (h.ahead i p (by omega) hi x hx).1
end
open Classical in
noncomputable def readSameM (a b : Lb) : Bool :=
  isLab a && (isLab b && (decide (a.1 = b.1) && decide (goodP a.2.2 b.2.2 a.1.toNat (2 ^ a.2.1.toNat - 1, 2 ^ b.2.1.toNat - 1))))
end Go.Proofs.Ytcilgihmaaobeaa
end
