/-
  Own slices whose elements are several plain cells each (structs, arrays of numbers): how they read, append of one element.
-/
import Derived.Test.YtdohepngandajaaDoorBase
import Derived.Test.YtdohepngandajaaDoorLab
import Derived.Test.YtdohepngandajaaDoorLabO
namespace Go.Sd
open Go.RowKit Go.Deep
/-- Elements of sz cells each, given by f. -/
structure Lay {α : Type} (sz : Nat) (f : α → List Value) : Prop where
  pos : 0 < sz
  len : ∀ x, (f x).length = sz
  one : ∀ x u, u ∈ f x → u.oneCell' = true
def RowG {α : Type} (e : TypeId) (sz : Nat) (f : α → List Value) : OwnRel (List α) := fun w v xs F => w.ownsRow 0 e sz v xs.length (xs.flatMap f) ∧ F = v.ownBlock.toList
section
variable {α : Type} {e : TypeId} {sz : Nat} {f : α → List Value}
theorem flatMap_len (L : Lay sz f) : ∀ (xs : List α), (xs.flatMap f).length = xs.length * sz
  | [] => by simp
  | x :: xs => by simp only [List.flatMap_cons, List.length_append, List.length_cons, L.len, flatMap_len L xs, Nat.add_mul]; omega
theorem flatMap_at (L : Lay sz f) : ∀ {xs : List α} {i j : Nat} {x : α} {u : Value}, xs[i]? = some x → (f x)[j]? = some u → (xs.flatMap f)[i * sz + j]? = some u
  | [], i, j, x, u, h, _ => by simp at h
  | y :: xs, 0, j, x, u, h, hu => by
    simp at h
    subst h
    have hj := (List.getElem?_eq_some_iff.1 hu).1
    rw [List.flatMap_cons, Nat.zero_mul, Nat.zero_add, List.getElem?_append_left hj]
    exact hu
  | y :: xs, i + 1, j, x, u, h, hu => by
    have h2 : xs[i]? = some x := by simpa using h
    have ih := flatMap_at L h2 hu
    have e : (i + 1) * sz + j = (f y).length + (i * sz + j) := by rw [L.len, Nat.add_mul]; omega
    rw [List.flatMap_cons, e, List.getElem?_append_right (by omega), Nat.add_sub_cancel_left]
    exact ih
theorem RowG.held : Held (RowG e sz f) := by
  refine ⟨fun w w' v xs F ⟨h, eF⟩ hk => ?_, fun w v xs F ⟨h, eF⟩ b hb => ?_⟩
  · subst eF
    exact ⟨ownsRow_keep h fun b hb => hk b (by simp [hb]), rfl⟩
  · subst eF
    simp at hb
    exact (h.lt b hb).2
theorem RowG.nil {w : World} {lo : Nat} : New (RowG e sz f) lo w (.slice none 0 0) [] := ⟨[], ⟨World.ownsRow_nil _ _ _ _, rfl⟩, by simp [Fresh]⟩
theorem RowG.slice {w : World} {v : Value} {xs : List α} {F : List Nat} (h : RowG e sz f w v xs F) : ∃ a c, v = .slice a xs.length c := by
  rcases h.1.2 with ⟨rfl, h0⟩ | ⟨g, cap, cur, rfl, _⟩
  · exact ⟨none, 0, by rw [h0]⟩
  · exact ⟨_, _, rfl⟩
theorem RowG.at (L : Lay sz f) {w : World} {v : Value} {xs : List α} {F : List Nat} (h : RowG e sz f w v xs F) (h0 : 0 < xs.length) :
    ∃ g c, v = .slice (some ⟨g, 0, none⟩) xs.length c ∧ F = [g] ∧ xs.length ≤ c ∧ c ≤ maxLen ∧ g < w.heap.size ∧ ∀ i x j u, xs[i]? = some x → (f x)[j]? = some u → w.cell? ⟨g, i * sz + j, none⟩ = some u ∧ w.frozen? ⟨g, i * sz + j, none⟩ = false := by
  obtain ⟨h, rfl⟩ := h
  have hh := h
  rcases h.2 with ⟨rfl, h1⟩ | ⟨g, cap, cur, rfl, _, hg, h1, h2, h3, h4⟩
  · omega
  · refine ⟨g, cap, rfl, rfl, h1, h2, (hh.lt g rfl).2, fun i x j u hx hu => ⟨?_, ?_⟩⟩
    · have := hh.cells (g := g) rfl _ _ (flatMap_at L hx hu)
      have e : (⟨g, 0, none⟩ : Addr).add (i * sz + j) = ⟨g, i * sz + j, none⟩ := by unfold Addr.add; split <;> simp_all
      rw [e] at this
      exact this
    · have hc := hh.cells (g := g) rfl _ _ (flatMap_at L hx hu)
      simp [World.frozen?, hg]
theorem New.rowAt (L : Lay sz f) {lo : Nat} {w : World} {v : Value} {xs : List α} (h : New (RowG e sz f) lo w v xs) (h0 : 0 < xs.length) :
    ∃ g c, v = .slice (some ⟨g, 0, none⟩) xs.length c ∧ xs.length ≤ c ∧ c ≤ maxLen ∧ lo ≤ g ∧ g < w.heap.size ∧ ∀ i x j u, xs[i]? = some x → (f x)[j]? = some u → w.cell? ⟨g, i * sz + j, none⟩ = some u ∧ w.frozen? ⟨g, i * sz + j, none⟩ = false := by
  obtain ⟨F, hF, hn, hge⟩ := h
  obtain ⟨g, c, e, rfl, h1, h2, h3, h4⟩ := hF.at L h0
  exact ⟨g, c, e, h1, h2, hge g (by simp), h3, h4⟩
theorem New.rowSlice {lo : Nat} {w : World} {v : Value} {xs : List α} (h : New (RowG e sz f) lo w v xs) : ∃ a c, v = .slice a xs.length c := by
  obtain ⟨F, hF, _⟩ := h; exact hF.slice
theorem New.rowLen (L : Lay sz f) {lo : Nat} {w : World} {v : Value} {xs : List α} (h : New (RowG e sz f) lo w v xs) : xs.length ≤ maxLen := by
  by_cases h0 : 0 < xs.length
  · obtain ⟨g, c, _, h1, h2, _⟩ := h.rowAt L h0; omega
  · omega
section
variable {P : Program} {w : World} {ops : Array Oper} {rest : List Oper} {o : Oper} {a : Act} {Q : Exit → Act → World → Prop}
/-- 'append(v, y)' where y has sz plain cells, laid in a block of its own. -/
theorem wpl_pushG (L : Lay sz f) (hgd : Region.wanted o (yielded ops a.tmps) = true) (s x : Operand) (t : TypeId)
    (ho : o.op = .call { callee := .builtin .append, args := #[s, x], argTypes := #[t, t] })
    (z : Value) (bytes : Nat) (ht : P.underlying t = some (.slice e)) (hinfo : (P.info? e).map (fun i => (i.zero, i.size, i.bytes)) = some (some z, sz, bytes)) (hz1 : z.cells.size = sz)
    {lo : Nat} {v : Value} {xs : List α} (h0 : New (RowG e sz f) lo w v xs) (hlo : lo ≤ w.heap.size)
    (y : α) {bb : Nat} {c : Nat} (hcell : ∀ j u, (f y)[j]? = some u → w.cell? ⟨bb, j, none⟩ = some u)
    (hs : a.eval s = v) (hx : a.eval x = .slice (some ⟨bb, 0, none⟩) 1 c)
    (hbytes : (xs.length + 1) * bytes ≤ 140737488355328) (h63 : xs.length + 1 ≤ 9223372036854775807)
    (h : ∀ v' w', New (RowG e sz f) lo w' v' (xs ++ [y]) → Below lo w w' → wpList P ops Q rest (a.put o.dst v') w') :
    wpList P ops Q (o :: rest) a w := by
  obtain ⟨i, hi, hzz⟩ := Option.map_eq_some_iff.1 hinfo
  simp only [Prod.mk.injEq] at hzz
  obtain ⟨hz, hsz, hby⟩ := hzz
  obtain ⟨F, ⟨how, rfl⟩, hnd, hge⟩ := h0
  have hvlt : ∀ k, v.ownBlock = some k → lo ≤ k ∧ k < w.heap.size := fun k hk => ⟨hge k (by simp [hk]), (how.lt k hk).2⟩
  obtain ⟨v', w', hrun, how', hg, _, hat⟩ := run_append_own_at (P := P) w 0 t o.type e i z sz bytes ht hi hz hsz hby hz1 L.pos v xs.length (xs.flatMap f) how ⟨bb, 0, none⟩ 1 c (f y) (by rw [L.len]; omega)
    (by
      intro j u' hj
      have e : (⟨bb, 0, none⟩ : Addr).add j = ⟨bb, j, none⟩ := by unfold Addr.add; split <;> simp_all
      rw [e]
      exact hcell j u' hj)
    (fun u hu => L.one y u hu) h63 hbytes (Nat.zero_le _)
  refine wpl_append_run hgd s x t ho hs hx hrun ?_
  refine h v' w' ⟨v'.ownBlock.toList, ⟨by simpa [List.flatMap_append] using how', rfl⟩, by cases v'.ownBlock <;> simp, ?_⟩ (Below.of_grown hg hlo (fun k hk => (hvlt k hk).1))
  intro b hb
  simp at hb
  rcases hat with hat | hat
  · rw [hat] at hb; exact (hvlt b hb).1
  · rw [hat] at hb; simp at hb; omega
end
end
def acell (x : Arc3) : List Value := [.int .i64 x.1, .int .i64 x.2.1, .int .i64 x.2.2]
theorem acell_lay : Lay 3 acell := ⟨by decide, fun _ => rfl, fun x u hu => by
  simp [acell] at hu
  rcases hu with rfl | rfl | rfl <;> rfl⟩
abbrev RowA (e : TypeId) : OwnRel (List Arc3) := RowG e 3 acell
theorem RowG.arcs {e : TypeId} {w : World} {v : Value} {xs : List Arc3} {F : List Nat} (h : RowA e w v xs F) : OArcs w v xs F := by
  by_cases h0 : 0 < xs.length
  · obtain ⟨g, c, rfl, rfl, h1, h2, h3, h4⟩ := RowG.at acell_lay h h0
    have h2' : c ≤ 9223372036854775807 := h2
    refine ⟨by omega, Or.inr ⟨g, c, rfl, h1, h2', rfl, h3, fun j hj => ?_⟩⟩
    obtain ⟨x, hx, _⟩ := at_lt (xs := xs) (k := j / 3) (by omega)
    have hg : xs.getD (j / 3) (0, 0, 0) = x := by simp [List.getD, hx]
    have e : j / 3 * 3 + j % 3 = j := by omega
    have key : arcF xs xs.length j = comp (j % 3) x := by unfold arcF; rw [if_pos (by omega), hg]
    rw [key]
    have h5 := h4 (j / 3) x (j % 3) (.int .i64 (comp (j % 3) x)) hx (by
      have h3 : j % 3 = 0 ∨ j % 3 = 1 ∨ j % 3 = 2 := by omega
      rcases h3 with h3 | h3 | h3 <;> rw [h3] <;> rfl)
    rw [e] at h5
    exact h5
  · have e0 : xs = [] := List.eq_nil_of_length_eq_zero (by omega)
    subst e0
    obtain ⟨h, rfl⟩ := h
    rcases h.2 with ⟨rfl, _⟩ | ⟨g, cap, cur, rfl, _, hg, h1, h2, _, _⟩
    · exact ⟨by simp, Or.inl ⟨rfl, rfl, rfl⟩⟩
    · have h2' : cap ≤ 9223372036854775807 := h2
      exact ⟨by simp, Or.inr ⟨g, cap, rfl, h1, h2', rfl, (h.lt g rfl).2, fun j hj => by simp at hj⟩⟩
end Go.Sd
