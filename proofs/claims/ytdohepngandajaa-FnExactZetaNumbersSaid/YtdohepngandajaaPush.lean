/-
  append of one element, by footprints.
-/
import Derived.Test.YtdohepngandajaaBase
namespace Go.Sd
open Go.RowKit Go.Deep
section
variable {P : Program} {w : World} {ops : Array Oper} {rest : List Oper} {o : Oper} {a : Act} {Q : Exit → Act → World → Prop}
theorem wpl_pushF {α : Type} {R : OwnRel α} (hR : Kept R) (hgd : Region.wanted o (yielded ops a.tmps) = true) (s x : Operand) (t : TypeId)
    (ho : o.op = .call { callee := .builtin .append, args := #[s, x], argTypes := #[t, t] })
    (e : TypeId) (z : Value) (bytes : Nat) (ht : P.underlying t = some (.slice e)) (hinfo : (P.info? e).map (fun i => (i.zero, i.size, i.bytes)) = some (some z, 1, bytes)) (hz1 : z.cells = #[z])
    {F : List Nat} {v : Value} {xs : List α} (h0 : OwnOf e R w v xs F) (hnd : F.Nodup)
    {G : List Nat} {u : Value} {y : α} (hG : R w u y G) (hGn : G.Nodup) (hd : ∀ b, b ∈ G → b ∉ F) {bb : Nat} {c : Nat} (hcell : w.cell? ⟨bb, 0, none⟩ = some u)
    (hs : a.eval s = v) (hx : a.eval x = .slice (some ⟨bb, 0, none⟩) 1 c)
    (hbytes : (xs.length + 1) * bytes ≤ 140737488355328) (h63 : xs.length + 1 ≤ 9223372036854775807)
    (h : ∀ v' w' F', OwnOf e R w' v' (xs ++ [y]) F' → F'.Nodup → (∀ b, b ∈ F' → b ∈ F ∨ b ∈ G ∨ w.heap.size ≤ b) → Off F w w' → wpList P ops Q rest (a.put o.dst v') w') :
    wpList P ops Q (o :: rest) a w := by
  obtain ⟨i, hi, hzz⟩ := Option.map_eq_some_iff.1 hinfo
  simp only [Prod.mk.injEq] at hzz
  obtain ⟨hz, hsz, hby⟩ := hzz
  obtain ⟨us, Fs, how, hl, hr, rfl⟩ := h0
  have hul : us.length = xs.length := by simpa using how.1
  obtain ⟨v', w', hrun, how', hg, _, hat⟩ := run_append_own_at (P := P) w 0 t o.type e i z 1 bytes ht hi hz hsz hby (by rw [hz1]; rfl) (by decide) v xs.length us how ⟨bb, 0, none⟩ 1 c [u] (by simp)
    (by
      intro j u' hj
      match j, hj with
      | 0, hj =>
        simp at hj
        subst hj
        simpa [Addr.add] using hcell)
    (by
      intro u' hu'
      simp at hu'
      subst hu'
      exact hR.one _ _ _ _ hG) h63 hbytes (Nat.zero_le _)
  refine wpl_append_run hgd s x t ho hs hx hrun ?_
  have hlt0 : ∀ b, b ∈ Fs.flatten → b < w.heap.size := fun b hb' => by
    obtain ⟨H, hH, hb2⟩ := List.mem_flatten.1 hb'
    obtain ⟨j, hj⟩ := List.getElem?_of_mem hH
    have hj1 : j < Fs.length := (List.getElem?_eq_some_iff.1 hj).1
    exact hR.lt _ _ _ _ (hr j us[j] xs[j] H (List.getElem?_eq_getElem (by omega)) (List.getElem?_eq_getElem (by omega)) hj) b hb2
  have hvlt : ∀ k, v.ownBlock = some k → k < w.heap.size := fun k hk => (how.lt k hk).2
  have hGlt : ∀ b, b ∈ G → b < w.heap.size := hR.lt _ _ _ _ hG
  have hnd' := List.nodup_append.1 hnd
  have hnv : ∀ k, v.ownBlock = some k → k ∉ Fs.flatten := fun k hk hm => hnd'.2.2 k (by simp [hk]) k hm rfl
  have hGv : ∀ k, v.ownBlock = some k → k ∉ G := fun k hk hm => hd k hm (by simp [hk])
  have hGF : ∀ b, b ∈ G → b ∉ Fs.flatten := fun b hb hm => hd b hb (List.mem_append_right _ hm)
  refine h v' w' (v'.ownBlock.toList ++ (Fs ++ [G]).flatten) ⟨us ++ [u], Fs ++ [G], by simpa using how', by simp [hl], ?_, rfl⟩ ?_ ?_ ?_
  · intro j u' x' G' hu' hx' hG'
    by_cases hj : j < xs.length
    · rw [List.getElem?_append_left (by omega)] at hu' hx' hG'
      refine hR.keep _ _ _ _ _ (hr j u' x' G' hu' hx' hG') fun b hb' => ?_
      have hm : b ∈ Fs.flatten := List.mem_flatten_of_mem (List.mem_of_getElem? hG') hb'
      exact hg.block b (hlt0 b hm) (fun e => hnv b e.symm hm)
    · have hj2 : j = xs.length := by
        have := (List.getElem?_eq_some_iff.1 hx').1
        simp at this; omega
      subst hj2
      rw [List.getElem?_append_right (by omega)] at hu' hx' hG'
      simp [hul, hl] at hu' hx' hG'
      subst hu' hx' hG'
      exact hR.keep _ _ _ _ _ hG fun b hb' => hg.block b (hGlt b hb') fun e => hGv b e.symm hb'
  · simp only [List.flatten_append, List.flatten_cons, List.flatten_nil, List.append_nil]
    refine List.nodup_append.2 ⟨by cases v'.ownBlock <;> simp, List.nodup_append.2 ⟨hnd'.2.1, hGn, ?_⟩, ?_⟩
    · intro p hp q hq e
      subst e
      exact hGF p hq hp
    · intro p hp q hq e
      subst e
      simp at hp
      rcases hat with hat | hat
      · rw [hat] at hp
        rcases List.mem_append.1 hq with hq | hq
        · exact hnv p hp hq
        · exact hGv p hp hq
      · rw [hat] at hp
        simp at hp
        rcases List.mem_append.1 hq with hq | hq
        · have := hlt0 p hq; omega
        · have := hGlt p hq; omega
  · intro b hb'
    simp only [List.flatten_append, List.flatten_cons, List.flatten_nil, List.append_nil] at hb'
    rcases List.mem_append.1 hb' with hb' | hb'
    · simp at hb'
      rcases hat with hat | hat
      · rw [hat] at hb'
        exact Or.inl (List.mem_append_left _ (by simp [hb']))
      · rw [hat] at hb'
        simp at hb'
        exact Or.inr (Or.inr (by omega))
    · rcases List.mem_append.1 hb' with hb' | hb'
      · exact Or.inl (List.mem_append_right _ hb')
      · exact Or.inr (Or.inl hb')
  · exact ⟨hg.os, hg.tape, hg.output, hg.size, fun b hb hf => hg.block b hb fun e => hf (List.mem_append_left _ (by simp [← e]))⟩
end
/-- What has grown out of F. -/
def Out (F : List Nat) (w : World) (F' : List Nat) : Prop := ∀ b, b ∈ F' → b ∈ F ∨ w.heap.size ≤ b
theorem Off.step {F F' : List Nat} {w w1 w2 : World} (h : Off F w w1) (hF : Out F w F') (k : Off F' w1 w2) : Off F w w2 :=
  ⟨k.os.trans h.os, k.tape.trans h.tape, k.output.trans h.output, Nat.le_trans h.size k.size, fun b hb hf => (k.block b (Nat.lt_of_lt_of_le hb h.size) fun hm => by rcases hF b hm with h1 | h1; exact hf h1; omega).trans (h.block b hb hf)⟩
theorem Off.of_below {F : List Nat} {w w1 : World} (h : Below w.heap.size w w1) : Off F w w1 := ⟨h.os, h.tape, h.output, h.size, fun b hb _ => h.block b hb⟩
end Go.Sd
