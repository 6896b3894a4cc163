/-
  append by footprints: the slice and the element's own blocks named; two things of the call's own that share no block.
-/
import Derived.Test.YtdohepngandajaaDoorBase
namespace Go.Sd
open Go.RowKit Go.Deep

/-- 'append(v, u)' by footprints, as a run of the builtin. -/
theorem push_run {P : Program} {w : World} {α : Type} {R : OwnRel α} (hR : Kept R) (t ty e : TypeId) (z : Value) (bytes : Nat) (ht : P.underlying t = some (.slice e)) (hinfo : (P.info? e).map (fun i => (i.zero, i.size, i.bytes)) = some (some z, 1, bytes)) (hz1 : z.cells = #[z])
    {v : Value} {xs : List α} {F : List Nat} (h0 : OwnOf e R w v xs F) (hnd : F.Nodup) {u : Value} {y : α} {G : List Nat} (hG : R w u y G) (hGn : G.Nodup) (hd : ∀ b, b ∈ F → b ∉ G)
    {bb c : Nat} (hcell : w.cell? ⟨bb, 0, none⟩ = some u) (hbytes : (xs.length + 1) * bytes ≤ 140737488355328) (h63 : xs.length + 1 ≤ 9223372036854775807) :
    ∃ v' w' F', (Builtin.append_ #[t, t] ty #[v, .slice (some ⟨bb, 0, none⟩) 1 c]).run P w = .ok v' w' ∧ OwnOf e R w' v' (xs ++ [y]) F' ∧ F'.Nodup ∧ (∀ b, b ∈ F' → b ∈ F ∨ b ∈ G ∨ w.heap.size ≤ b) ∧ w.grownBy w' v.ownBlock ∧ (∀ k, v.ownBlock = some k → k ∈ F) := by
  obtain ⟨i, hi, hzz⟩ := Option.map_eq_some_iff.1 hinfo
  simp only [Prod.mk.injEq] at hzz
  obtain ⟨hz, hsz, hby⟩ := hzz
  have hltF := (OwnOf.kept (e := e) hR).lt _ _ _ _ h0
  obtain ⟨us, Fs, how, hl, hr, rfl⟩ := h0
  have hul : us.length = xs.length := by simpa using how.1
  have hvF : ∀ k, v.ownBlock = some k → k ∈ v.ownBlock.toList ++ Fs.flatten := fun k hk => by simp [hk]
  obtain ⟨v', w', hrun, how', hg, _, hat⟩ := run_append_own_at (P := P) w 0 t ty e i z 1 bytes ht hi hz hsz hby (by rw [hz1]; rfl) (by decide) v xs.length us how ⟨bb, 0, none⟩ 1 c [u] (by simp)
    (by
      intro j u' hj
      match j, hj with
      | 0, hj =>
        simp at hj
        subst hj
        simpa [Addr.add] using hcell)
    (by
      intro u' hu'
      simp at hu'
      subst hu'
      exact hR.one _ _ _ _ hG) h63 hbytes (Nat.zero_le _)
  have hGlt : ∀ b, b ∈ G → b < w.heap.size := hR.lt _ _ _ _ hG
  have hnd' := List.nodup_append.1 hnd
  have hnv : ∀ k, v.ownBlock = some k → k ∉ Fs.flatten := fun k hk hm => hnd'.2.2 k (by simp [hk]) k hm rfl
  have hat' : ∀ k, v'.ownBlock = some k → v.ownBlock = some k ∨ w.heap.size ≤ k := by
    intro k hk
    rcases hat with hat | hat
    · rw [hat] at hk; exact Or.inl hk
    · rw [hat] at hk; simp at hk; exact Or.inr (by omega)
  refine ⟨v', w', v'.ownBlock.toList ++ (Fs ++ [G]).flatten, hrun, ⟨us ++ [u], Fs ++ [G], by simpa using how', by simp [hl], ?_, rfl⟩, ?_, ?_, hg, hvF⟩
  · intro j u' x' G' hu' hx' hG'
    by_cases hj : j < xs.length
    · rw [List.getElem?_append_left (by omega)] at hu' hx' hG'
      refine hR.keep _ _ _ _ _ (hr j u' x' G' hu' hx' hG') fun b hb' => ?_
      have hm : b ∈ Fs.flatten := List.mem_flatten_of_mem (List.mem_of_getElem? hG') hb'
      exact hg.block b (hltF b (List.mem_append_right _ hm)) (fun e => hnv b e.symm hm)
    · have hj2 : j = xs.length := by
        have := (List.getElem?_eq_some_iff.1 hx').1
        simp at this; omega
      subst hj2
      rw [List.getElem?_append_right (by omega)] at hu' hx' hG'
      simp [hul, hl] at hu' hx' hG'
      subst hu' hx' hG'
      exact hR.keep _ _ _ _ _ hG fun b hb' => hg.block b (hGlt b hb') fun e => hd b (hvF b e.symm) hb'
  · simp only [List.flatten_append, List.flatten_cons, List.flatten_nil, List.append_nil]
    refine List.nodup_append.2 ⟨by cases v'.ownBlock <;> simp, List.nodup_append.2 ⟨hnd'.2.1, hGn, ?_⟩, ?_⟩
    · intro p hp q hq e
      subst e
      exact hd p (List.mem_append_right _ hp) hq
    · intro p hp q hq e
      subst e
      simp at hp
      rcases hat' p hp with hk | hk
      · rcases List.mem_append.1 hq with hq | hq
        · exact hnv p hk hq
        · exact hd p (hvF p hk) hq
      · rcases List.mem_append.1 hq with hq | hq
        · have := hltF p (List.mem_append_right _ hq); omega
        · have := hGlt p hq; omega
  · intro b hb'
    rcases List.mem_append.1 hb' with hb' | hb'
    · simp at hb'
      rcases hat' b hb' with hk | hk
      · exact Or.inl (hvF b hk)
      · exact Or.inr (Or.inr hk)
    · simp at hb'
      rcases hb' with ⟨H, hH, hb'⟩ | hb'
      · exact Or.inl (List.mem_append_right _ (List.mem_flatten_of_mem hH hb'))
      · exact Or.inr (Or.inl hb')

/-- Two things of the call's own that share no block. -/
def Apart {α β : Type} (R : OwnRel α) (S : OwnRel β) (lo : Nat) (w : World) (v : Value) (x : α) (u : Value) (y : β) : Prop :=
  ∃ F G, R w v x F ∧ S w u y G ∧ Fresh lo F ∧ Fresh lo G ∧ ∀ b, b ∈ F → b ∉ G

section
variable {α β : Type} {R : OwnRel α} {S : OwnRel β} {lo : Nat} {w : World} {v u : Value} {x : α} {y : β}
theorem Apart.left (h : Apart R S lo w v x u y) : New R lo w v x := by obtain ⟨F, G, h1, _, h3, _⟩ := h; exact ⟨F, h1, h3⟩
theorem Apart.right (h : Apart R S lo w v x u y) : New S lo w u y := by obtain ⟨F, G, _, h2, _, h4, _⟩ := h; exact ⟨G, h2, h4⟩
theorem Apart.symm (h : Apart R S lo w v x u y) : Apart S R lo w u y v x := by
  obtain ⟨F, G, h1, h2, h3, h4, h5⟩ := h
  exact ⟨G, F, h2, h1, h4, h3, fun b hG hF => h5 b hF hG⟩
theorem Apart.keep (hR : Kept R) (hS : Kept S) {B : Nat} {w' : World} (h : Apart R S lo w v x u y) (hb : Below B w w') (hB : w.heap.size ≤ B) : Apart R S lo w' v x u y := by
  obtain ⟨F, G, h1, h2, h3, h4, h5⟩ := h
  exact ⟨F, G, hR.keep _ _ _ _ _ h1 fun b hm => hb.block b (Nat.lt_of_lt_of_le (hR.lt _ _ _ _ h1 b hm) hB), hS.keep _ _ _ _ _ h2 fun b hm => hb.block b (Nat.lt_of_lt_of_le (hS.lt _ _ _ _ h2 b hm) hB), h3, h4, h5⟩
/-- One was made, then the other. -/
theorem Apart.of_new (hR : Kept R) {w1 : World} (h1 : New R lo w1 v x) (h2 : New S w1.heap.size w u y) (hb : Below w1.heap.size w1 w) (hlo : lo ≤ w1.heap.size) : Apart R S lo w v x u y := by
  obtain ⟨F, hF, hF2⟩ := h1
  obtain ⟨G, hG, hG2⟩ := h2
  refine ⟨F, G, hR.keep _ _ _ _ _ hF fun b hm => hb.block b (hR.lt _ _ _ _ hF b hm), hG, hF2, ⟨hG2.1, fun b hm => Nat.le_trans hlo (hG2.2 b hm)⟩, fun b hm hm2 => ?_⟩
  have := hR.lt _ _ _ _ hF b hm
  have := hG2.2 b hm2
  omega
end

section
variable {P : Program} {α β : Type} {R : OwnRel α} {S : OwnRel β} {lo : Nat} {w : World} {v u : Value} {e : TypeId}

/-- An element of the first is stored anew. -/
theorem Apart.at (hR : Kept R) (hS : Kept S) {xs : List α} {y : β} (h : Apart (OwnOf e R) S lo w v xs u y) {i : Nat} {x : α} (hx : xs[i]? = some x) :
    ∃ b c, v = .slice (some ⟨b, 0, none⟩) xs.length c ∧ xs.length ≤ c ∧ lo ≤ b ∧ b < w.heap.size ∧ (∃ u0, w.cell? ⟨b, i, none⟩ = some u0) ∧ w.frozen? ⟨b, i, none⟩ = false ∧
      ∀ w' u' x', Below w.heap.size w w' → New R w.heap.size w' u' x' → Apart (OwnOf e R) S lo (w'.setCell ⟨b, i, none⟩ u') v (xs.set i x') u y := by
  obtain ⟨F, G, hF, hG, hn, hm, hd⟩ := h
  have hlt := (OwnOf.kept (e := e) hR).lt _ _ _ _ hF
  obtain ⟨b, c, u0, H, hv, hc, hbF, hbH, hcell, hfr, hu, hHF, hHn, _, hst⟩ := hF.focus hR hn.1 hx
  refine ⟨b, c, hv, hc, hn.2 b hbF, hlt b hbF, ⟨u0, hcell⟩, hfr, fun w' u' x' hb ⟨G', hG', hn', hge'⟩ => ?_⟩
  obtain ⟨F', hF', hsub, hnd, _⟩ := hst w' u' x' G' hG' (fun hmm => by have := hge' b hmm; have := hlt b hbF; omega) (fun q hq _ => hb.block q (hlt q hq))
  have hGlt := hS.lt _ _ _ _ hG
  refine ⟨F', G, hF', hS.keep _ _ _ _ _ hG fun q hq => ?_, ⟨hnd hn' (fun q hq hqF => by have := hge' q hq; have := hlt q hqF; omega), fun q hq => (hsub q hq).elim (hn.2 q) fun hq2 => ?_⟩, hm, fun q hq hqG => ?_⟩
  · exact (Below.heap_setCell _ _ _ _ (fun e => hd b hbF (by have e2 : q = b := e; exact e2 ▸ hq))).trans (hb.block q (hGlt q hq))
  · have := hge' q hq2
    have := hlt b hbF
    have := hn.2 b hbF
    omega
  · rcases hsub q hq with h1 | h1
    · exact hd q h1 hqG
    · have := hge' q h1
      have := hGlt q hqG
      omega

/-- The second becomes the first's last element. -/
theorem Apart.push (hR : Kept R) (t ty : TypeId) (z : Value) (bytes : Nat) (ht : P.underlying t = some (.slice e)) (hinfo : (P.info? e).map (fun i => (i.zero, i.size, i.bytes)) = some (some z, 1, bytes)) (hz1 : z.cells = #[z])
    {xs : List α} {y : α} (h : Apart (OwnOf e R) R lo w v xs u y) (hlo : lo ≤ w.heap.size) {bb c : Nat} (hcell : w.cell? ⟨bb, 0, none⟩ = some u) (hbytes : (xs.length + 1) * bytes ≤ 140737488355328) (h63 : xs.length + 1 ≤ 9223372036854775807) :
    ∃ v' w', (Builtin.append_ #[t, t] ty #[v, .slice (some ⟨bb, 0, none⟩) 1 c]).run P w = .ok v' w' ∧ New (OwnOf e R) lo w' v' (xs ++ [y]) ∧ Below lo w w' := by
  obtain ⟨F, G, hF, hG, hn, hm, hd⟩ := h
  obtain ⟨v', w', F', hr, hF', hn', hs, hg, hv⟩ := push_run hR t ty e z bytes ht hinfo hz1 hF hn.1 hG hm.1 hd (c := c) hcell hbytes h63
  refine ⟨v', w', hr, ⟨F', hF', hn', fun b hb => ?_⟩, Below.of_grown hg hlo fun k hk => hn.2 k (hv k hk)⟩
  rcases hs b hb with h1 | h1 | h1
  · exact hn.2 b h1
  · exact hm.2 b h1
  · omega

/-- An element without blocks of its own is put behind the second. -/
theorem Apart.push2 (hR : Kept R) (hS : Kept S) (t ty : TypeId) (z : Value) (bytes : Nat) (ht : P.underlying t = some (.slice e)) (hinfo : (P.info? e).map (fun i => (i.zero, i.size, i.bytes)) = some (some z, 1, bytes)) (hz1 : z.cells = #[z])
    {x : α} {ys : List β} {y : β} {q : Value} (h : Apart R (OwnOf e S) lo w v x u ys) (hlo : lo ≤ w.heap.size) {bb c : Nat} (hcell : w.cell? ⟨bb, 0, none⟩ = some q) (hq : S w q y []) (hbytes : (ys.length + 1) * bytes ≤ 140737488355328) (h63 : ys.length + 1 ≤ 9223372036854775807) :
    ∃ v' w', (Builtin.append_ #[t, t] ty #[u, .slice (some ⟨bb, 0, none⟩) 1 c]).run P w = .ok v' w' ∧ Apart R (OwnOf e S) lo w' v x v' (ys ++ [y]) ∧ Below lo w w' := by
  obtain ⟨F, G, hF, hG, hn, hm, hd⟩ := h
  obtain ⟨v', w', G', hr, hG', hn', hs, hg, hv⟩ := push_run hS t ty e z bytes ht hinfo hz1 hG hm.1 hq (by simp) (by simp) (c := c) hcell hbytes h63
  have hlt := hR.lt _ _ _ _ hF
  refine ⟨v', w', hr, ⟨F, G', hR.keep _ _ _ _ _ hF fun b hb => hg.block b (hlt b hb) fun e => hd b hb (hv b e.symm), hG', hn, ⟨hn', fun b hb => ?_⟩, fun b hb hb2 => ?_⟩, Below.of_grown hg hlo fun k hk => hm.2 k (hv k hk)⟩
  · rcases hs b hb with h1 | h1 | h1
    · exact hm.2 b h1
    · simp at h1
    · omega
  · rcases hs b hb2 with h1 | h1 | h1
    · exact hd b hb h1
    · simp at h1
    · have := hlt b hb; omega
end

/-- 't[i] = append(t[i], x)' at an own table: the row's cell, a number of the row, and what the append and the store leave. -/
theorem New.row_push {P : Program} {eI eR : TypeId} {lo : Nat} {w : World} {v : Value} {m : List (List Int)} (h : New (OTab eI eR) lo w v m) {i j : Nat} {r : List Int} {x : Int} (hr : m[i]? = some r) (hx : r[j]? = some x)
    (t ty : TypeId) (z : Value) (bytes : Nat) (ht : P.underlying t = some (.slice eI)) (hinfo : (P.info? eI).map (fun i => (i.zero, i.size, i.bytes)) = some (some z, 1, bytes)) (hz1 : z.cells = #[z])
    (hbytes : (r.length + 1) * bytes ≤ 140737488355328) (h63 : r.length + 1 ≤ 9223372036854775807) :
    ∃ b c rb rc, v = .slice (some ⟨b, 0, none⟩) m.length c ∧ m.length ≤ c ∧ lo ≤ b ∧ b < w.heap.size ∧ w.cell? ⟨b, i, none⟩ = some (.slice (some ⟨rb, 0, none⟩) r.length rc) ∧ r.length ≤ rc ∧ rb < w.heap.size ∧ rb ≠ b ∧
      w.cell? ⟨rb, j, none⟩ = some (.int .i64 x) ∧
      ∀ (w1 : World) (bb c1 : Nat) (y : Int), Below w.heap.size w w1 → w1.cell? ⟨bb, 0, none⟩ = some (.int .i64 y) →
        ∃ v' w2, (Builtin.append_ #[t, t] ty #[.slice (some ⟨rb, 0, none⟩) r.length rc, .slice (some ⟨bb, 0, none⟩) 1 c1]).run P w1 = .ok v' w2 ∧
          w2.cell? ⟨b, i, none⟩ = some (.slice (some ⟨rb, 0, none⟩) r.length rc) ∧ w2.frozen? ⟨b, i, none⟩ = false ∧ v'.oneCell' = true ∧ Below lo w w2 ∧
          New (OTab eI eR) lo (w2.setCell ⟨b, i, none⟩ v') v (m.set i (r ++ [y])) := by
  obtain ⟨F, hF, hn, hge⟩ := h
  have hlt := (OTab.kept eI eR).lt _ _ _ _ hF
  obtain ⟨b, c, u, G, hv, hc, hbF, hbG, hcell, hfr, hu, hGF, hGn, _, hst⟩ := hF.focus (OInts.kept eI) hn hr
  obtain ⟨rb, rc, u2, G2, rfl, hrc, hrb, _, hcell2, hfr2, ⟨rfl, rfl⟩, _, _, _, _⟩ := hu.focus OIntR.kept hGn hx
  refine ⟨b, c, rb, rc, hv, hc, hge b hbF, hlt b hbF, hcell, hrc, hlt rb (hGF rb hrb), fun e => hbG (e ▸ hrb), hcell2, fun w1 bb c1 y hb hy => ?_⟩
  have hu1 : OInts eI w1 _ r G := (OInts.kept eI).keep _ _ _ _ _ hu fun q hq => hb.block q (hlt q (hGF q hq))
  have hz := hb.size
  have hlob := hge b hbF
  have hltb := hlt b hbF
  obtain ⟨v', w2, G', hrun, hG', hn', hs, hg, hvG⟩ := push_run OIntR.kept t ty eI z bytes ht hinfo hz1 hu1 hGn (y := y) (G := []) ⟨rfl, rfl⟩ (by simp) (by simp) (c := c1) hy hbytes h63
  have hoff : ∀ q, q ∈ F → q ∉ G → w2.heap[q]? = w.heap[q]? := fun q hq hqG => (hg.block q (by have := hlt q hq; omega) fun e => hqG (hvG q e.symm)).trans (hb.block q (hlt q hq))
  have hbb := hoff b hbF hbG
  have hbG' : b ∉ G' := fun hm => by
    rcases hs b hm with h1 | h1 | h1
    · exact hbG h1
    · simp at h1
    · omega
  obtain ⟨F', hF', hsub, hnd, _⟩ := hst w2 v' (r ++ [y]) G' hG' hbG' hoff
  refine ⟨v', w2, hrun, ?_, ?_, (OInts.kept eI).one _ _ _ _ hG', ?_, F', hF', hnd hn' (fun q hq hqF => ?_), fun q hq => (hsub q hq).elim (hge q) fun hm => ?_⟩
  · rw [← hcell]
    simp only [World.cell?, hbb]
  · rw [← hfr]
    simp only [World.frozen?, hbb]
  · exact (hb.mono (by omega)).grown hg (by omega) fun k hk => hge k (hGF k (hvG k hk))
  · rcases hs q hq with h1 | h1 | h1
    · exact h1
    · simp at h1
    · have := hlt q hqF; omega
  · rcases hs q hm with h1 | h1 | h1
    · exact hge q (hGF q h1)
    · simp at h1
    · omega
end Go.Sd
