/-
  Texts of this claim joined: laws for its walks, contracts of the functions that the law reaches.
-/
import Derived.Test.YtlkgkfgpnnahdaaGreatFnStepsM1
import Derived.ProofKit
import Derived.OpenShut
import Derived.Deep.Matrix
import Derived.Deep.Slices
import Derived.OwnWalk
import Derived.Lib.SmallJoins
import Derived.Test.YtlkgkfgpnnahdaaGreatRows
import Derived.Deep.RegionHeld3
import Derived.Deep.DeepCutAuto
import Derived.Deep.OwnRows
import Derived.Handy
section
/-
  append by footprints: the slice and the element's own blocks named; two things of the call's own that share no block.
-/
namespace Go.Sd
open Go.RowKit Go.Deep

/-- 'append(v, u)' by footprints, as a run of the builtin. -/
theorem push_run {P : Program} {w : World} {α : Type} {R : OwnRel α} (hR : Kept R) (t ty e : TypeId) (z : Value) (bytes : Nat) (ht : P.underlying t = some (.slice e)) (hinfo : (P.info? e).map (fun i => (i.zero, i.size, i.bytes)) = some (some z, 1, bytes)) (hz1 : z.cells = #[z])
    {v : Value} {xs : List α} {F : List Nat} (h0 : OwnOf e R w v xs F) (hnd : F.Nodup) {u : Value} {y : α} {G : List Nat} (hG : R w u y G) (hGn : G.Nodup) (hd : ∀ b, b ∈ F → b ∉ G)
    {bb c : Nat} (hcell : w.cell? ⟨bb, 0, none⟩ = some u) (hbytes : (xs.length + 1) * bytes ≤ 140737488355328) (h63 : xs.length + 1 ≤ 9223372036854775807) :
    ∃ v' w' F', (Builtin.append_ #[t, t] ty #[v, .slice (some ⟨bb, 0, none⟩) 1 c]).run P w = .ok v' w' ∧ OwnOf e R w' v' (xs ++ [y]) F' ∧ F'.Nodup ∧ (∀ b, b ∈ F' → b ∈ F ∨ b ∈ G ∨ w.heap.size ≤ b) ∧ w.grownBy w' v.ownBlock ∧ (∀ k, v.ownBlock = some k → k ∈ F) := by
  obtain ⟨i, hi, hzz⟩ := Option.map_eq_some_iff.1 hinfo
  simp only [Prod.mk.injEq] at hzz
  obtain ⟨hz, hsz, hby⟩ := hzz
  have hltF := (OwnOf.kept (e := e) hR).lt _ _ _ _ h0
  obtain ⟨us, Fs, how, hl, hr, rfl⟩ := h0
  have hul : us.length = xs.length := by simpa using how.1
  have hvF : ∀ k, v.ownBlock = some k → k ∈ v.ownBlock.toList ++ Fs.flatten := fun k hk => by simp [hk]
  obtain ⟨v', w', hrun, how', hg, _, hat⟩ := run_append_own_at (P := P) w 0 t ty e i z 1 bytes ht hi hz hsz hby (by rw [hz1]; rfl) (by decide) v xs.length us how ⟨bb, 0, none⟩ 1 c [u] (by simp)
    (by
      intro j u' hj
      match j, hj with
      | 0, hj =>
        simp at hj
        subst hj
        simpa [Addr.add] using hcell)
    (by
      intro u' hu'
      simp at hu'
      subst hu'
      exact hR.one _ _ _ _ hG) h63 hbytes (Nat.zero_le _)
  have hGlt : ∀ b, b ∈ G → b < w.heap.size := hR.lt _ _ _ _ hG
  have hnd' := List.nodup_append.1 hnd
  have hnv : ∀ k, v.ownBlock = some k → k ∉ Fs.flatten := fun k hk hm => hnd'.2.2 k (by simp [hk]) k hm rfl
  have hat' : ∀ k, v'.ownBlock = some k → v.ownBlock = some k ∨ w.heap.size ≤ k := by
    intro k hk
    rcases hat with hat | hat
    · rw [hat] at hk; exact Or.inl hk
    · rw [hat] at hk; simp at hk; exact Or.inr (by omega)
  refine ⟨v', w', v'.ownBlock.toList ++ (Fs ++ [G]).flatten, hrun, ⟨us ++ [u], Fs ++ [G], by simpa using how', by simp [hl], ?_, rfl⟩, ?_, ?_, hg, hvF⟩
  · intro j u' x' G' hu' hx' hG'
    by_cases hj : j < xs.length
    · rw [List.getElem?_append_left (by omega)] at hu' hx' hG'
      refine hR.keep _ _ _ _ _ (hr j u' x' G' hu' hx' hG') fun b hb' => ?_
      have hm : b ∈ Fs.flatten := List.mem_flatten_of_mem (List.mem_of_getElem? hG') hb'
      exact hg.block b (hltF b (List.mem_append_right _ hm)) (fun e => hnv b e.symm hm)
    · have hj2 : j = xs.length := by
        have := (List.getElem?_eq_some_iff.1 hx').1
        simp at this; omega
      subst hj2
      rw [List.getElem?_append_right (by omega)] at hu' hx' hG'
      simp [hul, hl] at hu' hx' hG'
      subst hu' hx' hG'
      exact hR.keep _ _ _ _ _ hG fun b hb' => hg.block b (hGlt b hb') fun e => hd b (hvF b e.symm) hb'
  · simp only [List.flatten_append, List.flatten_cons, List.flatten_nil, List.append_nil]
    refine List.nodup_append.2 ⟨by cases v'.ownBlock <;> simp, List.nodup_append.2 ⟨hnd'.2.1, hGn, ?_⟩, ?_⟩
    · intro p hp q hq e
      subst e
      exact hd p (List.mem_append_right _ hp) hq
    · intro p hp q hq e
      subst e
      simp at hp
      rcases hat' p hp with hk | hk
      · rcases List.mem_append.1 hq with hq | hq
        · exact hnv p hk hq
        · exact hd p (hvF p hk) hq
      · rcases List.mem_append.1 hq with hq | hq
        · have := hltF p (List.mem_append_right _ hq); omega
        · have := hGlt p hq; omega
  · intro b hb'
    rcases List.mem_append.1 hb' with hb' | hb'
    · simp at hb'
      rcases hat' b hb' with hk | hk
      · exact Or.inl (hvF b hk)
      · exact Or.inr (Or.inr hk)
    · simp at hb'
      rcases hb' with ⟨H, hH, hb'⟩ | hb'
      · exact Or.inl (List.mem_append_right _ (List.mem_flatten_of_mem hH hb'))
      · exact Or.inr (Or.inl hb')

/-- Two things of the call's own that share no block. -/
def Apart {α β : Type} (R : OwnRel α) (S : OwnRel β) (lo : Nat) (w : World) (v : Value) (x : α) (u : Value) (y : β) : Prop :=
  ∃ F G, R w v x F ∧ S w u y G ∧ Fresh lo F ∧ Fresh lo G ∧ ∀ b, b ∈ F → b ∉ G

section
variable {α β : Type} {R : OwnRel α} {S : OwnRel β} {lo : Nat} {w : World} {v u : Value} {x : α} {y : β}
theorem Apart.left (h : Apart R S lo w v x u y) : New R lo w v x := by obtain ⟨F, G, h1, _, h3, _⟩ := h; exact ⟨F, h1, h3⟩
theorem Apart.right (h : Apart R S lo w v x u y) : New S lo w u y := by obtain ⟨F, G, _, h2, _, h4, _⟩ := h; exact ⟨G, h2, h4⟩
theorem Apart.symm (h : Apart R S lo w v x u y) : Apart S R lo w u y v x := by
  obtain ⟨F, G, h1, h2, h3, h4, h5⟩ := h
  exact ⟨G, F, h2, h1, h4, h3, fun b hG hF => h5 b hF hG⟩
theorem Apart.keep (hR : Kept R) (hS : Kept S) {B : Nat} {w' : World} (h : Apart R S lo w v x u y) (hb : Below B w w') (hB : w.heap.size ≤ B) : Apart R S lo w' v x u y := by
  obtain ⟨F, G, h1, h2, h3, h4, h5⟩ := h
  exact ⟨F, G, hR.keep _ _ _ _ _ h1 fun b hm => hb.block b (Nat.lt_of_lt_of_le (hR.lt _ _ _ _ h1 b hm) hB), hS.keep _ _ _ _ _ h2 fun b hm => hb.block b (Nat.lt_of_lt_of_le (hS.lt _ _ _ _ h2 b hm) hB), h3, h4, h5⟩
/-- One was made, then the other. -/
theorem Apart.of_new (hR : Kept R) {w1 : World} (h1 : New R lo w1 v x) (h2 : New S w1.heap.size w u y) (hb : Below w1.heap.size w1 w) (hlo : lo ≤ w1.heap.size) : Apart R S lo w v x u y := by
  obtain ⟨F, hF, hF2⟩ := h1
  obtain ⟨G, hG, hG2⟩ := h2
  refine ⟨F, G, hR.keep _ _ _ _ _ hF fun b hm => hb.block b (hR.lt _ _ _ _ hF b hm), hG, hF2, ⟨hG2.1, fun b hm => Nat.le_trans hlo (hG2.2 b hm)⟩, fun b hm hm2 => ?_⟩
  have := hR.lt _ _ _ _ hF b hm
  have := hG2.2 b hm2
  omega
end

section
variable {P : Program} {α β : Type} {R : OwnRel α} {S : OwnRel β} {lo : Nat} {w : World} {v u : Value} {e : TypeId}

/-- An element of the first is stored anew. -/
theorem Apart.at (hR : Kept R) (hS : Kept S) {xs : List α} {y : β} (h : Apart (OwnOf e R) S lo w v xs u y) {i : Nat} {x : α} (hx : xs[i]? = some x) :
    ∃ b c, v = .slice (some ⟨b, 0, none⟩) xs.length c ∧ xs.length ≤ c ∧ lo ≤ b ∧ b < w.heap.size ∧ (∃ u0, w.cell? ⟨b, i, none⟩ = some u0) ∧ w.frozen? ⟨b, i, none⟩ = false ∧
      ∀ w' u' x', Below w.heap.size w w' → New R w.heap.size w' u' x' → Apart (OwnOf e R) S lo (w'.setCell ⟨b, i, none⟩ u') v (xs.set i x') u y := by
  obtain ⟨F, G, hF, hG, hn, hm, hd⟩ := h
  have hlt := (OwnOf.kept (e := e) hR).lt _ _ _ _ hF
  obtain ⟨b, c, u0, H, hv, hc, hbF, hbH, hcell, hfr, hu, hHF, hHn, _, hst⟩ := hF.focus hR hn.1 hx
  refine ⟨b, c, hv, hc, hn.2 b hbF, hlt b hbF, ⟨u0, hcell⟩, hfr, fun w' u' x' hb ⟨G', hG', hn', hge'⟩ => ?_⟩
  obtain ⟨F', hF', hsub, hnd, _⟩ := hst w' u' x' G' hG' (fun hmm => by have := hge' b hmm; have := hlt b hbF; omega) (fun q hq _ => hb.block q (hlt q hq))
  have hGlt := hS.lt _ _ _ _ hG
  refine ⟨F', G, hF', hS.keep _ _ _ _ _ hG fun q hq => ?_, ⟨hnd hn' (fun q hq hqF => by have := hge' q hq; have := hlt q hqF; omega), fun q hq => (hsub q hq).elim (hn.2 q) fun hq2 => ?_⟩, hm, fun q hq hqG => ?_⟩
  · exact (Below.heap_setCell _ _ _ _ (fun e => hd b hbF (by have e2 : q = b := e; exact e2 ▸ hq))).trans (hb.block q (hGlt q hq))
  · have := hge' q hq2
    have := hlt b hbF
    have := hn.2 b hbF
    omega
  · rcases hsub q hq with h1 | h1
    · exact hd q h1 hqG
    · have := hge' q h1
      have := hGlt q hqG
      omega

/-- The second becomes the first's last element. -/
theorem Apart.push (hR : Kept R) (t ty : TypeId) (z : Value) (bytes : Nat) (ht : P.underlying t = some (.slice e)) (hinfo : (P.info? e).map (fun i => (i.zero, i.size, i.bytes)) = some (some z, 1, bytes)) (hz1 : z.cells = #[z])
    {xs : List α} {y : α} (h : Apart (OwnOf e R) R lo w v xs u y) (hlo : lo ≤ w.heap.size) {bb c : Nat} (hcell : w.cell? ⟨bb, 0, none⟩ = some u) (hbytes : (xs.length + 1) * bytes ≤ 140737488355328) (h63 : xs.length + 1 ≤ 9223372036854775807) :
    ∃ v' w', (Builtin.append_ #[t, t] ty #[v, .slice (some ⟨bb, 0, none⟩) 1 c]).run P w = .ok v' w' ∧ New (OwnOf e R) lo w' v' (xs ++ [y]) ∧ Below lo w w' := by
  obtain ⟨F, G, hF, hG, hn, hm, hd⟩ := h
  obtain ⟨v', w', F', hr, hF', hn', hs, hg, hv⟩ := push_run hR t ty e z bytes ht hinfo hz1 hF hn.1 hG hm.1 hd (c := c) hcell hbytes h63
  refine ⟨v', w', hr, ⟨F', hF', hn', fun b hb => ?_⟩, Below.of_grown hg hlo fun k hk => hn.2 k (hv k hk)⟩
  rcases hs b hb with h1 | h1 | h1
  · exact hn.2 b h1
  · exact hm.2 b h1
  · omega

/-- An element without blocks of its own is put behind the second. -/
theorem Apart.push2 (hR : Kept R) (hS : Kept S) (t ty : TypeId) (z : Value) (bytes : Nat) (ht : P.underlying t = some (.slice e)) (hinfo : (P.info? e).map (fun i => (i.zero, i.size, i.bytes)) = some (some z, 1, bytes)) (hz1 : z.cells = #[z])
    {x : α} {ys : List β} {y : β} {q : Value} (h : Apart R (OwnOf e S) lo w v x u ys) (hlo : lo ≤ w.heap.size) {bb c : Nat} (hcell : w.cell? ⟨bb, 0, none⟩ = some q) (hq : S w q y []) (hbytes : (ys.length + 1) * bytes ≤ 140737488355328) (h63 : ys.length + 1 ≤ 9223372036854775807) :
    ∃ v' w', (Builtin.append_ #[t, t] ty #[u, .slice (some ⟨bb, 0, none⟩) 1 c]).run P w = .ok v' w' ∧ Apart R (OwnOf e S) lo w' v x v' (ys ++ [y]) ∧ Below lo w w' := by
  obtain ⟨F, G, hF, hG, hn, hm, hd⟩ := h
  obtain ⟨v', w', G', hr, hG', hn', hs, hg, hv⟩ := push_run hS t ty e z bytes ht hinfo hz1 hG hm.1 hq (by simp) (by simp) (c := c) hcell hbytes h63
  have hlt := hR.lt _ _ _ _ hF
  refine ⟨v', w', hr, ⟨F, G', hR.keep _ _ _ _ _ hF fun b hb => hg.block b (hlt b hb) fun e => hd b hb (hv b e.symm), hG', hn, ⟨hn', fun b hb => ?_⟩, fun b hb hb2 => ?_⟩, Below.of_grown hg hlo fun k hk => hm.2 k (hv k hk)⟩
  · rcases hs b hb with h1 | h1 | h1
    · exact hm.2 b h1
    · simp at h1
    · omega
  · rcases hs b hb2 with h1 | h1 | h1
    · exact hd b hb h1
    · simp at h1
    · have := hlt b hb; omega
end

/-- 't[i] = append(t[i], x)' at an own table: the row's cell, a number of the row, and what the append and the store leave. -/
theorem New.row_push {P : Program} {eI eR : TypeId} {lo : Nat} {w : World} {v : Value} {m : List (List Int)} (h : New (OTab eI eR) lo w v m) {i j : Nat} {r : List Int} {x : Int} (hr : m[i]? = some r) (hx : r[j]? = some x)
    (t ty : TypeId) (z : Value) (bytes : Nat) (ht : P.underlying t = some (.slice eI)) (hinfo : (P.info? eI).map (fun i => (i.zero, i.size, i.bytes)) = some (some z, 1, bytes)) (hz1 : z.cells = #[z])
    (hbytes : (r.length + 1) * bytes ≤ 140737488355328) (h63 : r.length + 1 ≤ 9223372036854775807) :
    ∃ b c rb rc, v = .slice (some ⟨b, 0, none⟩) m.length c ∧ m.length ≤ c ∧ lo ≤ b ∧ b < w.heap.size ∧ w.cell? ⟨b, i, none⟩ = some (.slice (some ⟨rb, 0, none⟩) r.length rc) ∧ r.length ≤ rc ∧ rb < w.heap.size ∧ rb ≠ b ∧
      w.cell? ⟨rb, j, none⟩ = some (.int .i64 x) ∧
      ∀ (w1 : World) (bb c1 : Nat) (y : Int), Below w.heap.size w w1 → w1.cell? ⟨bb, 0, none⟩ = some (.int .i64 y) →
        ∃ v' w2, (Builtin.append_ #[t, t] ty #[.slice (some ⟨rb, 0, none⟩) r.length rc, .slice (some ⟨bb, 0, none⟩) 1 c1]).run P w1 = .ok v' w2 ∧
          w2.cell? ⟨b, i, none⟩ = some (.slice (some ⟨rb, 0, none⟩) r.length rc) ∧ w2.frozen? ⟨b, i, none⟩ = false ∧ v'.oneCell' = true ∧ Below lo w w2 ∧
          New (OTab eI eR) lo (w2.setCell ⟨b, i, none⟩ v') v (m.set i (r ++ [y])) := by
  obtain ⟨F, hF, hn, hge⟩ := h
  have hlt := (OTab.kept eI eR).lt _ _ _ _ hF
  obtain ⟨b, c, u, G, hv, hc, hbF, hbG, hcell, hfr, hu, hGF, hGn, _, hst⟩ := hF.focus (OInts.kept eI) hn hr
  obtain ⟨rb, rc, u2, G2, rfl, hrc, hrb, _, hcell2, hfr2, ⟨rfl, rfl⟩, _, _, _, _⟩ := hu.focus OIntR.kept hGn hx
  refine ⟨b, c, rb, rc, hv, hc, hge b hbF, hlt b hbF, hcell, hrc, hlt rb (hGF rb hrb), fun e => hbG (e ▸ hrb), hcell2, fun w1 bb c1 y hb hy => ?_⟩
  have hu1 : OInts eI w1 _ r G := (OInts.kept eI).keep _ _ _ _ _ hu fun q hq => hb.block q (hlt q (hGF q hq))
  have hz := hb.size
  have hlob := hge b hbF
  have hltb := hlt b hbF
  obtain ⟨v', w2, G', hrun, hG', hn', hs, hg, hvG⟩ := push_run OIntR.kept t ty eI z bytes ht hinfo hz1 hu1 hGn (y := y) (G := []) ⟨rfl, rfl⟩ (by simp) (by simp) (c := c1) hy hbytes h63
  have hoff : ∀ q, q ∈ F → q ∉ G → w2.heap[q]? = w.heap[q]? := fun q hq hqG => (hg.block q (by have := hlt q hq; omega) fun e => hqG (hvG q e.symm)).trans (hb.block q (hlt q hq))
  have hbb := hoff b hbF hbG
  have hbG' : b ∉ G' := fun hm => by
    rcases hs b hm with h1 | h1 | h1
    · exact hbG h1
    · simp at h1
    · omega
  obtain ⟨F', hF', hsub, hnd, _⟩ := hst w2 v' (r ++ [y]) G' hG' hbG' hoff
  refine ⟨v', w2, hrun, ?_, ?_, (OInts.kept eI).one _ _ _ _ hG', ?_, F', hF', hnd hn' (fun q hq hqF => ?_), fun q hq => (hsub q hq).elim (hge q) fun hm => ?_⟩
  · rw [← hcell]
    simp only [World.cell?, hbb]
  · rw [← hfr]
    simp only [World.frozen?, hbb]
  · exact (hb.mono (by omega)).grown hg (by omega) fun k hk => hge k (hGF k (hvG k hk))
  · rcases hs q hq with h1 | h1 | h1
    · exact h1
    · simp at h1
    · have := hlt q hqF; omega
  · rcases hs q hm with h1 | h1 | h1
    · exact hge q (hGF q h1)
    · simp at h1
    · omega
end Go.Sd
end

section
/-
  How the laws' arguments are opened: what was read as data reads by this proof's own predicates.
-/
namespace Go.Sd
open Go.ChangeShapes Go.WideShapes Go.ChangeAt Go.RowKit Go.Deep

def I64 (x : Int) : Prop := -9223372036854775808 ≤ x ∧ x ≤ 9223372036854775807
theorem I64.of_wf {x : Int} (h : (Lit.int .i64 x).wf = true) : I64 x := bounds_i64 h

section
variable {H : Type} {enc : TypeId × Value → H} {P : Program} {W : World} {base : Nat}

theorem Sl.mk' {w : World} {a : Option Addr} {len cap : Nat} {us : List Value} (hu : us.length = len) (hl : len ≤ cap) (hm : cap ≤ 9223372036854775807) (hc : ∀ a', a = some a' → ∀ (i : Nat) (u : Value), us[i]? = some u → w.cell? (a'.add i) = some u) (hn0 : a = none → cap = 0) : Sl w (.slice a len cap) us := by
  subst hu
  refine ⟨by omega, a, cap, rfl, hl, hm, hn0, ?_⟩
  by_cases h0 : us.length = 0
  · exact Or.inl (List.eq_nil_of_length_eq_zero h0)
  · right
    cases a with
    | none => have := hn0 rfl; omega
    | some a' =>
      obtain ⟨b, o, sp⟩ := a'
      have h1 := hc _ rfl 0 us[0] (List.getElem?_eq_getElem (by omega))
      have hs : sp = none := by simpa [Addr.add] using World.cell?_spot h1
      subst hs
      refine ⟨b, o, rfl, World.block_lt_of_cell? w ⟨b, o, none⟩ (by simpa [Addr.add] using h1), fun i u hi => ?_⟩
      have := hc _ rfl i u hi
      cases i <;> simpa [Addr.add] using this

theorem open_Ints_cells {t q : TypeId} (ht : P.underlying t = some (.slice q)) (hq : P.underlying q = some (.int .i64)) (cq : P.cellsOf q = 1) {a : Option Addr} {len cap fuel : Nat} {x : DataW H × List MemPlace}
    (h : DataW.trod enc P W base (fun _ => true) true fuel t [.slice a len cap] = some x) : ∃ xs, Ints W (.slice a len cap) xs ∧ ∀ x, x ∈ xs → I64 x := by
  rcases open_ints ht hq cq h with ⟨hcs, _⟩ | ⟨a', l, c, zs, hcs, _, hl, hm, hz, _, hcell, hwz⟩
  · simp at hcs
    obtain ⟨rfl, rfl, rfl⟩ := hcs
    exact ⟨[], ⟨[], Sl.mk' rfl (by simp) (by simp) (by simp) (by simp), rfl, by simp⟩, by simp⟩
  · simp at hcs
    obtain ⟨rfl, rfl, rfl⟩ := hcs
    simp only [if_true] at hz
    have hm' : cap ≤ 9223372036854775807 := hm
    refine ⟨zs.take len, ⟨(zs.take len).map (Value.int .i64), Sl.mk' (by simp; omega) hl hm' ?_ (by simp), by simp, ?_⟩, fun y hy => I64.of_wf (hwz y (List.mem_of_mem_take hy))⟩
    · intro a'' ha i u hu
      cases ha
      rw [List.getElem?_map, Option.map_eq_some_iff] at hu
      obtain ⟨z, hz1, rfl⟩ := hu
      have hi : i < (zs.take len).length := (List.getElem?_eq_some_iff.1 hz1).1
      rw [List.length_take] at hi
      rw [List.getElem?_take, if_pos (by omega)] at hz1
      have := hcell i (by omega)
      rw [List.getD, hz1] at this
      simpa using this
    · intro i u z hu hz1
      rw [List.getElem?_map, hz1] at hu
      simp at hu
      exact hu.symm

theorem open_Ints {t q : TypeId} (ht : P.underlying t = some (.slice q)) (hq : P.underlying q = some (.int .i64)) (cq : P.cellsOf q = 1) {v : Value} {d : DataW H} {p : List MemPlace}
    (hv : Value.okWide P W .any base t v) (h : DataW.Trod enc P W 0 (fun _ => true) true t v d p) : ∃ xs, Ints W v xs ∧ ∀ x, x ∈ xs → I64 x := by
  obtain ⟨a, len, cap, rfl⟩ := okWide_slice ht hv
  obtain ⟨fuel, hf⟩ := h
  exact open_Ints_cells ht hq cq (by simpa [Value.cells] using hf)

/-- A slice whose elements each read: the elements' readings gathered. -/
theorem gather {α : Type} {R : World → Value → α → Prop} {w : World} {us : List Value} (h : ∀ u, u ∈ us → ∃ x, R w u x) : ∃ xs : List α, us.length = xs.length ∧ ∀ (i : Nat) (u : Value) (x : α), us[i]? = some u → xs[i]? = some x → R w u x := by
  induction us with
  | nil => exact ⟨[], rfl, by simp⟩
  | cons u us ih =>
    obtain ⟨x, hx⟩ := h u (by simp)
    obtain ⟨xs, hl, hr⟩ := ih fun u' hu' => h u' (by simp [hu'])
    refine ⟨x :: xs, by simp [hl], fun i u' x' hu' hx' => ?_⟩
    cases i with
    | zero => simp at hu' hx'; subst hu' hx'; exact hx
    | succ i => exact hr i u' x' (by simpa using hu') (by simpa using hx')

theorem open_Tab_cells {t e q : TypeId} (ht : P.underlying t = some (.slice e)) (he : P.underlying e = some (.slice q)) (hq : P.underlying q = some (.int .i64)) (ce : P.cellsOf e = 1) (cq : P.cellsOf q = 1) {a : Option Addr} {len cap fuel : Nat} {x : DataW H × List MemPlace}
    (h : DataW.trod enc P W base (fun _ => true) true fuel t [.slice a len cap] = some x) : ∃ m, Tab W (.slice a len cap) m ∧ ∀ r, r ∈ m → ∀ x, x ∈ r → I64 x := by
  rcases open_slice1 ht ce h with ⟨hcs, _⟩ | ⟨a', l, c, mm, n, V, D, Pl, hcs, hb, hl, hm, hmm, _, hx⟩
  · simp at hcs
    obtain ⟨rfl, rfl, rfl⟩ := hcs
    exact ⟨[], ⟨[], Sl.mk' rfl (by simp) (by simp) (by simp) (by simp), rfl, by simp⟩, by simp⟩
  · simp at hcs
    obtain ⟨rfl, rfl, rfl⟩ := hcs
    simp only [if_true] at hmm
    have hmm2 := hmm.symm
    subst hmm2
    have hm' : cap ≤ 9223372036854775807 := hm
    have each : ∀ u, u ∈ (List.range len).map V → ∃ r : List Int, Ints W u r ∧ ∀ x, x ∈ r → I64 x := by
      intro u hu
      obtain ⟨i, hi, rfl⟩ := List.mem_map.1 hu
      have hi' := List.mem_range.1 hi
      have h2 := (hx i (by omega)).2
      rcases open_ints he hq cq h2 with ⟨hcs, _⟩ | ⟨a2, l2, c2, zs, hcs, _⟩
      · simp at hcs
        rw [hcs] at h2 ⊢
        exact open_Ints_cells he hq cq h2
      · simp at hcs
        rw [hcs] at h2 ⊢
        exact open_Ints_cells he hq cq h2
    obtain ⟨m, hml, hmr⟩ := gather (R := fun w u r => Ints w u r ∧ ∀ x, x ∈ r → I64 x) (w := W) each
    refine ⟨m, ⟨(List.range len).map V, Sl.mk' (by simp) hl hm' ?_ (by simp), hml, fun i u r hu hr => (hmr i u r hu hr).1⟩, fun r hr => ?_⟩
    · intro a'' ha i u hu
      cases ha
      rw [List.getElem?_map, Option.map_eq_some_iff] at hu
      obtain ⟨j, hj, rfl⟩ := hu
      have hj2 := List.getElem?_eq_some_iff.1 hj
      obtain ⟨hj3, hj4⟩ := hj2
      simp at hj3 hj4
      subst hj4
      exact (hx i (by omega)).1
    · obtain ⟨i, hi⟩ := List.getElem?_of_mem hr
      have hi2 : i < m.length := (List.getElem?_eq_some_iff.1 hi).1
      exact (hmr i _ r (List.getElem?_eq_getElem (by omega)) hi).2

theorem open_Tab {t e q : TypeId} (ht : P.underlying t = some (.slice e)) (he : P.underlying e = some (.slice q)) (hq : P.underlying q = some (.int .i64)) (ce : P.cellsOf e = 1) (cq : P.cellsOf q = 1) {v : Value} {d : DataW H} {p : List MemPlace}
    (hv : Value.okWide P W .any base t v) (h : DataW.Trod enc P W 0 (fun _ => true) true t v d p) : ∃ m, Tab W v m ∧ ∀ r, r ∈ m → ∀ x, x ∈ r → I64 x := by
  obtain ⟨a, len, cap, rfl⟩ := okWide_slice ht hv
  obtain ⟨fuel, hf⟩ := h
  exact open_Tab_cells ht he hq ce cq (by simpa [Value.cells] using hf)
end
end Go.Sd
end

section
/-
  Labelled graphs by value: two numbers and a slice of structs of three numbers: how they read; how the laws' arguments are opened.
-/
namespace Go.Sd
open Go.RowKit Go.Deep Go.Joins Go.ChangeShapes Go.WideShapes Go.ChangeAt

abbrev Arc3 := Int × Int × Int
abbrev Lb := Int × Int × List Arc3
/-- v is a slice of structs of three numbers. -/
def ArcsR (w : World) (v : Value) (xs : List Arc3) : Prop :=
  xs.length ≤ 9223372036854775807 ∧ ∃ a c, v = .slice a xs.length c ∧ xs.length ≤ c ∧ c ≤ 9223372036854775807 ∧ (a = none → c = 0) ∧
    (0 < xs.length → ∃ b o, a = some ⟨b, o, none⟩ ∧ b < w.heap.size ∧ ∀ i x, xs[i]? = some x → w.cell? ⟨b, o + i * 3, none⟩ = some (.int .i64 x.1) ∧ w.cell? ⟨b, o + i * 3 + 1, none⟩ = some (.int .i64 x.2.1) ∧ w.cell? ⟨b, o + i * 3 + 2, none⟩ = some (.int .i64 x.2.2))
theorem ArcsR.frame : Framed ArcsR := by
  intro w w' v xs h hb
  obtain ⟨h1, a, c, rfl, h2, h3, h4, h5⟩ := h
  refine ⟨h1, a, c, rfl, h2, h3, h4, fun h0 => ?_⟩
  obtain ⟨b, o, rfl, hlt, hx⟩ := h5 h0
  refine ⟨b, o, rfl, Nat.lt_of_lt_of_le hlt hb.size, fun i x hi => ?_⟩
  obtain ⟨c0, c1, c2⟩ := hx i x hi
  exact ⟨(hb.cell (p := ⟨b, o + i * 3, none⟩) hlt).trans c0, (hb.cell (p := ⟨b, o + i * 3 + 1, none⟩) hlt).trans c1, (hb.cell (p := ⟨b, o + i * 3 + 2, none⟩) hlt).trans c2⟩
theorem ArcsR.store_off {w : World} {B n c : Nat} {xs : List Arc3} (h : ArcsR w (.slice (some ⟨B, 0, none⟩) n c) xs) {p : Addr} (hp : p.block ≠ B) (u : Value) : ArcsR (w.setCell p u) (.slice (some ⟨B, 0, none⟩) n c) xs := by
  obtain ⟨h1, a, c', hv, h2, h3, h4, h5⟩ := h
  refine ⟨h1, a, c', hv, h2, h3, h4, fun h0 => ?_⟩
  obtain ⟨b, o, rfl, hlt, hx⟩ := h5 h0
  have hb : b = B := by simp at hv; exact hv.1.1.symm
  refine ⟨b, o, rfl, by rw [World.size_setCell]; exact hlt, fun i x hi => ?_⟩
  obtain ⟨c0, c1, c2⟩ := hx i x hi
  have hne : ∀ j : Nat, p ≠ ⟨b, j, none⟩ := fun j e => hp (by rw [e]; exact hb)
  exact ⟨(World.cell?_setCell_other _ _ _ _ (hne _)).trans c0, (World.cell?_setCell_other _ _ _ _ (hne _)).trans c1, (World.cell?_setCell_other _ _ _ _ (hne _)).trans c2⟩
def LabR (w : World) (v : Value) (l : Lb) : Prop := ∃ va, v = .agg #[.int .i64 l.1, .int .i64 l.2.1, va] ∧ ArcsR w va l.2.2
theorem LabR.frame : Framed LabR := fun _ _ _ _ ⟨va, e, h⟩ hb => ⟨va, e, ArcsR.frame _ _ _ _ h hb⟩

/-- n numbers in a block, as a function gives them. -/
def CellsI (w : World) (B m : Nat) (f : Nat → Int) : Prop := ∀ j, j < m → w.cell? ⟨B, j, none⟩ = some (.int .i64 (f j)) ∧ w.frozen? ⟨B, j, none⟩ = false
theorem CellsI.set {w : World} {B m : Nat} {f : Nat → Int} (h : CellsI w B m f) {j : Nat} (hj : j < m) (y : Int) : CellsI (w.setCell ⟨B, j, none⟩ (.int .i64 y)) B m (fun i => if i = j then y else f i) := by
  intro i hi
  refine ⟨?_, (World.frozen?_setCell _ _ _ _).trans (h i hi).2⟩
  by_cases e : i = j
  · subst e
    show _ = some (Value.int .i64 (if i = i then y else f i))
    rw [if_pos rfl]
    exact World.cell?_setCell_same _ _ _ (h i hi).1
  · show _ = some (Value.int .i64 (if i = j then y else f i))
    rw [if_neg e]
    exact (World.cell?_setCell_other _ _ _ _ (by simp <;> omega)).trans (h i hi).1
theorem CellsI.congr {w : World} {B m : Nat} {f g : Nat → Int} (h : CellsI w B m f) (e : ∀ j, j < m → f j = g j) : CellsI w B m g := fun j hj => by rw [← e j hj]; exact h j hj
theorem CellsI.keep {w w' : World} {B m : Nat} {f : Nat → Int} (h : CellsI w B m f) {lo : Nat} (hb : Below lo w w') (hlt : B < lo) : CellsI w' B m f := fun j hj =>
  ⟨(hb.cell (p := ⟨B, j, none⟩) hlt).trans (h j hj).1, (hb.frozen (p := ⟨B, j, none⟩) hlt).trans (h j hj).2⟩

def comp (j : Nat) (x : Arc3) : Int := if j = 0 then x.1 else if j = 1 then x.2.1 else x.2.2
/-- The first k arcs laid out, zeros behind them. -/
def arcF (xs : List Arc3) (k j : Nat) : Int := if j / 3 < k then comp (j % 3) (xs.getD (j / 3) (0, 0, 0)) else 0
theorem arcF_next {xs : List Arc3} {k : Nat} {x : Arc3} (hx : xs[k]? = some x) (j : Nat) :
    (if j = k * 3 + 2 then x.2.2 else if j = k * 3 + 1 then x.2.1 else if j = k * 3 then x.1 else arcF xs k j) = arcF xs (k + 1) j := by
  have hg : xs.getD k (0, 0, 0) = x := by simp [List.getD, hx]
  unfold arcF
  by_cases e2 : j = k * 3 + 2
  · rw [if_pos e2, if_pos (by omega), show j / 3 = k by omega, hg, show j % 3 = 2 by omega]; rfl
  rw [if_neg e2]
  by_cases e1 : j = k * 3 + 1
  · rw [if_pos e1, if_pos (by omega), show j / 3 = k by omega, hg, show j % 3 = 1 by omega]; rfl
  rw [if_neg e1]
  by_cases e0 : j = k * 3
  · rw [if_pos e0, if_pos (by omega), show j / 3 = k by omega, hg, show j % 3 = 0 by omega]; rfl
  rw [if_neg e0]
  by_cases h : j / 3 < k
  · rw [if_pos h, if_pos (by omega)]
  · rw [if_neg h, if_neg (by omega)]
theorem ArcsR.of_cells {w : World} {B : Nat} {xs : List Arc3} (hB : B < w.heap.size) (hl : xs.length ≤ 9223372036854775807) (h : CellsI w B (xs.length * 3) (arcF xs xs.length)) : ArcsR w (.slice (some ⟨B, 0, none⟩) xs.length xs.length) xs := by
  refine ⟨hl, _, _, rfl, Nat.le_refl _, hl, by simp, fun _ => ⟨B, 0, rfl, hB, fun i x hi => ?_⟩⟩
  have hi2 := (List.getElem?_eq_some_iff.1 hi).1
  have hg : xs.getD i (0, 0, 0) = x := by simp [List.getD, hi]
  have key : ∀ c, c < 3 → arcF xs xs.length (i * 3 + c) = comp c x := fun c hc => by
    unfold arcF
    rw [if_pos (by omega), show (i * 3 + c) / 3 = i by omega, hg, show (i * 3 + c) % 3 = c by omega]
  have k0 := (h (i * 3 + 0) (by omega)).1
  have k1 := (h (i * 3 + 1) (by omega)).1
  have k2 := (h (i * 3 + 2) (by omega)).1
  rw [key _ (by omega)] at k0 k1 k2
  rw [Nat.zero_add]
  exact ⟨k0, k1, k2⟩

/-- 'make([]T, n)', T a struct of three numbers; the world is hidden. -/
theorem wpl_make3 {P : Program} {w : World} {ops : Array Oper} {rest : List Oper} {o : Oper} {a : Act} {Q : Exit → Act → World → Prop}
    (hg : o.guard = none) (l c : Operand) (t : TypeId) (hop : o.op = Op.makeSlice t l c)
    (e : TypeId) (bytes : Nat) (ht : P.underlying t = some (.slice e)) (hinfo : (P.info? e).map (fun i => (i.zero, i.size, i.bytes)) = some (some (.agg #[.int .i64 0, .int .i64 0, .int .i64 0]), 3, bytes))
    (n : Nat) (hl : a.eval l = .int .i64 (n : Int)) (hc : a.eval c = .int .i64 (n : Int)) (hbytes : bytes * n ≤ 281474976710656) (h63 : n ≤ 9223372036854775807)
    (hK : ∀ w', w.heap.size < w'.heap.size → CellsI w' w.heap.size (n * 3) (fun _ => 0) → Below w.heap.size w w' → wpList P ops Q rest (a.put o.dst (.slice (some ⟨w.heap.size, 0, none⟩) n n)) w') :
    wpList P ops Q (o :: rest) a w := by
  obtain ⟨i, hi, hzz⟩ := Option.map_eq_some_iff.1 hinfo
  simp only [Prod.mk.injEq] at hzz
  obtain ⟨hz, hs, hb⟩ := hzz
  refine wpList_make_full w hg l c t hop 0 e i _ 3 ht hi hz hs .i64 .i64 _ _ n hl hc rfl rfl (by rw [hb]; exact hbytes) h63 (Nat.zero_le _) fun w' ho hgr => ?_
  rcases ho.2 with ⟨h, _⟩ | ⟨g, cap, cur, hv, _, hgp, hnc, _, hsz, hcur⟩
  · simp at h
  · simp at hv
    obtain ⟨rfl, rfl⟩ := hv
    have hlt : w.heap.size < w'.heap.size := by
      have := (Array.getElem?_eq_some_iff.1 hgp).1
      exact this
    refine hK w' hlt (fun j hj => ?_) ((Below.refl w.heap.size w).grown hgr (Nat.le_refl _) (by simp))
    have hj2 : cur[j]? = some (.int .i64 0) := by
      have h1 : (cur.toList.take (n * 3))[j]? = some (.int .i64 0) := by
        rw [hcur]
        simp [madeCells, Value.cells, hj]
        have h3 : j % 3 = 0 ∨ j % 3 = 1 ∨ j % 3 = 2 := by omega
        rcases h3 with h | h | h <;> rw [h] <;> rfl
      rw [List.getElem?_take, if_pos hj] at h1
      simpa using h1
    constructor
    · simp [World.cell?, hgp, hj2]
    · simp [World.frozen?, hgp]

section
variable {H : Type} {enc : TypeId × Value → H} {P : Program} {W : World} {base : Nat}
theorem open_Arcs_cells {t e q : TypeId} {f0 f1 f2 : Field} (ht : P.underlying t = some (.slice e)) (he : P.underlying e = some (.struct #[f0, f1, f2])) (hq : P.underlying q = some (.int .i64)) (e0 : f0.type = q) (e1 : f1.type = q) (e2 : f2.type = q)
    (o0 : f0.offset = 0) (o1 : f1.offset = 1) (o2 : f2.offset = 2) (ce : P.cellsOf e = 3) (cq : P.cellsOf q = 1) {v : Value} {fuel : Nat} {x : DataW H × List MemPlace}
    (h : DataW.trod enc P W base (fun _ => true) true fuel t [v] = some x) : ∃ xs, ArcsR W v xs := by
  rcases open_slice ht h with ⟨hcs, _⟩ | ⟨a, len, cap, m, n, D, Pl, hcs, hb, hl, hm, hmm, _, hx⟩
  · simp at hcs
    subst hcs
    exact ⟨[], by simp, none, 0, rfl, by simp, by simp, by simp, by simp⟩
  · simp at hcs
    subst hcs
    simp only [if_true] at hmm
    obtain rfl : m = cap := hmm
    have each : ∀ i, i < m → ∃ y : Arc3, W.cell? (a.add (i * 3)) = some (.int .i64 y.1) ∧ W.cell? (a.add (i * 3 + 1)) = some (.int .i64 y.2.1) ∧ W.cell? (a.add (i * 3 + 2)) = some (.int .i64 y.2.2) := by
      intro i hi
      obtain ⟨cs', h1, h2⟩ := hx i hi
      rw [ce] at h1
      obtain ⟨_, hlen, hcell⟩ := World.cells?_some h1
      obtain ⟨xs, k, hk, hxy, _, hxl, hf⟩ := DataW.trod_struct he h2
      match xs, hxl, cs', hlen with
      | [y0, y1, y2], _, [v0, v1, v2], _ =>
        have g0 := hf 0 f0 rfl
        have g1 := hf 1 f1 rfl
        have g2 := hf 2 f2 rfl
        rw [e0] at g0
        rw [e1] at g1
        rw [e2] at g2
        simp [o0, o1, o2, cq] at g0 g1 g2
        obtain ⟨a0, z0, _, _⟩ := DataW.trod_int hq g0
        obtain ⟨a1, z1, _, _⟩ := DataW.trod_int hq g1
        obtain ⟨a2, z2, _, _⟩ := DataW.trod_int hq g2
        simp at z0 z1 z2
        subst z0 z1 z2
        have c0 := hcell 0 (by omega)
        have c1 := hcell 1 (by omega)
        have c2 := hcell 2 (by omega)
        rw [add_add] at c0 c1 c2
        exact ⟨(a0, a1, a2), by simpa using c0, by simpa using c1, by simpa using c2⟩
    obtain ⟨q, hqq⟩ := choose_lt each
    have hm' : m ≤ 9223372036854775807 := hm
    refine ⟨(List.range len).map q, by simp; omega, some a, m, by simp, by simp; exact hl, hm', by simp, fun h0 => ?_⟩
    simp at h0
    obtain ⟨b, o, sp⟩ := a
    have h1 := (hqq 0 (by omega)).1
    have hs : sp = none := by simpa [Addr.add] using World.cell?_spot h1
    subst hs
    refine ⟨b, o, rfl, World.block_lt_of_cell? W ⟨b, o, none⟩ (by simpa [Addr.add] using h1), fun i x hi => ?_⟩
    have hi2 : i < len := by simpa using (List.getElem?_eq_some_iff.1 hi).1
    rw [List.getElem?_map, List.getElem?_range hi2] at hi
    simp at hi
    subst hi
    have h3 := hqq i (by omega)
    rw [add_plain, add_plain, add_plain] at h3
    exact h3
theorem open_Labels {tS tA e q : TypeId} {g0 g1 g2 f0 f1 f2 : Field} (hs : P.underlying tS = some (.struct #[g0, g1, g2])) (hone : oneCellFields P #[g0, g1, g2] = true) (hC : P.cellsOf tS = 3) (k0 : g0.type = q) (k1 : g1.type = q) (k2 : g2.type = tA)
    (ht : P.underlying tA = some (.slice e)) (he : P.underlying e = some (.struct #[f0, f1, f2])) (hq : P.underlying q = some (.int .i64)) (e0 : f0.type = q) (e1 : f1.type = q) (e2 : f2.type = q)
    (o0 : f0.offset = 0) (o1 : f1.offset = 1) (o2 : f2.offset = 2) (ce : P.cellsOf e = 3) (cq : P.cellsOf q = 1) {v : Value} {d : DataW H} {p : List MemPlace}
    (hv : Value.okWide P W .any base tS v) (h : DataW.Trod enc P W 0 (fun _ => true) true tS v d p) : ∃ l, LabR W v l ∧ I64 l.1 ∧ I64 l.2.1 := by
  obtain ⟨c0, c1, c2, y0, y1, y2, m, rfl, rfl, rfl, hy0, hy1, hy2⟩ := open_agg3 hs hone hC hv h
  rw [k0] at hy0
  rw [k1] at hy1
  rw [k2] at hy2
  obtain ⟨a0, z0, _, w0⟩ := DataW.trod_int hq hy0
  obtain ⟨a1, z1, _, w1⟩ := DataW.trod_int hq hy1
  simp at z0 z1
  subst z0 z1
  obtain ⟨xs, hxs⟩ := open_Arcs_cells ht he hq e0 e1 e2 o0 o1 o2 ce cq hy2
  exact ⟨(a0, a1, xs), ⟨c2, rfl, hxs⟩, I64.of_wf w0, I64.of_wf w1⟩
end
end Go.Sd
end

section
/-
  The function of Moebius: the program's and the reference's both return 'moeb n'.
-/
namespace Go.Proofs.YtlkgkfgpnnahdaaGreat
open Go.RowKit Go.Deep Go.Sd

/-- The loop, by rounds that are left. -/
def moebLoop : Nat → Int → Int → Int → Int
  | 0, _, _, out => out
  | f + 1, n, p, out => if p ≤ n then (if n % p ≠ 0 then moebLoop f n (p + 1) out else if (n / p) % p = 0 then 0 else moebLoop f (n / p) (p + 1) (-out)) else out
def moeb (n : Int) : Int := if n < 1 ∨ 1000 < n then 0 else moebLoop (n.toNat + 1) n 2 1

theorem moebLoop_stop (f : Nat) (n p out : Int) (h : n < p) : moebLoop f n p out = out := by
  cases f with
  | zero => rfl
  | succ f => unfold moebLoop; rw [if_neg (by omega)]

theorem div_bd (n p : Int) (h0 : 1 ≤ n) (h1 : 2 ≤ p) (h2 : n % p = 0) : 1 ≤ n / p ∧ n / p ≤ n := by
  have h3 := Int.emod_add_mul_ediv n p
  have h4 : n = p * (n / p) := by omega
  have h5 : 0 < n / p := by
    rcases Int.lt_or_le 0 (n / p) with h | h
    · exact h
    · have : p * (n / p) ≤ 0 := Int.mul_nonpos_of_nonneg_of_nonpos (by omega) h
      omega
  have h6 : 1 * (n / p) ≤ p * (n / p) := Int.mul_le_mul_of_nonneg_right (by omega) (by omega)
  omega

theorem moeb_bd (n : Int) : -1000 ≤ moeb n ∧ moeb n ≤ 1000 := by
  have h : ∀ (f : Nat) (n p out : Int), -1 ≤ out → out ≤ 1 → -1 ≤ moebLoop f n p out ∧ moebLoop f n p out ≤ 1 := by
    intro f
    induction f with
    | zero => intro n p out h0 h1; exact ⟨h0, h1⟩
    | succ f ih =>
      intro n p out h0 h1
      unfold moebLoop
      split
      · split
        · exact ih _ _ _ h0 h1
        · split
          · omega
          · exact ih _ _ _ (by omega) (by omega)
      · omega
  unfold moeb
  split
  · omega
  · have := h (n.toNat + 1) n 2 1 (by omega) (by omega); omega

theorem l1In_c (a b c : Int) (w : World) :
    Calls Tryz.prog 58 #[.int .i64 a, .int .i64 b, .int .i64 c] w fun e w' => e = .returned (.bool (decide (b ≤ a) && decide (a ≤ c))) ∧ w = w' := by
  by_cases h1 : b ≤ a <;> by_cases h2 : a ≤ c
  all_goals
    go_enter Tryz.func58, Tryz.ntmps58
    go_wp2
    go_ret
    exact ⟨by simp [*], rfl⟩
theorem l1In_yes {a b c : Int} (w : World) (h1 : b ≤ a) (h2 : a ≤ c) : Calls Tryz.prog 58 #[.int .i64 a, .int .i64 b, .int .i64 c] w fun e w' => e = .returned (.bool true) ∧ w = w' := by
  have := l1In_c a b c w
  simpa [h1, h2] using this
theorem l1In_no {a b c : Int} (w : World) (h : a < b ∨ c < a) : Calls Tryz.prog 58 #[.int .i64 a, .int .i64 b, .int .i64 c] w fun e w' => e = .returned (.bool false) ∧ w = w' := by
  have e : (decide (b ≤ a) && decide (a ≤ c)) = false := by
    rcases h with h | h
    · simp; omega
    · simp; omega
  have := l1In_c a b c w
  rw [e] at this
  exact this



end Go.Proofs.YtlkgkfgpnnahdaaGreat
end

section
/-
  Arcs compared, both sides.
-/
namespace Go.Sd
open Go.RowKit Go.Deep
theorem boxA3_ex (w : World) (ty : TypeId) (v1 v2 v3 : Value) : ∃ w', w.alloc (.cells #[v1, v2, v3] ty) = w' ∧ Below w.heap.size w w' ∧ w'.cell? ⟨w.heap.size, 0, none⟩ = some v1 ∧ w'.cell? ⟨w.heap.size, 1, none⟩ = some v2 ∧ w'.cell? ⟨w.heap.size, 2, none⟩ = some v3 ∧ w.heap.size < w'.heap.size :=
  ⟨_, rfl, (Below.refl w.heap.size w).alloc (Nat.le_refl _) _, by simp, by simp, by simp, by simp⟩
theorem Ints.three {w : World} {b : Nat} {x y z : Int} (hb : b < w.heap.size) (h0 : w.cell? ⟨b, 0, none⟩ = some (.int .i64 x)) (h1 : w.cell? ⟨b, 1, none⟩ = some (.int .i64 y)) (h2 : w.cell? ⟨b, 2, none⟩ = some (.int .i64 z)) : Ints w (.slice (some ⟨b, 0, none⟩) 3 3) [x, y, z] := by
  refine ⟨[.int .i64 x, .int .i64 y, .int .i64 z], ⟨by simp, _, 3, rfl, by simp, by simp, by simp, Or.inr ⟨b, 0, rfl, hb, fun i u hu => ?_⟩⟩, rfl, fun i u v hu hv => ?_⟩
  · match i, hu with
    | 0, hu => simp at hu; subst hu; exact h0
    | 1, hu => simp at hu; subst hu; exact h1
    | 2, hu => simp at hu; subst hu; exact h2
    | i + 3, hu => simp at hu
  · match i, hu, hv with
    | 0, hu, hv => simp at hu hv; subst hu; subst hv; rfl
    | 1, hu, hv => simp at hu hv; subst hu; subst hv; rfl
    | 2, hu, hv => simp at hu hv; subst hu; subst hv; rfl
    | i + 3, hu, hv => simp at hu
end Go.Sd
namespace Go.Proofs.YtlkgkfgpnnahdaaGreat
open Go.RowKit Go.Deep Go.Sd

def cmpI (a b : Int) : Int := if a < b then -1 else if b < a then 1 else 0
def orL : List Int → Int
  | [] => 0
  | x :: xs => if x ≠ 0 then x else orL xs
def cmpA (a b : Arc3) : Int := orL [cmpI a.1 b.1, cmpI a.2.2 b.2.2, cmpI a.2.1 b.2.1]
def before (a b : Arc3) : Bool := if a.1 ≠ b.1 then decide (a.1 < b.1) else if a.2.2 ≠ b.2.2 then decide (a.2.2 < b.2.2) else decide (a.2.1 < b.2.1)
theorem cmpA_nn (a b : Arc3) : (0 ≤ cmpA a b) ↔ before a b = false := by
  obtain ⟨a0, a1, a2⟩ := a
  obtain ⟨b0, b1, b2⟩ := b
  simp only [cmpA, before, orL, cmpI]
  repeat' split
  all_goals simp
  all_goals omega

end Go.Proofs.YtlkgkfgpnnahdaaGreat
end

section
/-
  The laws' helpers on labelled graphs.
-/
namespace Go.Proofs.YtlkgkfgpnnahdaaGreat
open Go.RowKit Go.Deep Go.Sd

end Go.Proofs.YtlkgkfgpnnahdaaGreat
end

section
/-
  Labelled graphs of the call's own: what marks leave; the laws' helpers.
-/
namespace Go.Sd
open Go.RowKit Go.Deep
theorem OffIn.cell3 {lo hi : Nat} {w w' : World} (h : OffIn lo hi w w') {p : Addr} (hp : p.block < w.heap.size) (hn : ¬ (lo ≤ p.block ∧ p.block < hi)) : w'.cell? p = w.cell? p := by
  simp [World.cell?, h.block _ hp hn]
/-- Own arcs: the block that holds them. -/
def OArcs : OwnRel (List Arc3) := fun w v xs F =>
  xs.length ≤ 9223372036854775807 ∧ ((xs = [] ∧ v = .slice none 0 0 ∧ F = []) ∨ ∃ B c, v = .slice (some ⟨B, 0, none⟩) xs.length c ∧ xs.length ≤ c ∧ c ≤ 9223372036854775807 ∧ F = [B] ∧ B < w.heap.size ∧ CellsI w B (xs.length * 3) (arcF xs xs.length))
def OLab : OwnRel Lb := fun w v x F => ∃ va, v = .agg #[.int .i64 x.1, .int .i64 x.2.1, va] ∧ OArcs w va x.2.2 F
theorem CellsI.same {w w' : World} {B m : Nat} {f : Nat → Int} (h : CellsI w B m f) (e : w'.heap[B]? = w.heap[B]?) : CellsI w' B m f := by
  intro j hj
  obtain ⟨h1, h2⟩ := h j hj
  constructor
  · rw [← h1]; simp [World.cell?, e]
  · rw [← h2]; simp [World.frozen?, e]
theorem OArcs.held : Held OArcs := by
  refine ⟨?_, ?_⟩
  · rintro w w' v xs F ⟨h0, h⟩ hk
    refine ⟨h0, h.imp id ?_⟩
    rintro ⟨B, c, rfl, h1, h2, rfl, hB, hc⟩
    have e := hk B (by simp)
    have hB' : B < w'.heap.size := by
      have h3 : (w.heap[B]?).isSome = true := by simp [hB]
      rw [← e] at h3
      simpa using h3
    exact ⟨B, c, rfl, h1, h2, rfl, hB', hc.same e⟩
  · rintro w v xs F ⟨_, h⟩ b hb
    rcases h with ⟨_, _, rfl⟩ | ⟨B, c, _, _, _, rfl, hB, _⟩
    · simp at hb
    · simp at hb; subst hb; exact hB
theorem OArcs.reads {w : World} {v : Value} {xs : List Arc3} {F : List Nat} (h : OArcs w v xs F) : ArcsR w v xs := by
  obtain ⟨h0, ⟨rfl, rfl, rfl⟩ | ⟨B, c, rfl, h1, h2, rfl, hB, hc⟩⟩ := h
  · exact ⟨h0, none, 0, rfl, by simp, by simp, fun _ => rfl, by simp⟩
  · obtain ⟨a0, a1, a2, a3, a4, a5, a6, a7⟩ := ArcsR.of_cells hB h0 hc
    simp at a3
    obtain ⟨rfl, rfl⟩ := a3
    exact ⟨h0, _, c, rfl, h1, h2, by simp, a7⟩
theorem OLab.held : Held OLab :=
  ⟨fun w w' v x F ⟨va, e, h⟩ hk => ⟨va, e, OArcs.held.keep _ _ _ _ _ h hk⟩, fun w v x F ⟨_, _, h⟩ b hb => OArcs.held.lt _ _ _ _ h b hb⟩
theorem OLab.reads {w : World} {v : Value} {x : Lb} {F : List Nat} (h : OLab w v x F) : LabR w v x := by obtain ⟨va, e, h⟩ := h; exact ⟨va, e, h.reads⟩
theorem New.lab {lo : Nat} {w : World} {v : Value} {x : Lb} (h : New OLab lo w v x) : LabR w v x := by obtain ⟨F, h, _⟩ := h; exact h.reads
theorem OArcs.store_off {w : World} {B n c : Nat} {xs : List Arc3} (h : OArcs w (.slice (some ⟨B, 0, none⟩) n c) xs [B]) {p : Addr} (hp : p.block ≠ B) (u : Value) : OArcs (w.setCell p u) (.slice (some ⟨B, 0, none⟩) n c) xs [B] :=
  OArcs.held.keep _ _ _ _ _ h fun b hb => by simp at hb; subst hb; exact Below.heap_setCell _ _ _ _ (fun e => hp e.symm)
/-- Arcs marked. -/
def markA : List Arc3 → Int → List Arc3
  | [], _ => []
  | _ :: xs, k => (k, k + 1, k + 2) :: markA xs (k + 3)
theorem markA_len : ∀ (xs : List Arc3) (k : Int), (markA xs k).length = xs.length
  | [], _ => rfl
  | _ :: xs, k => by simp [markA, markA_len xs]
theorem markA_at : ∀ (xs : List Arc3) (k : Int) (i : Nat), i < xs.length → (markA xs k)[i]? = some (k + 3 * i, k + 3 * i + 1, k + 3 * i + 2)
  | [], _, i, h => by simp at h
  | _ :: xs, k, 0, _ => by simp [markA]
  | _ :: xs, k, i + 1, h => by
    simp only [markA, List.getElem?_cons_succ]
    rw [markA_at xs (k + 3) i (by simpa using h)]
    have e : k + 3 + 3 * (i : Int) = k + 3 * ((i + 1 : Nat) : Int) := by omega
    rw [e]
def markF (xs : List Arc3) (k0 : Int) (k j : Nat) : Int := if j < 3 * k then k0 + j else arcF xs xs.length j
theorem markF_next (xs : List Arc3) (k0 : Int) (k j : Nat) :
    (if j = k * 3 + 2 then k0 + 3 * (k : Int) + 1 + 1 else if j = k * 3 + 1 then k0 + 3 * (k : Int) + 1 else if j = k * 3 then k0 + 3 * (k : Int) else markF xs k0 k j) = markF xs k0 (k + 1) j := by
  unfold markF
  by_cases e2 : j = k * 3 + 2
  · rw [if_pos e2, if_pos (by omega)]; omega
  rw [if_neg e2]
  by_cases e1 : j = k * 3 + 1
  · rw [if_pos e1, if_pos (by omega)]; omega
  rw [if_neg e1]
  by_cases e0 : j = k * 3
  · rw [if_pos e0, if_pos (by omega)]; omega
  rw [if_neg e0]
  by_cases h : j < 3 * k
  · rw [if_pos h, if_pos (by omega)]
  · rw [if_neg h, if_neg (by omega)]
theorem markF_end (xs : List Arc3) (k0 : Int) (j : Nat) (hj : j < xs.length * 3) : markF xs k0 xs.length j = arcF (markA xs k0) xs.length j := by
  unfold markF arcF
  rw [if_pos (by omega), if_pos (by omega)]
  have h := markA_at xs k0 (j / 3) (by omega)
  have hg : (markA xs k0).getD (j / 3) (0, 0, 0) = (k0 + 3 * ((j / 3 : Nat) : Int), k0 + 3 * ((j / 3 : Nat) : Int) + 1, k0 + 3 * ((j / 3 : Nat) : Int) + 2) := by simp [List.getD, h]
  rw [hg]
  unfold comp
  have h3 : j % 3 = 0 ∨ j % 3 = 1 ∨ j % 3 = 2 := by omega
  rcases h3 with h3 | h3 | h3
  · rw [h3]; simp; omega
  · rw [h3]; simp; omega
  · rw [h3]; simp; omega
end Go.Sd
namespace Go.Proofs.YtlkgkfgpnnahdaaGreat
open Go.RowKit Go.Deep Go.Sd

end Go.Proofs.YtlkgkfgpnnahdaaGreat
end

section
/-
  Own slices whose elements are several plain cells each (structs, arrays of numbers): how they read, append of one element.
-/
namespace Go.Sd
open Go.RowKit Go.Deep
/-- Elements of sz cells each, given by f. -/
structure Lay {α : Type} (sz : Nat) (f : α → List Value) : Prop where
  pos : 0 < sz
  len : ∀ x, (f x).length = sz
  one : ∀ x u, u ∈ f x → u.oneCell' = true
def RowG {α : Type} (e : TypeId) (sz : Nat) (f : α → List Value) : OwnRel (List α) := fun w v xs F => w.ownsRow 0 e sz v xs.length (xs.flatMap f) ∧ F = v.ownBlock.toList
section
variable {α : Type} {e : TypeId} {sz : Nat} {f : α → List Value}
theorem flatMap_len (L : Lay sz f) : ∀ (xs : List α), (xs.flatMap f).length = xs.length * sz
  | [] => by simp
  | x :: xs => by simp only [List.flatMap_cons, List.length_append, List.length_cons, L.len, flatMap_len L xs, Nat.add_mul]; omega
theorem flatMap_at (L : Lay sz f) : ∀ {xs : List α} {i j : Nat} {x : α} {u : Value}, xs[i]? = some x → (f x)[j]? = some u → (xs.flatMap f)[i * sz + j]? = some u
  | [], i, j, x, u, h, _ => by simp at h
  | y :: xs, 0, j, x, u, h, hu => by
    simp at h
    subst h
    have hj := (List.getElem?_eq_some_iff.1 hu).1
    rw [List.flatMap_cons, Nat.zero_mul, Nat.zero_add, List.getElem?_append_left hj]
    exact hu
  | y :: xs, i + 1, j, x, u, h, hu => by
    have h2 : xs[i]? = some x := by simpa using h
    have ih := flatMap_at L h2 hu
    have e : (i + 1) * sz + j = (f y).length + (i * sz + j) := by rw [L.len, Nat.add_mul]; omega
    rw [List.flatMap_cons, e, List.getElem?_append_right (by omega), Nat.add_sub_cancel_left]
    exact ih
theorem RowG.held : Held (RowG e sz f) := by
  refine ⟨fun w w' v xs F ⟨h, eF⟩ hk => ?_, fun w v xs F ⟨h, eF⟩ b hb => ?_⟩
  · subst eF
    exact ⟨ownsRow_keep h fun b hb => hk b (by simp [hb]), rfl⟩
  · subst eF
    simp at hb
    exact (h.lt b hb).2
theorem RowG.nil {w : World} {lo : Nat} : New (RowG e sz f) lo w (.slice none 0 0) [] := ⟨[], ⟨World.ownsRow_nil _ _ _ _, rfl⟩, by simp [Fresh]⟩
theorem RowG.slice {w : World} {v : Value} {xs : List α} {F : List Nat} (h : RowG e sz f w v xs F) : ∃ a c, v = .slice a xs.length c := by
  rcases h.1.2 with ⟨rfl, h0⟩ | ⟨g, cap, cur, rfl, _⟩
  · exact ⟨none, 0, by rw [h0]⟩
  · exact ⟨_, _, rfl⟩
theorem RowG.at (L : Lay sz f) {w : World} {v : Value} {xs : List α} {F : List Nat} (h : RowG e sz f w v xs F) (h0 : 0 < xs.length) :
    ∃ g c, v = .slice (some ⟨g, 0, none⟩) xs.length c ∧ F = [g] ∧ xs.length ≤ c ∧ c ≤ maxLen ∧ g < w.heap.size ∧ ∀ i x j u, xs[i]? = some x → (f x)[j]? = some u → w.cell? ⟨g, i * sz + j, none⟩ = some u ∧ w.frozen? ⟨g, i * sz + j, none⟩ = false := by
  obtain ⟨h, rfl⟩ := h
  have hh := h
  rcases h.2 with ⟨rfl, h1⟩ | ⟨g, cap, cur, rfl, _, hg, h1, h2, h3, h4⟩
  · omega
  · refine ⟨g, cap, rfl, rfl, h1, h2, (hh.lt g rfl).2, fun i x j u hx hu => ⟨?_, ?_⟩⟩
    · have := hh.cells (g := g) rfl _ _ (flatMap_at L hx hu)
      have e : (⟨g, 0, none⟩ : Addr).add (i * sz + j) = ⟨g, i * sz + j, none⟩ := by unfold Addr.add; split <;> simp_all
      rw [e] at this
      exact this
    · have hc := hh.cells (g := g) rfl _ _ (flatMap_at L hx hu)
      simp [World.frozen?, hg]
theorem New.rowAt (L : Lay sz f) {lo : Nat} {w : World} {v : Value} {xs : List α} (h : New (RowG e sz f) lo w v xs) (h0 : 0 < xs.length) :
    ∃ g c, v = .slice (some ⟨g, 0, none⟩) xs.length c ∧ xs.length ≤ c ∧ c ≤ maxLen ∧ lo ≤ g ∧ g < w.heap.size ∧ ∀ i x j u, xs[i]? = some x → (f x)[j]? = some u → w.cell? ⟨g, i * sz + j, none⟩ = some u ∧ w.frozen? ⟨g, i * sz + j, none⟩ = false := by
  obtain ⟨F, hF, hn, hge⟩ := h
  obtain ⟨g, c, e, rfl, h1, h2, h3, h4⟩ := hF.at L h0
  exact ⟨g, c, e, h1, h2, hge g (by simp), h3, h4⟩
theorem New.rowSlice {lo : Nat} {w : World} {v : Value} {xs : List α} (h : New (RowG e sz f) lo w v xs) : ∃ a c, v = .slice a xs.length c := by
  obtain ⟨F, hF, _⟩ := h; exact hF.slice
theorem New.rowLen (L : Lay sz f) {lo : Nat} {w : World} {v : Value} {xs : List α} (h : New (RowG e sz f) lo w v xs) : xs.length ≤ maxLen := by
  by_cases h0 : 0 < xs.length
  · obtain ⟨g, c, _, h1, h2, _⟩ := h.rowAt L h0; omega
  · omega
section
variable {P : Program} {w : World} {ops : Array Oper} {rest : List Oper} {o : Oper} {a : Act} {Q : Exit → Act → World → Prop}
/-- 'append(v, y)' where y has sz plain cells, laid in a block of its own. -/
theorem wpl_pushG (L : Lay sz f) (hgd : Region.wanted o (yielded ops a.tmps) = true) (s x : Operand) (t : TypeId)
    (ho : o.op = .call { callee := .builtin .append, args := #[s, x], argTypes := #[t, t] })
    (z : Value) (bytes : Nat) (ht : P.underlying t = some (.slice e)) (hinfo : (P.info? e).map (fun i => (i.zero, i.size, i.bytes)) = some (some z, sz, bytes)) (hz1 : z.cells.size = sz)
    {lo : Nat} {v : Value} {xs : List α} (h0 : New (RowG e sz f) lo w v xs) (hlo : lo ≤ w.heap.size)
    (y : α) {bb : Nat} {c : Nat} (hcell : ∀ j u, (f y)[j]? = some u → w.cell? ⟨bb, j, none⟩ = some u)
    (hs : a.eval s = v) (hx : a.eval x = .slice (some ⟨bb, 0, none⟩) 1 c)
    (hbytes : (xs.length + 1) * bytes ≤ 140737488355328) (h63 : xs.length + 1 ≤ 9223372036854775807)
    (h : ∀ v' w', New (RowG e sz f) lo w' v' (xs ++ [y]) → Below lo w w' → wpList P ops Q rest (a.put o.dst v') w') :
    wpList P ops Q (o :: rest) a w := by
  obtain ⟨i, hi, hzz⟩ := Option.map_eq_some_iff.1 hinfo
  simp only [Prod.mk.injEq] at hzz
  obtain ⟨hz, hsz, hby⟩ := hzz
  obtain ⟨F, ⟨how, rfl⟩, hnd, hge⟩ := h0
  have hvlt : ∀ k, v.ownBlock = some k → lo ≤ k ∧ k < w.heap.size := fun k hk => ⟨hge k (by simp [hk]), (how.lt k hk).2⟩
  obtain ⟨v', w', hrun, how', hg, _, hat⟩ := run_append_own_at (P := P) w 0 t o.type e i z sz bytes ht hi hz hsz hby hz1 L.pos v xs.length (xs.flatMap f) how ⟨bb, 0, none⟩ 1 c (f y) (by rw [L.len]; omega)
    (by
      intro j u' hj
      have e : (⟨bb, 0, none⟩ : Addr).add j = ⟨bb, j, none⟩ := by unfold Addr.add; split <;> simp_all
      rw [e]
      exact hcell j u' hj)
    (fun u hu => L.one y u hu) h63 hbytes (Nat.zero_le _)
  refine wpl_append_run hgd s x t ho hs hx hrun ?_
  refine h v' w' ⟨v'.ownBlock.toList, ⟨by simpa [List.flatMap_append] using how', rfl⟩, by cases v'.ownBlock <;> simp, ?_⟩ (Below.of_grown hg hlo (fun k hk => (hvlt k hk).1))
  intro b hb
  simp at hb
  rcases hat with hat | hat
  · rw [hat] at hb; exact (hvlt b hb).1
  · rw [hat] at hb; simp at hb; omega
end
end
def acell (x : Arc3) : List Value := [.int .i64 x.1, .int .i64 x.2.1, .int .i64 x.2.2]
theorem acell_lay : Lay 3 acell := ⟨by decide, fun _ => rfl, fun x u hu => by
  simp [acell] at hu
  rcases hu with rfl | rfl | rfl <;> rfl⟩
abbrev RowA (e : TypeId) : OwnRel (List Arc3) := RowG e 3 acell
theorem RowG.arcs {e : TypeId} {w : World} {v : Value} {xs : List Arc3} {F : List Nat} (h : RowA e w v xs F) : OArcs w v xs F := by
  by_cases h0 : 0 < xs.length
  · obtain ⟨g, c, rfl, rfl, h1, h2, h3, h4⟩ := RowG.at acell_lay h h0
    have h2' : c ≤ 9223372036854775807 := h2
    refine ⟨by omega, Or.inr ⟨g, c, rfl, h1, h2', rfl, h3, fun j hj => ?_⟩⟩
    obtain ⟨x, hx, _⟩ := at_lt (xs := xs) (k := j / 3) (by omega)
    have hg : xs.getD (j / 3) (0, 0, 0) = x := by simp [List.getD, hx]
    have e : j / 3 * 3 + j % 3 = j := by omega
    have key : arcF xs xs.length j = comp (j % 3) x := by unfold arcF; rw [if_pos (by omega), hg]
    rw [key]
    have h5 := h4 (j / 3) x (j % 3) (.int .i64 (comp (j % 3) x)) hx (by
      have h3 : j % 3 = 0 ∨ j % 3 = 1 ∨ j % 3 = 2 := by omega
      rcases h3 with h3 | h3 | h3 <;> rw [h3] <;> rfl)
    rw [e] at h5
    exact h5
  · have e0 : xs = [] := List.eq_nil_of_length_eq_zero (by omega)
    subst e0
    obtain ⟨h, rfl⟩ := h
    rcases h.2 with ⟨rfl, _⟩ | ⟨g, cap, cur, rfl, _, hg, h1, h2, _, _⟩
    · exact ⟨by simp, Or.inl ⟨rfl, rfl, rfl⟩⟩
    · have h2' : cap ≤ 9223372036854775807 := h2
      exact ⟨by simp, Or.inr ⟨g, cap, rfl, h1, h2', rfl, (h.lt g rfl).2, fun j hj => by simp at hj⟩⟩
end Go.Sd
end

section
/-
  Many things of the call's own, side by side, each with blocks of its own.
-/
namespace Go.Sd
open Go.RowKit Go.Deep

/-- A thing that lies in blocks: what it says, and that it looks at these blocks alone. -/
structure Res where
  p : World → List Nat → Prop
  keep : ∀ w w' F, p w F → (∀ b, b ∈ F → w'.heap[b]? = w.heap[b]?) → p w' F
  lt : ∀ w F, p w F → ∀ b, b ∈ F → b < w.heap.size

/-- An own value. -/
def Res.of {α : Type} (R : OwnRel α) (hR : Held R) (v : Value) (x : α) : Res := ⟨fun w F => R w v x F, fun _ _ _ h hk => hR.keep _ _ _ _ _ h hk, fun _ _ h b hb => hR.lt _ _ _ _ h b hb⟩

/-- A block that holds these cells. -/
def Cells (w : World) (b : Nat) (vs : List Value) : Prop := b < w.heap.size ∧ ∀ j u, vs[j]? = some u → w.cell? ⟨b, j, none⟩ = some u ∧ w.frozen? ⟨b, j, none⟩ = false
theorem Cells.same {w w' : World} {b : Nat} {vs : List Value} (h : Cells w b vs) (e : w'.heap[b]? = w.heap[b]?) : Cells w' b vs := by
  obtain ⟨h0, h1⟩ := h
  refine ⟨?_, fun j u hu => ?_⟩
  · have h3 : (w.heap[b]?).isSome = true := by simp [h0]
    rw [← e] at h3
    simpa using h3
  · obtain ⟨a1, a2⟩ := h1 j u hu
    refine ⟨?_, ?_⟩
    · rw [← a1]; simp [World.cell?, e]
    · rw [← a2]; simp [World.frozen?, e]
theorem Cells.store {w : World} {b : Nat} {vs : List Value} (h : Cells w b vs) {j : Nat} {u0 : Value} (hj : vs[j]? = some u0) (u : Value) : Cells (w.setCell ⟨b, j, none⟩ u) b (vs.set j u) := by
  obtain ⟨h0, h1⟩ := h
  have hl := (List.getElem?_eq_some_iff.1 hj).1
  refine ⟨by rw [World.size_setCell]; exact h0, fun i x hx => ?_⟩
  by_cases e : i = j
  · subst e
    rw [List.getElem?_set_self hl] at hx
    cases hx
    exact ⟨World.cell?_setCell_same _ _ _ (h1 i u0 hj).1, (World.frozen?_setCell _ _ _ _).trans (h1 i u0 hj).2⟩
  · rw [List.getElem?_set_ne (Ne.symm e)] at hx
    exact ⟨(World.cell?_setCell_other _ _ _ _ (by simp <;> omega)).trans (h1 i x hx).1, (World.frozen?_setCell _ _ _ _).trans (h1 i x hx).2⟩
def Res.box (b : Nat) (vs : List Value) : Res := ⟨fun w F => F = [b] ∧ Cells w b vs, fun _ _ _ h hk => ⟨h.1, h.2.same (hk b (by rw [h.1]; simp))⟩, fun _ _ h c hc => by rw [h.1] at hc; simp at hc; rw [hc]; exact h.2.1⟩

def SepF (w : World) : List Res → List Nat → Prop
  | [], F => F = []
  | r :: rs, F => ∃ G H, F = G ++ H ∧ r.p w G ∧ SepF w rs H
def Sep (lo : Nat) (w : World) (rs : List Res) : Prop := ∃ F, SepF w rs F ∧ Fresh lo F

theorem SepF.keep {w w' : World} : ∀ {rs : List Res} {F : List Nat}, SepF w rs F → (∀ b, b ∈ F → w'.heap[b]? = w.heap[b]?) → SepF w' rs F
  | [], _, h, _ => h
  | r :: rs, _, ⟨G, H, e, h1, h2⟩, hk => by
    subst e
    exact ⟨G, H, rfl, r.keep _ _ _ h1 fun b hb => hk b (List.mem_append_left _ hb), SepF.keep h2 fun b hb => hk b (List.mem_append_right _ hb)⟩
theorem SepF.lt {w : World} : ∀ {rs : List Res} {F : List Nat}, SepF w rs F → ∀ b, b ∈ F → b < w.heap.size
  | [], _, h, b, hb => by rw [show _ = [] from h] at hb; cases hb
  | r :: rs, _, ⟨G, H, e, h1, h2⟩, b, hb => by
    subst e
    rcases List.mem_append.1 hb with hb | hb
    · exact r.lt _ _ h1 b hb
    · exact SepF.lt h2 b hb
theorem Sep.nil (lo : Nat) (w : World) : Sep lo w [] := ⟨[], rfl, by simp [Fresh]⟩
theorem Sep.mono {lo lo' : Nat} {w : World} {rs : List Res} (h : Sep lo w rs) (hl : lo' ≤ lo) : Sep lo' w rs := by
  obtain ⟨F, h1, h2, h3⟩ := h
  exact ⟨F, h1, h2, fun b hb => Nat.le_trans hl (h3 b hb)⟩
/-- What is made since lies elsewhere. -/
theorem Sep.below {lo B : Nat} {w w' : World} {rs : List Res} (h : Sep lo w rs) (hb : Below B w w') (hB : w.heap.size ≤ B) : Sep lo w' rs := by
  obtain ⟨F, h1, h2⟩ := h
  exact ⟨F, h1.keep fun b hm => hb.block b (Nat.lt_of_lt_of_le (h1.lt b hm) hB), h2⟩
theorem Sep.cons {lo : Nat} {w w' : World} {rs : List Res} {r : Res} (h : Sep lo w rs) (hb : Below w.heap.size w w') (hlo : lo ≤ w.heap.size) {G : List Nat} (hr : r.p w' G) (hG : Fresh w.heap.size G) : Sep lo w' (r :: rs) := by
  obtain ⟨F, h1, h2, h3⟩ := h
  refine ⟨G ++ F, ⟨G, F, rfl, hr, h1.keep fun b hm => hb.block b (h1.lt b hm)⟩, List.nodup_append.2 ⟨hG.1, h2, fun p hp q hq e => ?_⟩, fun b hm => ?_⟩
  · subst e
    have := hG.2 p hp
    have := h1.lt p hq
    omega
  · rcases List.mem_append.1 hm with hm | hm
    · exact Nat.le_trans hlo (hG.2 b hm)
    · exact h3 b hm
/-- A new own value. -/
theorem Sep.new {α : Type} {R : OwnRel α} (hR : Held R) {lo : Nat} {w w' : World} {rs : List Res} (h : Sep lo w rs) (hb : Below w.heap.size w w') (hlo : lo ≤ w.heap.size) {v : Value} {x : α} (hn : New R w.heap.size w' v x) : Sep lo w' (Res.of R hR v x :: rs) := by
  obtain ⟨G, hG, hf⟩ := hn
  exact h.cons hb hlo (r := Res.of R hR v x) hG hf
theorem Sep.swap {lo : Nat} {w : World} {r s : Res} {rs : List Res} (h : Sep lo w (r :: s :: rs)) : Sep lo w (s :: r :: rs) := by
  obtain ⟨F, ⟨G, H, e1, h1, G2, H2, e2, h2, h3⟩, hn, hl⟩ := h
  subst e1 e2
  refine ⟨G2 ++ (G ++ H2), ⟨G2, _, rfl, h2, G, H2, rfl, h1, h3⟩, ?_, fun b hb => hl b ?_⟩
  · have hp : (G2 ++ (G ++ H2)).Perm (G ++ (G2 ++ H2)) := by
      rw [← List.append_assoc, ← List.append_assoc]
      exact List.Perm.append_right _ List.perm_append_comm
    exact hp.nodup_iff.2 hn
  · simp only [List.mem_append] at hb ⊢
    rcases hb with h | h | h
    · exact Or.inr (Or.inl h)
    · exact Or.inl h
    · exact Or.inr (Or.inr h)
theorem Sep.tail {lo : Nat} {w : World} {r : Res} {rs : List Res} (h : Sep lo w (r :: rs)) : Sep lo w rs := by
  obtain ⟨F, ⟨G, H, e1, h1, h2⟩, hn, hl⟩ := h
  subst e1
  exact ⟨H, h2, (List.nodup_append.1 hn).2.1, fun b hb => hl b (List.mem_append_right _ hb)⟩
/-- The third to the front. -/
theorem Sep.third {lo : Nat} {w : World} {r s t : Res} {rs : List Res} (h : Sep lo w (r :: s :: t :: rs)) : Sep lo w (t :: r :: s :: rs) := by
  obtain ⟨F, ⟨G, H, e1, h1, G2, H2, e2, h2, G3, H3, e3, h3, h4⟩, hn, hl⟩ := h
  subst e1 e2 e3
  have hp : (G3 ++ (G ++ (G2 ++ H3))).Perm (G ++ (G2 ++ (G3 ++ H3))) := by
    have h1 : (G3 ++ ((G ++ G2) ++ H3)).Perm ((G ++ G2) ++ (G3 ++ H3)) := by
      have h2 := List.Perm.append_right H3 (List.perm_append_comm (l₁ := G3) (l₂ := G ++ G2))
      simpa [List.append_assoc] using h2
    simpa [List.append_assoc] using h1
  exact ⟨_, ⟨G3, _, rfl, h3, G, _, rfl, h1, G2, H3, rfl, h2, h4⟩, hp.nodup_iff.2 hn, fun b hb => hl b (hp.mem_iff.1 hb)⟩
/-- The first turns, in its own blocks and new ones; the others stay. -/
theorem Sep.head {lo : Nat} {w : World} {r : Res} {rs : List Res} (h : Sep lo w (r :: rs)) :
    ∃ G, r.p w G ∧ Fresh lo G ∧ ∀ (w' : World) (r' : Res) (G' : List Nat), r'.p w' G' → G'.Nodup → (∀ b, b ∈ G' → b ∈ G ∨ w.heap.size ≤ b) → lo ≤ w.heap.size → (∀ b, b < w.heap.size → b ∉ G → w'.heap[b]? = w.heap[b]?) → Sep lo w' (r' :: rs) := by
  obtain ⟨F, ⟨G, H, e, h1, h2⟩, hn, hl⟩ := h
  subst e
  have hnd := List.nodup_append.1 hn
  refine ⟨G, h1, ⟨hnd.1, fun b hb => hl b (List.mem_append_left _ hb)⟩, fun w' r' G' hr' hn' hs hlo hk => ?_⟩
  have hlt := h2.lt
  refine ⟨G' ++ H, ⟨G', H, rfl, hr', h2.keep fun b hb => hk b (hlt b hb) fun hm => hnd.2.2 b hm b hb rfl⟩, List.nodup_append.2 ⟨hn', hnd.2.1, fun p hp q hq e => ?_⟩, fun b hb => ?_⟩
  · subst e
    rcases hs p hp with h | h
    · exact hnd.2.2 p h p hq rfl
    · have := hlt p hq; omega
  · rcases List.mem_append.1 hb with hb | hb
    · rcases hs b hb with h | h
      · exact hl b (List.mem_append_left _ h)
      · omega
    · exact hl b (List.mem_append_right _ hb)
theorem Sep.headNew {α : Type} {R : OwnRel α} {hR : Held R} {v : Value} {x : α} {lo : Nat} {w : World} {rs : List Res} (h : Sep lo w (Res.of R hR v x :: rs)) : New R lo w v x := by
  obtain ⟨G, h1, h2, _⟩ := h.head
  exact ⟨G, h1, h2⟩
theorem Sep.headBox {b : Nat} {vs : List Value} {lo : Nat} {w : World} {rs : List Res} (h : Sep lo w (Res.box b vs :: rs)) : lo ≤ b ∧ Cells w b vs := by
  obtain ⟨G, ⟨rfl, h1⟩, h2, _⟩ := h.head
  exact ⟨h2.2 b (by simp), h1⟩
theorem Sep.apart {α β : Type} {R : OwnRel α} {S : OwnRel β} {hR : Held R} {hS : Held S} {v u : Value} {x : α} {y : β} {lo : Nat} {w : World} {rs : List Res} (h : Sep lo w (Res.of R hR v x :: Res.of S hS u y :: rs)) : Apart R S lo w v x u y := by
  obtain ⟨F, ⟨G, H, e1, hG, G2, H2, e2, hG2, h3⟩, hn, hl⟩ := h
  subst e1 e2
  have hnd := List.nodup_append.1 hn
  have hnd2 := List.nodup_append.1 hnd.2.1
  exact ⟨G, G2, hG, hG2, ⟨hnd.1, fun b hb => hl b (List.mem_append_left _ hb)⟩, ⟨hnd2.1, fun b hb => hl b (List.mem_append_right _ (List.mem_append_left _ hb))⟩, fun b hb hb2 => hnd.2.2 b hb b (List.mem_append_left _ hb2) rfl⟩
/-- A store into a box. -/
theorem Sep.boxStore {b : Nat} {vs : List Value} {lo : Nat} {w : World} {rs : List Res} (h : Sep lo w (Res.box b vs :: rs)) (hlo : lo ≤ w.heap.size) {j : Nat} {u0 : Value} (hj : vs[j]? = some u0) (u : Value) : Sep lo (w.setCell ⟨b, j, none⟩ u) (Res.box b (vs.set j u) :: rs) := by
  obtain ⟨G, ⟨rfl, h1⟩, h2, hK⟩ := h.head
  exact hK _ (Res.box b (vs.set j u)) [b] ⟨rfl, h1.store hj u⟩ (by simp) (fun _ h => Or.inl h) hlo fun c _ hc => Below.heap_setCell _ _ _ _ (fun e => hc (by simp; exact e))
/-- A new box. -/
theorem Sep.boxNew {lo : Nat} {w : World} {rs : List Res} (h : Sep lo w rs) (hlo : lo ≤ w.heap.size) (vs : List Value) (ty : TypeId) : Sep lo (w.alloc (.cells vs.toArray ty)) (Res.box w.heap.size vs :: rs) := by
  refine h.cons ((Below.refl _ _).alloc (Nat.le_refl _) _) hlo (r := Res.box w.heap.size vs) (G := [w.heap.size]) ⟨rfl, by simp, fun j u hu => ?_⟩ (by simp [Fresh])
  have h2 : vs.toArray[j]? = some u := by simpa using hu
  constructor
  · exact (World.cell?_alloc_at _ _ _ j rfl).trans h2
  · exact World.frozen?_alloc_new w _ _ j
section
variable {P : Program} {α : Type} {R : OwnRel α} {lo : Nat} {w : World} {v : Value} {e : TypeId} {rs : List Res}
/-- append of an element made since. -/
theorem Sep.push (hR : Kept R) (t ty : TypeId) (z : Value) (bytes : Nat) (ht : P.underlying t = some (.slice e)) (hinfo : (P.info? e).map (fun i => (i.zero, i.size, i.bytes)) = some (some z, 1, bytes)) (hz1 : z.cells = #[z])
    {xs : List α} {hh : Held (OwnOf e R)} (h : Sep lo w (Res.of (OwnOf e R) hh v xs :: rs)) (hlo : lo ≤ w.heap.size) {w1 : World} (hb : Below w.heap.size w w1) {q : Value} {x : α} (hq : New R w.heap.size w1 q x) {bb c : Nat} (hcell : w1.cell? ⟨bb, 0, none⟩ = some q) (hbytes : (xs.length + 1) * bytes ≤ 140737488355328) (h63 : xs.length + 1 ≤ 9223372036854775807) :
    ∃ v' w', (Builtin.append_ #[t, t] ty #[v, .slice (some ⟨bb, 0, none⟩) 1 c]).run P w1 = .ok v' w' ∧ Sep lo w' (Res.of (OwnOf e R) hh v' (xs ++ [x]) :: rs) ∧ Below lo w w' := by
  obtain ⟨G, hG, hf, hK⟩ := h.head
  obtain ⟨H, hH, hHn, hHg⟩ := hq
  have hG' : OwnOf e R w v xs G := hG
  have hltG := (OwnOf.kept (e := e) hR).lt _ _ _ _ hG'
  have hz := hb.size
  obtain ⟨v', w', F', hr, hF', hn', hs, hg, hv⟩ := push_run hR t ty e z bytes ht hinfo hz1 ((OwnOf.kept (e := e) hR).keep _ w1 _ _ _ hG' fun b hm => hb.block b (hltG b hm)) hf.1 hH hHn (fun b hm hm2 => by have := hltG b hm; have := hHg b hm2; omega) (c := c) hcell hbytes h63
  refine ⟨v', w', hr, hK w' (Res.of (OwnOf e R) hh v' (xs ++ [x])) F' hF' hn' (fun b hb2 => ?_) hlo fun b hlt hn => ?_, (hb.mono hlo).grown hg (by omega) fun k hk => hf.2 k (hv k hk)⟩
  · rcases hs b hb2 with h1 | h1 | h1
    · exact Or.inl h1
    · exact Or.inr (hHg b h1)
    · exact Or.inr (by omega)
  · exact (hg.block b (by omega) fun e => hn (hv b e.symm)).trans (hb.block b hlt)
end
/-- The second and the third change places. -/
theorem Sep.swap23 {lo : Nat} {w : World} {r s t : Res} {rs : List Res} (h : Sep lo w (r :: s :: t :: rs)) : Sep lo w (r :: t :: s :: rs) := h.third.swap
section
variable {P : Program} {α : Type} {R : OwnRel α} {lo : Nat} {w : World} {v u : Value} {e : TypeId} {rs : List Res}
/-- append of the second thing to the first. -/
theorem Sep.absorb (hR : Kept R) (t ty : TypeId) (z : Value) (bytes : Nat) (ht : P.underlying t = some (.slice e)) (hinfo : (P.info? e).map (fun i => (i.zero, i.size, i.bytes)) = some (some z, 1, bytes)) (hz1 : z.cells = #[z])
    {xs : List α} {y : α} {hh : Held (OwnOf e R)} {hr : Held R} (h : Sep lo w (Res.of (OwnOf e R) hh v xs :: Res.of R hr u y :: rs)) (hlo : lo ≤ w.heap.size) {w1 : World} (hb : Below w.heap.size w w1) {bb c : Nat} (hcell : w1.cell? ⟨bb, 0, none⟩ = some u) (hbytes : (xs.length + 1) * bytes ≤ 140737488355328) (h63 : xs.length + 1 ≤ 9223372036854775807) :
    ∃ v' w', (Builtin.append_ #[t, t] ty #[v, .slice (some ⟨bb, 0, none⟩) 1 c]).run P w1 = .ok v' w' ∧ Sep lo w' (Res.of (OwnOf e R) hh v' (xs ++ [y]) :: rs) ∧ Below lo w w' := by
  obtain ⟨F, ⟨G, H, e1, hG, G2, H2, e2, hG2, h3⟩, hn, hl⟩ := h
  subst e1 e2
  have hG' : OwnOf e R w v xs G := hG
  have hG2' : R w u y G2 := hG2
  have hnd := List.nodup_append.1 hn
  have hnd2 := List.nodup_append.1 hnd.2.1
  have hltG := (OwnOf.kept (e := e) hR).lt _ _ _ _ hG'
  have hltG2 := hR.lt _ _ _ _ hG2'
  have hlt3 := h3.lt
  have hz := hb.size
  obtain ⟨v', w', F', hr', hF', hn', hs, hg, hv⟩ := push_run hR t ty e z bytes ht hinfo hz1 ((OwnOf.kept (e := e) hR).keep _ w1 _ _ _ hG' fun b hm => hb.block b (hltG b hm)) hnd.1 (hR.keep _ w1 _ _ _ hG2' fun b hm => hb.block b (hltG2 b hm)) hnd2.1 (fun b hm hm2 => hnd.2.2 b hm b (List.mem_append_left _ hm2) rfl) (c := c) hcell hbytes h63
  refine ⟨v', w', hr', ⟨F' ++ H2, ⟨F', H2, rfl, hF', h3.keep fun b hm => ?_⟩, List.nodup_append.2 ⟨hn', hnd2.2.1, fun p hp q hq e3 => ?_⟩, fun b hm => ?_⟩, (hb.mono hlo).grown hg (by omega) fun k hk => hl k (List.mem_append_left _ (hv k hk))⟩
  · exact (hg.block b (by have := hlt3 b hm; omega) fun e3 => hnd.2.2 b (hv b e3.symm) b (List.mem_append_right _ hm) rfl).trans (hb.block b (hlt3 b hm))
  · subst e3
    rcases hs p hp with h | h | h
    · exact hnd.2.2 p h p (List.mem_append_right _ hq) rfl
    · exact hnd2.2.2 p h p hq rfl
    · have := hlt3 p hq; omega
  · rcases List.mem_append.1 hm with hm | hm
    · rcases hs b hm with h | h | h
      · exact hl b (List.mem_append_left _ h)
      · exact hl b (List.mem_append_right _ (List.mem_append_left _ h))
      · omega
    · exact hl b (List.mem_append_right _ (List.mem_append_right _ hm))
end
section
variable {P : Program} {α : Type} {lo sz : Nat} {f : α → List Value} {w : World} {v : Value} {e : TypeId} {rs : List Res}
/-- append of an element of sz plain cells that has been laid since. -/
theorem Sep.pushG (L : Lay sz f) (t ty : TypeId) (z : Value) (bytes : Nat) (ht : P.underlying t = some (.slice e)) (hinfo : (P.info? e).map (fun i => (i.zero, i.size, i.bytes)) = some (some z, sz, bytes)) (hz1 : z.cells.size = sz)
    {xs : List α} {hh : Held (RowG e sz f)} (h : Sep lo w (Res.of (RowG e sz f) hh v xs :: rs)) (hlo : lo ≤ w.heap.size) {w1 : World} (hb : Below w.heap.size w w1) (y : α) {bb : Nat} (c : Nat) (hcell : ∀ j u, (f y)[j]? = some u → w1.cell? ⟨bb, j, none⟩ = some u) (hbytes : (xs.length + 1) * bytes ≤ 140737488355328) (h63 : xs.length + 1 ≤ 9223372036854775807) :
    ∃ v' w', (Builtin.append_ #[t, t] ty #[v, .slice (some ⟨bb, 0, none⟩) 1 c]).run P w1 = .ok v' w' ∧ Sep lo w' (Res.of (RowG e sz f) hh v' (xs ++ [y]) :: rs) ∧ Below lo w w' := by
  obtain ⟨i, hi, hzz⟩ := Option.map_eq_some_iff.1 hinfo
  simp only [Prod.mk.injEq] at hzz
  obtain ⟨hz, hsz, hby⟩ := hzz
  obtain ⟨G, hG, hf, hK⟩ := h.head
  have hG1 : RowG e sz f w v xs G := hG
  obtain ⟨how, eG⟩ := hG1
  have hltG : ∀ b, v.ownBlock = some b → b < w.heap.size := fun b hb2 => (how.lt b hb2).2
  have how1 : w1.ownsRow 0 e sz v xs.length (xs.flatMap f) := ownsRow_keep how fun b hb2 => hb.block b (hltG b hb2)
  have hzw := hb.size
  obtain ⟨v', w', hrun, how', hg, _, hat⟩ := run_append_own_at (P := P) w1 0 t ty e i z sz bytes ht hi hz hsz hby hz1 L.pos v xs.length (xs.flatMap f) how1 ⟨bb, 0, none⟩ 1 c (f y) (by rw [L.len]; omega)
    (by
      intro j u' hj
      have := hcell j u' hj
      have e2 : (⟨bb, 0, none⟩ : Addr).add j = ⟨bb, j, none⟩ := by unfold Addr.add; split <;> simp_all
      rw [e2]
      exact this)
    (fun u' hu' => L.one y u' hu') h63 hbytes (Nat.zero_le _)
  refine ⟨v', w', hrun, hK w' (Res.of (RowG e sz f) hh v' (xs ++ [y])) v'.ownBlock.toList ⟨by simpa using how', rfl⟩ (by cases v'.ownBlock <;> simp) (fun b hb2 => ?_) hlo fun b hlt hn => ?_, (hb.mono hlo).grown hg (by omega) fun k hk => hf.2 k (by rw [eG]; simp [hk])⟩
  · simp at hb2
    rcases hat with hat | hat
    · rw [hat] at hb2; exact Or.inl (by rw [eG]; simp [hb2])
    · rw [hat] at hb2; simp at hb2; exact Or.inr (by omega)
  · refine (hg.block b (by omega) fun e2 => hn ?_).trans (hb.block b hlt)
    rw [eG]; simp [← e2]
end
end Go.Sd
end
