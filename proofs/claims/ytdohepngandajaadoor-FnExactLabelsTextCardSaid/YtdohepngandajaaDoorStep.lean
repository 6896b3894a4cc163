/-
  The laws of append as steps of a region that draws its order.
-/
import Derived.Test.YtdohepngandajaaDoorBase
import Derived.Deep.RegionHeld3
import Derived.Deep.DeepCutAuto
namespace Go.Sd
open Go.RowKit Go.Deep

section
variable {P : Program} {w : World} {ops : Array Oper} {o : Oper} {a : Act} {Q : Exit → Act → World → Prop} {K : Act → World → Prop} {E : Prop}

theorem step_append_run (hw : Region.wanted o (yielded ops a.tmps) = true) (s x : Operand) (t : TypeId)
    (ho : o.op = .call { callee := .builtin .append, args := #[s, x], argTypes := #[t, t] }) {v v2 v' : Value} {w' : World} (hs : a.eval s = v) (hx : a.eval x = v2)
    (hr : (Builtin.append_ #[t, t] o.type #[v, v2]).run P w = .ok v' w') (h : K (a.put o.dst v') w') : if Region.wanted o (yielded ops a.tmps) = true then Oper.wp P o a w K Q else E := by
  rw [if_pos hw]
  unfold Oper.wp execOp
  simp only [ho, resolve, invoke, builtin, Sem.run_bind, Sem.run_pure, Result.andThen_ok, List.map_toArray, List.map_cons, List.map_nil, hs, hx, hr]
  exact h

/-- 'append(v, u)' where v is a slice of the call's own, as it stood in an earlier world w0, and u is an element made since. -/
theorem step_push {α : Type} {R : OwnRel α} (hR : Kept R) (hgd : Region.wanted o (yielded ops a.tmps) = true) (s x : Operand) (t : TypeId)
    (ho : o.op = .call { callee := .builtin .append, args := #[s, x], argTypes := #[t, t] })
    (e : TypeId) (z : Value) (bytes : Nat) (ht : P.underlying t = some (.slice e)) (hinfo : (P.info? e).map (fun i => (i.zero, i.size, i.bytes)) = some (some z, 1, bytes)) (hz1 : z.cells = #[z])
    {w0 : World} {lo : Nat} {v : Value} {xs : List α} (h0 : New (OwnOf e R) lo w0 v xs) (hlo : lo ≤ w0.heap.size) (hb : Below w0.heap.size w0 w)
    {u : Value} {y : α} (hu : New R w0.heap.size w u y) {bb : Nat} {c : Nat} (hcell : w.cell? ⟨bb, 0, none⟩ = some u)
    (hs : a.eval s = v) (hx : a.eval x = .slice (some ⟨bb, 0, none⟩) 1 c)
    (hbytes : (xs.length + 1) * bytes ≤ 140737488355328) (h63 : xs.length + 1 ≤ 9223372036854775807)
    (h : ∀ v' w', New (OwnOf e R) lo w' v' (xs ++ [y]) → w.grownBy w' v.ownBlock → (∀ k, v.ownBlock = some k → lo ≤ k ∧ k < w0.heap.size) → Below lo w0 w' → K (a.put o.dst v') w') :
    if Region.wanted o (yielded ops a.tmps) = true then Oper.wp P o a w K Q else E := by
  obtain ⟨i, hi, hzz⟩ := Option.map_eq_some_iff.1 hinfo
  simp only [Prod.mk.injEq] at hzz
  obtain ⟨hz, hsz, hby⟩ := hzz
  obtain ⟨F, ⟨us, Fs, how, hl, hr, rfl⟩, hnd, hge⟩ := h0
  obtain ⟨G, hG, hGn, hGe⟩ := hu
  have hul : us.length = xs.length := by simpa using how.1
  have hvlt : ∀ k, v.ownBlock = some k → lo ≤ k ∧ k < w0.heap.size := fun k hk => ⟨hge k (by simp [hk]), (how.lt k hk).2⟩
  have how1 : w.ownsRow 0 e 1 v xs.length us := ownsRow_keep how fun b hb' => hb.block b (hvlt b hb').2
  obtain ⟨v', w', hrun, how', hg, _, hat⟩ := run_append_own_at (P := P) w 0 t o.type e i z 1 bytes ht hi hz hsz hby (by rw [hz1]; rfl) (by decide) v xs.length us how1 ⟨bb, 0, none⟩ 1 c [u] (by simp)
    (by
      intro j u' hj
      match j, hj with
      | 0, hj =>
        simp at hj
        subst hj
        simpa [Addr.add] using hcell)
    (by
      intro u' hu'
      simp at hu'
      subst hu'
      exact hR.one _ _ _ _ hG) h63 hbytes (Nat.zero_le _)
  refine step_append_run hgd s x t ho hs hx hrun ?_
  have hlt0 : ∀ b, b ∈ Fs.flatten → b < w0.heap.size := fun b hb' => by
    obtain ⟨H, hH, hb2⟩ := List.mem_flatten.1 hb'
    obtain ⟨j, hj⟩ := List.getElem?_of_mem hH
    have hj1 : j < Fs.length := (List.getElem?_eq_some_iff.1 hj).1
    exact hR.lt _ _ _ _ (hr j us[j] xs[j] H (List.getElem?_eq_getElem (by omega)) (List.getElem?_eq_getElem (by omega)) hj) b hb2
  have hsize := hb.size
  have hGlt : ∀ b, b ∈ G → b < w.heap.size := hR.lt _ _ _ _ hG
  have hnd' := List.nodup_append.1 hnd
  have hnv : ∀ k, v.ownBlock = some k → k ∉ Fs.flatten := fun k hk hm => hnd'.2.2 k (by simp [hk]) k hm rfl
  refine h v' w' ⟨v'.ownBlock.toList ++ (Fs ++ [G]).flatten, ⟨us ++ [u], Fs ++ [G], by simpa using how', by simp [hl], ?_, rfl⟩, ?_, ?_⟩ hg hvlt ?_
  · intro j u' x' G' hu' hx' hG'
    by_cases hj : j < xs.length
    · rw [List.getElem?_append_left (by omega)] at hu' hx' hG'
      refine hR.keep _ _ _ _ _ (hr j u' x' G' hu' hx' hG') fun b hb' => ?_
      have hm : b ∈ Fs.flatten := List.mem_flatten_of_mem (List.mem_of_getElem? hG') hb'
      have h1 := hlt0 b hm
      rw [hg.block b (by omega) (fun e => hnv b e.symm hm), hb.block b h1]
    · have hj2 : j = xs.length := by
        have := (List.getElem?_eq_some_iff.1 hx').1
        simp at this; omega
      subst hj2
      rw [List.getElem?_append_right (by omega)] at hu' hx' hG'
      simp [hul, hl] at hu' hx' hG'
      subst hu' hx' hG'
      refine hR.keep _ _ _ _ _ hG fun b hb' => hg.block b (hGlt b hb') fun e => ?_
      have := hvlt b e.symm
      have := hGe b hb'
      omega
  · simp only [List.flatten_append, List.flatten_cons, List.flatten_nil, List.append_nil]
    refine List.nodup_append.2 ⟨by cases v'.ownBlock <;> simp, List.nodup_append.2 ⟨hnd'.2.1, hGn, ?_⟩, ?_⟩
    · intro p hp q hq e
      subst e
      have := hlt0 p hp
      have := hGe p hq
      omega
    · intro p hp q hq e
      subst e
      simp at hp
      rcases hat with hat | hat
      · rw [hat] at hp
        rcases List.mem_append.1 hq with hq | hq
        · exact hnv p hp hq
        · have := hvlt p hp
          have := hGe p hq
          omega
      · rw [hat] at hp
        simp at hp
        rcases List.mem_append.1 hq with hq | hq
        · have := hlt0 p hq; omega
        · have := hGlt p hq; omega
  · intro b hb'
    rcases List.mem_append.1 hb' with hb' | hb'
    · simp at hb'
      rcases hat with hat | hat
      · rw [hat] at hb'; exact (hvlt b hb').1
      · rw [hat] at hb'; simp at hb'; omega
    · simp at hb'
      rcases hb' with ⟨H, hH, hb'⟩ | hb'
      · exact hge b (by simp; exact Or.inr ⟨H, hH, hb'⟩)
      · have := hGe b hb'; omega
  · exact (hb.mono hlo).grown hg (by omega) (fun k hk => (hvlt k hk).1)

theorem step_append_none (hgd : Region.wanted o (yielded ops a.tmps) = true) (s x : Operand) (t : TypeId)
    (ho : o.op = .call { callee := .builtin .append, args := #[s, x], argTypes := #[t, t] })
    (base : Nat) (e : TypeId) (i : TypeInfo) (size : Nat) (ht : P.underlying t = some (.slice e)) (hi : P.info? e = some i)
    (v : Value) (n : Nat) (xs : List Value) (hs : a.eval s = v) (hown : w.ownsRow base e size v n xs) (hx : a.eval x = .slice none 0 0)
    (h : K (a.put o.dst v) w) : if Region.wanted o (yielded ops a.tmps) = true then Oper.wp P o a w K Q else E :=
  step_append_run hgd s x t ho hs hx (run_append_owned_none (P := P) w base t o.type e i size ht hi v n xs hown) h

theorem step_append_vals {α : Type} {f : α → Value} (hf : ∀ x, (f x).oneCell' = true) (hgd : Region.wanted o (yielded ops a.tmps) = true) (s x : Operand) (t : TypeId)
    (ho : o.op = .call { callee := .builtin .append, args := #[s, x], argTypes := #[t, t] })
    (e : TypeId) (z : Value) (bytes : Nat) (ht : P.underlying t = some (.slice e)) (hinfo : (P.info? e).map (fun i => (i.zero, i.size, i.bytes)) = some (some z, 1, bytes)) (hz1 : z.cells = #[z])
    {lo : Nat} {v : Value} {ys : List α} (h0 : New (OwnOf e (OValR f)) lo w v ys) (hlo : lo ≤ w.heap.size)
    {v2 : Value} {xs : List α} (h2 : SlOf (ValR f) w v2 xs)
    (hs : a.eval s = v) (hx : a.eval x = v2)
    (hbytes : (ys.length + xs.length) * bytes ≤ 140737488355328) (h63 : ys.length + xs.length ≤ 9223372036854775807)
    (h : ∀ v' w', New (OwnOf e (OValR f)) lo w' v' (ys ++ xs) → w.grownBy w' v.ownBlock → (∀ k, v.ownBlock = some k → lo ≤ k ∧ k < w.heap.size) → Below lo w w' → K (a.put o.dst v') w') :
    if Region.wanted o (yielded ops a.tmps) = true then Oper.wp P o a w K Q else E := by
  obtain ⟨i, hi, hzz⟩ := Option.map_eq_some_iff.1 hinfo
  simp only [Prod.mk.injEq] at hzz
  obtain ⟨hz, hsz, hby⟩ := hzz
  have h0' := h0
  obtain ⟨F, ⟨us, Fs, how, hl, hr, rfl⟩, hnd, hge⟩ := h0
  have hul : us.length = ys.length := by simpa using how.1
  have hvlt : ∀ k, v.ownBlock = some k → lo ≤ k ∧ k < w.heap.size := fun k hk => ⟨hge k (by simp [hk]), (how.lt k hk).2⟩
  obtain ⟨vs, hsl, hvl, hvr⟩ := h2
  have hvs : vs = xs.map f := by
    apply List.ext_getElem?
    intro j
    by_cases hj : j < xs.length
    · rw [List.getElem?_map, List.getElem?_eq_getElem hj, List.getElem?_eq_getElem (by omega)]
      exact congrArg some (hvr j _ _ (List.getElem?_eq_getElem (by omega)) (List.getElem?_eq_getElem hj))
    · rw [List.getElem?_eq_none (by omega), List.getElem?_eq_none (by simp; omega)]
  subst hvs
  obtain ⟨_, ad, c, hv2, _, _, hn, hcells⟩ := hsl
  simp only [List.length_map] at hv2
  have key : ∀ (ad : Addr), (∀ (j : Nat) (u : Value), (xs.map f)[j]? = some u → w.cell? (ad.add j) = some u) → v2 = .slice (some ad) xs.length c → (if Region.wanted o (yielded ops a.tmps) = true then Oper.wp P o a w K Q else E) := by
    intro ad had hv2'
    obtain ⟨v', w', hrun, how', hg, _, hat⟩ := run_append_own_at (P := P) w 0 t o.type e i z 1 bytes ht hi hz hsz hby (by rw [hz1]; rfl) (by decide) v ys.length us how ad xs.length c (xs.map f) (by simp) had
      (by
        intro u hu
        obtain ⟨y, _, rfl⟩ := List.mem_map.1 hu
        exact hf y) h63 hbytes (Nat.zero_le _)
    refine step_append_run hgd s x t ho hs (by rw [hx, hv2']) hrun ?_
    have hFs : ∀ G, G ∈ Fs → G = [] := fun G hG => by
      obtain ⟨j, hj⟩ := List.getElem?_of_mem hG
      have hj1 : j < Fs.length := (List.getElem?_eq_some_iff.1 hj).1
      exact (hr j us[j] ys[j] G (List.getElem?_eq_getElem (by omega)) (List.getElem?_eq_getElem (by omega)) hj).2
    have hfl : (Fs ++ List.replicate xs.length []).flatten = [] := by
      rw [List.flatten_eq_nil_iff]
      intro G hG
      rcases List.mem_append.1 hG with hG | hG
      · exact hFs G hG
      · exact (List.mem_replicate.1 hG).2
    refine h v' w' ⟨_, ⟨us ++ xs.map f, Fs ++ List.replicate xs.length [], by simpa using how', by simp [hl], ?_, rfl⟩, ?_, ?_⟩ hg hvlt (Below.of_grown hg hlo fun k hk => (hvlt k hk).1)
    · intro j u' x' G' hu' hx' hG'
      by_cases hj : j < ys.length
      · rw [List.getElem?_append_left (by omega)] at hu' hx' hG'
        exact hr j u' x' G' hu' hx' hG'
      · rw [List.getElem?_append_right (by omega)] at hu' hx' hG'
        rw [hul, List.getElem?_map, hx'] at hu'
        simp at hu'
        exact ⟨hu'.symm, (List.mem_replicate.1 (List.mem_of_getElem? hG')).2⟩
    · rw [hfl]
      cases v'.ownBlock <;> simp
    · intro b hb
      rw [hfl] at hb
      simp at hb
      rcases hat with hat | hat
      · rw [hat] at hb; exact (hvlt b hb).1
      · rw [hat] at hb; simp at hb; omega
  cases ad with
  | none =>
    have hx0 : xs = [] := by
      rcases hcells with h | ⟨b, o, h, _⟩
      · simpa using h
      · cases h
    subst hx0
    have := hn rfl
    subst this
    refine step_append_none hgd s x t ho 0 e i 1 ht hi v _ us hs how (by rw [hx, hv2]; rfl) ?_
    exact h v w (by rw [List.append_nil]; exact h0') ⟨rfl, rfl, rfl, Nat.le_refl _, fun _ _ _ => rfl⟩ hvlt (Below.refl _ _)
  | some ad =>
    rcases hcells with hnil | ⟨b, o, had, _, hc⟩
    · exact key ad (by rw [hnil]; simp) hv2
    · cases had
      refine key _ (fun j u hj => ?_) hv2
      have := hc j u hj
      cases j <;> simpa [Addr.add] using this
end
end Go.Sd
