/-
  Own slices whose elements have several cells and blocks of their own besides; append of plain values, as a run.
-/
import Derived.Test.YtdohepngandajaaDoorBase
import Derived.Test.YtdohepngandajaaDoorLawKit
import Derived.Test.YtdohepngandajaaDoorSep
namespace Go.Sd
open Go.RowKit Go.Deep

abbrev OwnCells (α : Type) := World → List Value → α → List Nat → Prop
structure KeptC {α : Type} (sz : Nat) (R : OwnCells α) : Prop where
  keep : ∀ w w' u x F, R w u x F → (∀ b, b ∈ F → w'.heap[b]? = w.heap[b]?) → R w' u x F
  lt : ∀ w u x F, R w u x F → ∀ b, b ∈ F → b < w.heap.size
  one : ∀ w u x F, R w u x F → ∀ y, y ∈ u → y.oneCell' = true
  len : ∀ w u x F, R w u x F → u.length = sz
def OwnG {α : Type} (e : TypeId) (sz : Nat) (R : OwnCells α) : OwnRel (List α) := fun w v xs F =>
  ∃ (us : List (List Value)) (Fs : List (List Nat)), w.ownsRow 0 e sz v xs.length us.flatten ∧ us.length = xs.length ∧ Fs.length = xs.length ∧ (∀ u, u ∈ us → u.length = sz) ∧
    (∀ (i : Nat) (u : List Value) (x : α) (G : List Nat), us[i]? = some u → xs[i]? = some x → Fs[i]? = some G → R w u x G) ∧ F = v.ownBlock.toList ++ Fs.flatten
theorem flatten_at {sz : Nat} : ∀ {us : List (List Value)}, (∀ u, u ∈ us → u.length = sz) → ∀ {i j : Nat} {u : List Value} {y : Value}, us[i]? = some u → u[j]? = some y → us.flatten[i * sz + j]? = some y
  | [], _, i, j, u, y, h, _ => by simp at h
  | a :: us, hl, 0, j, u, y, h, hy => by
    simp at h
    subst h
    have hj := (List.getElem?_eq_some_iff.1 hy).1
    rw [List.flatten_cons, Nat.zero_mul, Nat.zero_add, List.getElem?_append_left hj]
    exact hy
  | a :: us, hl, i + 1, j, u, y, h, hy => by
    have h2 : us[i]? = some u := by simpa using h
    have ih := flatten_at (fun u hu => hl u (List.mem_cons_of_mem _ hu)) h2 hy
    have ha : a.length = sz := hl a (by simp)
    have e : (i + 1) * sz + j = a.length + (i * sz + j) := by rw [ha, Nat.add_mul]; omega
    rw [List.flatten_cons, e, List.getElem?_append_right (by omega), Nat.add_sub_cancel_left]
    exact ih
section
variable {α : Type} {e : TypeId} {sz : Nat} {R : OwnCells α}
theorem OwnG.held (hR : KeptC sz R) : Held (OwnG e sz R) := by
  refine ⟨?_, ?_⟩
  · rintro w w' v xs F ⟨us, Fs, ho, hl, hf, hs, hr, rfl⟩ hk
    refine ⟨us, Fs, ownsRow_keep ho fun b hb => hk b (by simp [hb]), hl, hf, hs, fun i u x G hu hx hG => hR.keep _ _ _ _ _ (hr i u x G hu hx hG) fun b hb => hk b ?_, rfl⟩
    exact List.mem_append_right _ (List.mem_flatten_of_mem (List.mem_of_getElem? hG) hb)
  · rintro w v xs F ⟨us, Fs, ho, hl, hf, hs, hr, rfl⟩ b hb
    rcases List.mem_append.1 hb with hb | hb
    · simp at hb
      exact (ho.lt b hb).2
    · obtain ⟨G, hG, hb⟩ := List.mem_flatten.1 hb
      obtain ⟨i, hi⟩ := List.getElem?_of_mem hG
      have hi1 : i < Fs.length := (List.getElem?_eq_some_iff.1 hi).1
      exact hR.lt _ _ _ _ (hr i us[i] xs[i] G (List.getElem?_eq_getElem (by omega)) (List.getElem?_eq_getElem (by omega)) hi) b hb
theorem OwnG.slice {w : World} {v : Value} {xs : List α} {F : List Nat} (h : OwnG e sz R w v xs F) : ∃ a c, v = .slice a xs.length c := by
  obtain ⟨us, Fs, ho, _⟩ := h
  rcases ho.2 with ⟨rfl, h0⟩ | ⟨g, cap, cur, rfl, _⟩
  · exact ⟨none, 0, by rw [h0]⟩
  · exact ⟨_, _, rfl⟩
/-- Where the elements lie. -/
theorem OwnG.at {w : World} {v : Value} {xs : List α} {F : List Nat} (h : OwnG e sz R w v xs F) {i : Nat} {x : α} (hx : xs[i]? = some x) :
    ∃ g c u G, v = .slice (some ⟨g, 0, none⟩) xs.length c ∧ g < w.heap.size ∧ R w u x G ∧ (∀ b, b ∈ G → b ∈ F) ∧ g ∈ F ∧ ∀ j y, u[j]? = some y → w.cell? ⟨g, i * sz + j, none⟩ = some y := by
  obtain ⟨us, Fs, ho, hl, hf, hs, hr, rfl⟩ := h
  have hi := (List.getElem?_eq_some_iff.1 hx).1
  have hui : us[i]? = some us[i] := List.getElem?_eq_getElem (by omega)
  have hFi : Fs[i]? = some Fs[i] := List.getElem?_eq_getElem (by omega)
  have hh := ho
  rcases ho.2 with ⟨rfl, h1⟩ | ⟨g, cap, cur, rfl, _⟩
  · omega
  · refine ⟨g, cap, us[i], Fs[i], rfl, (hh.lt g rfl).2, hr i _ x _ hui hx hFi, fun b hb => List.mem_append_right _ (List.mem_flatten_of_mem (List.mem_of_getElem? hFi) hb), by simp [Value.ownBlock], fun j y hy => ?_⟩
    have := hh.cells (g := g) rfl _ _ (flatten_at hs hui hy)
    have e2 : (⟨g, 0, none⟩ : Addr).add (i * sz + j) = ⟨g, i * sz + j, none⟩ := by unfold Addr.add; split <;> simp_all
    rw [e2] at this
    exact this
/-- A slice literal of one element without blocks of its own. -/
theorem New.oneG' (w : World) (u : List Value) (x : α) (hu : u.length = sz) (hR : ∀ w', R w' u x []) : New (OwnG e sz R) w.heap.size (w.alloc (.cells u.toArray e)) (.slice (some ⟨w.heap.size, 0, none⟩) 1 1) [x] :=
  ⟨[w.heap.size], ⟨[u], [[]], ⟨by simp [hu], .inr ⟨w.heap.size, 1, u.toArray, rfl, Nat.zero_le _, heap_alloc_new w _, Nat.le_refl _, by simp [maxLen], by simp [hu], by simp; exact List.take_of_length_le (by omega)⟩⟩, rfl, rfl, by simp [hu], fun i u' x' G' hu' hx' hG' => by
    cases i with
    | zero => simp at hu' hx' hG'; subst hu' hx' hG'; exact hR _
    | succ i => simp at hu', by simp [Value.ownBlock]⟩, by simp [Fresh]⟩
section
variable {P : Program} {lo : Nat} {w : World} {v : Value} {rs : List Res}
/-- append of an element that has been laid since, with blocks made since. -/
theorem Sep.pushC (hR : KeptC sz R) (h0 : 0 < sz) (t ty : TypeId) (z : Value) (bytes : Nat) (ht : P.underlying t = some (.slice e)) (hinfo : (P.info? e).map (fun i => (i.zero, i.size, i.bytes)) = some (some z, sz, bytes)) (hz1 : z.cells.size = sz)
    {xs : List α} {hh : Held (OwnG e sz R)} (h : Sep lo w (Res.of (OwnG e sz R) hh v xs :: rs)) (hlo : lo ≤ w.heap.size) {w1 : World} (hb : Below w.heap.size w w1) {u : List Value} {y : α} {K : List Nat} (hK : R w1 u y K) (hKf : Fresh w.heap.size K) {bb : Nat} (c : Nat) (hcell : ∀ j x, u[j]? = some x → w1.cell? ⟨bb, j, none⟩ = some x) (hbytes : (xs.length + 1) * bytes ≤ 140737488355328) (h63 : xs.length + 1 ≤ 9223372036854775807) :
    ∃ v' w', (Builtin.append_ #[t, t] ty #[v, .slice (some ⟨bb, 0, none⟩) 1 c]).run P w1 = .ok v' w' ∧ Sep lo w' (Res.of (OwnG e sz R) hh v' (xs ++ [y]) :: rs) ∧ Below lo w w' := by
  obtain ⟨i, hi, hzz⟩ := Option.map_eq_some_iff.1 hinfo
  simp only [Prod.mk.injEq] at hzz
  obtain ⟨hz, hsz, hby⟩ := hzz
  obtain ⟨G, hG, hf, hKK⟩ := h.head
  have hG1 : OwnG e sz R w v xs G := hG
  have hltG := hh.lt _ _ _ _ hG1
  obtain ⟨us, Fs, how, hl, hfl, hs, hr, eG⟩ := hG1
  have how1 : w1.ownsRow 0 e sz v xs.length us.flatten := ownsRow_keep how fun b hb2 => hb.block b (how.lt b hb2).2
  have hzw := hb.size
  have hul := hR.len _ _ _ _ hK
  obtain ⟨v', w', hrun, how', hg, _, hat⟩ := run_append_own_at (P := P) w1 0 t ty e i z sz bytes ht hi hz hsz hby hz1 h0 v xs.length us.flatten how1 ⟨bb, 0, none⟩ 1 c u (by rw [hul]; omega)
    (by
      intro j u' hj
      have := hcell j u' hj
      have e2 : (⟨bb, 0, none⟩ : Addr).add j = ⟨bb, j, none⟩ := by unfold Addr.add; split <;> simp_all
      rw [e2]
      exact this)
    (fun u' hu' => hR.one _ _ _ _ hK u' hu') h63 hbytes (Nat.zero_le _)
  have hvG : ∀ k, v.ownBlock = some k → k ∈ G := fun k hk => by rw [eG]; simp [hk]
  have hkeep : ∀ b, b < w.heap.size → b ∉ G → w'.heap[b]? = w.heap[b]? := fun b hlt hn => (hg.block b (by omega) fun e2 => hn (hvG b e2.symm)).trans (hb.block b hlt)
  have hnd : (v.ownBlock.toList ++ Fs.flatten).Nodup := eG ▸ hf.1
  have hnd' := List.nodup_append.1 hnd
  have hnv : ∀ k, v.ownBlock = some k → k ∉ Fs.flatten := fun k hk hm => hnd'.2.2 k (by simp [hk]) k hm rfl
  have hKlt := hR.lt _ _ _ _ hK
  have hFG : ∀ b, b ∈ Fs.flatten → b ∈ G := fun b hb2 => by rw [eG]; exact List.mem_append_right _ hb2
  have hat' : ∀ k, v'.ownBlock = some k → v.ownBlock = some k ∨ w1.heap.size ≤ k := by
    intro k hk
    rcases hat with hat | hat
    · rw [hat] at hk; exact Or.inl hk
    · rw [hat] at hk; simp at hk; exact Or.inr (by omega)
  refine ⟨v', w', hrun, hKK w' (Res.of (OwnG e sz R) hh v' (xs ++ [y])) (v'.ownBlock.toList ++ (Fs ++ [K]).flatten) ⟨us ++ [u], Fs ++ [K], by simpa using how', by simp [hl], by simp [hfl], ?_, ?_, rfl⟩ ?_ ?_ hlo hkeep, (hb.mono hlo).grown hg (by omega) fun k hk => hf.2 k (hvG k hk)⟩
  · intro u' hu'
    rcases List.mem_append.1 hu' with h1 | h1
    · exact hs u' h1
    · simp at h1; subst h1; exact hul
  · intro j u' x' G' hu' hx' hG'
    by_cases hj : j < xs.length
    · rw [List.getElem?_append_left (by omega)] at hu' hx' hG'
      refine hR.keep _ _ _ _ _ (hr j u' x' G' hu' hx' hG') fun b hb' => ?_
      have hm : b ∈ Fs.flatten := List.mem_flatten_of_mem (List.mem_of_getElem? hG') hb'
      exact (hg.block b (by have := hltG b (hFG b hm); omega) (fun e2 => hnv b e2.symm hm)).trans (hb.block b (hltG b (hFG b hm)))
    · have hj2 : j = xs.length := by
        have := (List.getElem?_eq_some_iff.1 hx').1
        simp at this; omega
      subst hj2
      rw [List.getElem?_append_right (by omega)] at hu' hx' hG'
      simp [hl, hfl] at hu' hx' hG'
      subst hu' hx' hG'
      exact hR.keep _ _ _ _ _ hK fun b hb' => hg.block b (hKlt b hb') fun e2 => by
        have h1 := hltG b (hvG b e2.symm)
        have h2 := hKf.2 b hb'
        omega
  · simp only [List.flatten_append, List.flatten_cons, List.flatten_nil, List.append_nil]
    refine List.nodup_append.2 ⟨by cases v'.ownBlock <;> simp, List.nodup_append.2 ⟨hnd'.2.1, hKf.1, ?_⟩, ?_⟩
    · intro p hp q hq e2
      subst e2
      have h1 := hltG p (hFG p hp)
      have h2 := hKf.2 p hq
      omega
    · intro p hp q hq e2
      subst e2
      simp at hp
      rcases hat' p hp with hk | hk
      · rcases List.mem_append.1 hq with hq | hq
        · exact hnv p hk hq
        · have h1 := hltG p (hvG p hk)
          have h2 := hKf.2 p hq
          omega
      · rcases List.mem_append.1 hq with hq | hq
        · have := hltG p (hFG p hq); omega
        · have := hKlt p hq; omega
  · intro b hb'
    rcases List.mem_append.1 hb' with hb' | hb'
    · simp at hb'
      rcases hat' b hb' with hk | hk
      · exact Or.inl (hvG b hk)
      · exact Or.inr (by omega)
    · simp at hb'
      rcases hb' with ⟨H, hH, hb'⟩ | hb'
      · exact Or.inl (hFG b (List.mem_flatten_of_mem hH hb'))
      · exact Or.inr (hKf.2 b hb')
end
end
/-- append of a whole slice of plain values to an own one, as a run. -/
theorem vals_run {P : Program} {w : World} {α : Type} {f : α → Value} (hf : ∀ x, (f x).oneCell' = true) (t ty : TypeId)
    (e : TypeId) (z : Value) (bytes : Nat) (ht : P.underlying t = some (.slice e)) (hinfo : (P.info? e).map (fun i => (i.zero, i.size, i.bytes)) = some (some z, 1, bytes)) (hz1 : z.cells = #[z])
    {lo : Nat} {v : Value} {ys : List α} (h0 : New (OwnOf e (OValR f)) lo w v ys) (hlo : lo ≤ w.heap.size)
    {v2 : Value} {xs : List α} (h2 : SlOf (ValR f) w v2 xs)
    (hbytes : (ys.length + xs.length) * bytes ≤ 140737488355328) (h63 : ys.length + xs.length ≤ 9223372036854775807) :
    ∃ v' w', (Builtin.append_ #[t, t] ty #[v, v2]).run P w = .ok v' w' ∧ New (OwnOf e (OValR f)) lo w' v' (ys ++ xs) ∧ Below lo w w' := by
  obtain ⟨i, hi, hzz⟩ := Option.map_eq_some_iff.1 hinfo
  simp only [Prod.mk.injEq] at hzz
  obtain ⟨hz, hsz, hby⟩ := hzz
  have h0' := h0
  obtain ⟨F, ⟨us, Fs, how, hl, hr, rfl⟩, hnd, hge⟩ := h0
  have hul : us.length = ys.length := by simpa using how.1
  have hvlt : ∀ k, v.ownBlock = some k → lo ≤ k ∧ k < w.heap.size := fun k hk => ⟨hge k (by simp [hk]), (how.lt k hk).2⟩
  obtain ⟨vs, hsl, hvl, hvr⟩ := h2
  have hvs : vs = xs.map f := by
    apply List.ext_getElem?
    intro j
    by_cases hj : j < xs.length
    · rw [List.getElem?_map, List.getElem?_eq_getElem hj, List.getElem?_eq_getElem (by omega)]
      exact congrArg some (hvr j _ _ (List.getElem?_eq_getElem (by omega)) (List.getElem?_eq_getElem hj))
    · rw [List.getElem?_eq_none (by omega), List.getElem?_eq_none (by simp; omega)]
  subst hvs
  obtain ⟨_, ad, c, hv2, _, _, hn, hcells⟩ := hsl
  simp only [List.length_map] at hv2
  have key : ∀ (ad : Addr), (∀ (j : Nat) (u : Value), (xs.map f)[j]? = some u → w.cell? (ad.add j) = some u) → v2 = .slice (some ad) xs.length c → ∃ v' w', (Builtin.append_ #[t, t] ty #[v, v2]).run P w = .ok v' w' ∧ New (OwnOf e (OValR f)) lo w' v' (ys ++ xs) ∧ Below lo w w' := by
    intro ad had hv2'
    obtain ⟨v', w', hrun, how', hg, _, hat⟩ := run_append_own_at (P := P) w 0 t ty e i z 1 bytes ht hi hz hsz hby (by rw [hz1]; rfl) (by decide) v ys.length us how ad xs.length c (xs.map f) (by simp) had
      (by
        intro u hu
        obtain ⟨y, _, rfl⟩ := List.mem_map.1 hu
        exact hf y) h63 hbytes (Nat.zero_le _)
    have hFs : ∀ G, G ∈ Fs → G = [] := fun G hG => by
      obtain ⟨j, hj⟩ := List.getElem?_of_mem hG
      have hj1 : j < Fs.length := (List.getElem?_eq_some_iff.1 hj).1
      exact (hr j us[j] ys[j] G (List.getElem?_eq_getElem (by omega)) (List.getElem?_eq_getElem (by omega)) hj).2
    have hfl : (Fs ++ List.replicate xs.length []).flatten = [] := by
      rw [List.flatten_eq_nil_iff]
      intro G hG
      rcases List.mem_append.1 hG with hG | hG
      · exact hFs G hG
      · exact (List.mem_replicate.1 hG).2
    refine ⟨v', w', by rw [hv2']; exact hrun, ⟨_, ⟨us ++ xs.map f, Fs ++ List.replicate xs.length [], by simpa using how', by simp [hl], ?_, rfl⟩, ?_, ?_⟩, Below.of_grown hg hlo fun k hk => (hvlt k hk).1⟩
    · intro j u' x' G' hu' hx' hG'
      by_cases hj : j < ys.length
      · rw [List.getElem?_append_left (by omega)] at hu' hx' hG'
        exact hr j u' x' G' hu' hx' hG'
      · rw [List.getElem?_append_right (by omega)] at hu' hx' hG'
        rw [hul, List.getElem?_map, hx'] at hu'
        simp at hu'
        exact ⟨hu'.symm, (List.mem_replicate.1 (List.mem_of_getElem? hG')).2⟩
    · rw [hfl]
      cases v'.ownBlock <;> simp
    · intro b hb
      rw [hfl] at hb
      simp at hb
      rcases hat with hat | hat
      · rw [hat] at hb; exact (hvlt b hb).1
      · rw [hat] at hb; simp at hb; omega
  rcases hcells with hnil | ⟨b, o', rfl, _, hc⟩
  · have hx0 : xs = [] := by simpa using hnil
    subst hx0
    cases ad with
    | some ad => exact key ad (by simp) hv2
    | none =>
      have hc0 := hn rfl
      subst hc0
      refine ⟨v, w, ?_, by simpa using h0', Below.refl _ _⟩
      rw [hv2]
      exact run_append_owned_none (P := P) w 0 t ty e i 1 ht hi v ys.length us how
  · exact key ⟨b, o', none⟩ (fun j u hu => by
      have e2 : (⟨b, o', none⟩ : Addr).add j = ⟨b, o' + j, none⟩ := by unfold Addr.add; split <;> simp_all
      rw [e2]
      exact hc j u hu) hv2
end Go.Sd
