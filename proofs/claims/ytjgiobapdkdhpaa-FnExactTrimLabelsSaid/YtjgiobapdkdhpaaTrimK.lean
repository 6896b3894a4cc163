/-
  Laws for the walk of TrimLabels: append at a table's row, at a slice of structs; numbers and bools by their cells; how many arcs there are.
-/
import Derived.Test.YtjgiobapdkdhpaaRows
import Derived.Test.YtjgiobapdkdhpaaBase
import Derived.Test.YtjgiobapdkdhpaaApart
import Derived.Test.YtjgiobapdkdhpaaLab
import Derived.Test.YtjgiobapdkdhpaaLabO
import Derived.Test.YtjgiobapdkdhpaaLabM
import Derived.Test.YtjgiobapdkdhpaaLiveN
import Derived.Test.YtjgiobapdkdhpaaRowG
import Derived.Test.YtjgiobapdkdhpaaSmallM
namespace Go.Sd
open Go.RowKit Go.Deep
/-- 't[i] = append(t[i], x)' at an own table, the row empty or not. -/
theorem New.row_push0 {P : Program} {eI eR : TypeId} {lo : Nat} {w : World} {v : Value} {m : List (List Int)} (h : New (OTab eI eR) lo w v m) {i : Nat} {r : List Int} (hr : m[i]? = some r)
    (t ty : TypeId) (z : Value) (bytes : Nat) (ht : P.underlying t = some (.slice eI)) (hinfo : (P.info? eI).map (fun i => (i.zero, i.size, i.bytes)) = some (some z, 1, bytes)) (hz1 : z.cells = #[z])
    (hbytes : (r.length + 1) * bytes ≤ 140737488355328) (h63 : r.length + 1 ≤ 9223372036854775807) :
    ∃ b c ra rc, v = .slice (some ⟨b, 0, none⟩) m.length c ∧ m.length ≤ c ∧ lo ≤ b ∧ b < w.heap.size ∧ w.cell? ⟨b, i, none⟩ = some (.slice ra r.length rc) ∧
      ∀ (w1 : World) (bb c1 : Nat) (y : Int), Below w.heap.size w w1 → w1.cell? ⟨bb, 0, none⟩ = some (.int .i64 y) →
        ∃ a' n' c' w2, (Builtin.append_ #[t, t] ty #[.slice ra r.length rc, .slice (some ⟨bb, 0, none⟩) 1 c1]).run P w1 = .ok (.slice a' n' c') w2 ∧
          w2.cell? ⟨b, i, none⟩ = some (.slice ra r.length rc) ∧ w2.frozen? ⟨b, i, none⟩ = false ∧ Below lo w (w2.setCell ⟨b, i, none⟩ (.slice a' n' c')) ∧
          New (OTab eI eR) lo (w2.setCell ⟨b, i, none⟩ (.slice a' n' c')) v (m.set i (r ++ [y])) := by
  obtain ⟨F, hF, hn, hge⟩ := h
  have hlt := (OTab.kept eI eR).lt _ _ _ _ hF
  obtain ⟨b, c, u, G, hv, hc, hbF, hbG, hcell, hfr, hu, hGF, hGn, _, hst⟩ := hF.focus (OInts.kept eI) hn hr
  obtain ⟨ra, rc, rfl, _⟩ := hu.reads.shape
  refine ⟨b, c, ra, rc, hv, hc, hge b hbF, hlt b hbF, hcell, fun w1 bb c1 y hb hy => ?_⟩
  have hu1 : OInts eI w1 _ r G := (OInts.kept eI).keep _ _ _ _ _ hu fun q hq => hb.block q (hlt q (hGF q hq))
  have hz := hb.size
  have hlob := hge b hbF
  have hltb := hlt b hbF
  obtain ⟨v', w2, G', hrun, hG', hn', hs, hg, hvG⟩ := push_run OIntR.kept t ty eI z bytes ht hinfo hz1 hu1 hGn (y := y) (G := []) ⟨rfl, rfl⟩ (by simp) (by simp) (c := c1) hy hbytes h63
  obtain ⟨a', c', hv', _⟩ := (OInts.reads hG').shape
  subst hv'
  have hoff : ∀ q, q ∈ F → q ∉ G → w2.heap[q]? = w.heap[q]? := fun q hq hqG => (hg.block q (by have := hlt q hq; omega) fun e => hqG (hvG q e.symm)).trans (hb.block q (hlt q hq))
  have hbb := hoff b hbF hbG
  have hbG' : b ∉ G' := fun hm => by
    rcases hs b hm with h1 | h1 | h1
    · exact hbG h1
    · simp at h1
    · omega
  obtain ⟨F', hF', hsub, hnd, _⟩ := hst w2 _ (r ++ [y]) G' hG' hbG' hoff
  have hbw : Below lo w w2 := (hb.mono (by omega)).grown hg (by omega) fun k hk => hge k (hGF k (hvG k hk))
  refine ⟨a', _, c', w2, hrun, ?_, ?_, hbw.setCell (p := ⟨b, i, none⟩) hlob _, F', hF', hnd hn' (fun q hq hqF => ?_), fun q hq => (hsub q hq).elim (hge q) fun hm => ?_⟩
  · rw [← hcell]
    simp only [World.cell?, hbb]
  · rw [← hfr]
    simp only [World.frozen?, hbb]
  · rcases hs q hq with h1 | h1 | h1
    · exact h1
    · simp at h1
    · have := hlt q hqF; omega
  · rcases hs q hm with h1 | h1 | h1
    · exact hge q (hGF q h1)
    · simp at h1
    · omega
theorem OInts.nil0 {e : TypeId} : ∀ w : World, OInts e w (.slice none 0 0) [] [] := fun _ => ⟨[], [], World.ownsRow_nil _ _ _ _, rfl, by simp, by simp [Value.ownBlock]⟩
/-- The same where a block has been laid since: it stays. -/
theorem New.row_push0A {P : Program} {eI eR : TypeId} {lo : Nat} {w0 w : World} {v : Value} {m : List (List Int)} (h : New (OTab eI eR) lo w0 v m) (hb0 : Below w0.heap.size w0 w) {i : Nat} {r : List Int} (hr : m[i]? = some r)
    (t ty : TypeId) (z : Value) (bytes : Nat) (ht : P.underlying t = some (.slice eI)) (hinfo : (P.info? eI).map (fun i => (i.zero, i.size, i.bytes)) = some (some z, 1, bytes)) (hz1 : z.cells = #[z])
    (hbytes : (r.length + 1) * bytes ≤ 140737488355328) (h63 : r.length + 1 ≤ 9223372036854775807) :
    ∃ b c ra rc, v = .slice (some ⟨b, 0, none⟩) m.length c ∧ m.length ≤ c ∧ lo ≤ b ∧ b < w.heap.size ∧ w.cell? ⟨b, i, none⟩ = some (.slice ra r.length rc) ∧
      ∀ (w1 : World) (bb c1 : Nat) (y : Int), Below w.heap.size w w1 → w1.cell? ⟨bb, 0, none⟩ = some (.int .i64 y) →
        ∃ a' n' c' w2, (Builtin.append_ #[t, t] ty #[.slice ra r.length rc, .slice (some ⟨bb, 0, none⟩) 1 c1]).run P w1 = .ok (.slice a' n' c') w2 ∧
          w2.cell? ⟨b, i, none⟩ = some (.slice ra r.length rc) ∧ w2.frozen? ⟨b, i, none⟩ = false ∧ Below lo w (w2.setCell ⟨b, i, none⟩ (.slice a' n' c')) ∧
          New (OTab eI eR) lo (w2.setCell ⟨b, i, none⟩ (.slice a' n' c')) v (m.set i (r ++ [y])) ∧ (∀ (o : Nat) u, w.cell? ⟨w0.heap.size, o, none⟩ = some u → w2.cell? ⟨w0.heap.size, o, none⟩ = some u) := by
  obtain ⟨F, hF, hn, hge⟩ := h
  have hlt := (OTab.kept eI eR).lt _ _ _ _ hF
  obtain ⟨b, c, u, G, hv, hc, hbF, hbG, hcell, hfr, hu, hGF, hGn, _, hst⟩ := hF.focus (OInts.kept eI) hn hr
  obtain ⟨ra, rc, rfl, _⟩ := (OInts.reads hu).shape
  have hlob := hge b hbF
  have hltb := hlt b hbF
  have hz0 := hb0.size
  refine ⟨b, c, ra, rc, hv, hc, hlob, Nat.lt_of_lt_of_le hltb hz0, (hb0.cell (p := ⟨b, i, none⟩) hltb).trans hcell, fun w1 bb c1 y hb hy => ?_⟩
  have hbw := hb0.trans (hb.mono hz0)
  have hz := hb.size
  have hu1 : OInts eI w1 _ r G := (OInts.kept eI).keep _ _ _ _ _ hu fun q hq => hbw.block q (hlt q (hGF q hq))
  obtain ⟨v', w2, G', hrun, hG', hn', hs, hg, hvG⟩ := push_run OIntR.kept t ty eI z bytes ht hinfo hz1 hu1 hGn (y := y) (G := []) ⟨rfl, rfl⟩ (by simp) (by simp) (c := c1) hy hbytes h63
  obtain ⟨a', c', hv', _⟩ := (OInts.reads hG').shape
  subst hv'
  have hoff : ∀ q, q ∈ F → q ∉ G → w2.heap[q]? = w0.heap[q]? := fun q hq hqG => (hg.block q (by have := hlt q hq; omega) fun e => hqG (hvG q e.symm)).trans (hbw.block q (hlt q hq))
  have hbb := hoff b hbF hbG
  have hbG' : b ∉ G' := fun hm => by
    rcases hs b hm with h1 | h1 | h1
    · exact hbG h1
    · simp at h1
    · omega
  obtain ⟨F', hF', hsub, hnd, _⟩ := hst w2 _ (r ++ [y]) G' hG' hbG' hoff
  have hbl : Below lo w w2 := (hb.mono (by omega)).grown hg (by omega) fun k hk => hge k (hGF k (hvG k hk))
  refine ⟨a', _, c', w2, hrun, ?_, ?_, hbl.setCell (p := ⟨b, i, none⟩) hlob _, ⟨F', hF', hnd hn' (fun q hq hqF => ?_), fun q hq => (hsub q hq).elim (hge q) fun hm => ?_⟩, fun o u hu0 => ?_⟩
  · rw [← hcell]
    simp only [World.cell?, hbb]
  · rw [← hfr]
    simp only [World.frozen?, hbb]
  · rcases hs q hq with h1 | h1 | h1
    · exact h1
    · simp at h1
    · have := hlt q hqF; omega
  · rcases hs q hm with h1 | h1 | h1
    · exact hge q (hGF q h1)
    · simp at h1
    · omega
  · have hl : w0.heap.size < w.heap.size := World.block_lt_of_cell? w ⟨w0.heap.size, o, none⟩ hu0
    have h1 := (hg.block w0.heap.size (by omega) fun e => by have := hlt _ (hGF _ (hvG _ e.symm)); omega).trans (hb.block w0.heap.size hl)
    rw [← hu0]
    simp only [World.cell?, h1]
/-- 'append(v, y)' where y has sz plain cells, as a run of the builtin. -/
theorem New.rowRun {P : Program} {α : Type} {e : TypeId} {sz : Nat} {f : α → List Value} (L : Lay sz f) (t ty : TypeId)
    (z : Value) (bytes : Nat) (ht : P.underlying t = some (.slice e)) (hinfo : (P.info? e).map (fun i => (i.zero, i.size, i.bytes)) = some (some z, sz, bytes)) (hz1 : z.cells.size = sz)
    {lo : Nat} {w : World} {v : Value} {xs : List α} (h0 : New (RowG e sz f) lo w v xs) (hlo : lo ≤ w.heap.size) (y : α) {bb : Nat} (c : Nat) (hcell : ∀ j u, (f y)[j]? = some u → w.cell? ⟨bb, j, none⟩ = some u)
    (hbytes : (xs.length + 1) * bytes ≤ 140737488355328) (h63 : xs.length + 1 ≤ 9223372036854775807) :
    ∃ a' n' c' w', (Builtin.append_ #[t, t] ty #[v, .slice (some ⟨bb, 0, none⟩) 1 c]).run P w = .ok (.slice a' n' c') w' ∧ New (RowG e sz f) lo w' (.slice a' n' c') (xs ++ [y]) ∧ Below lo w w' ∧ (∀ b, b < w.heap.size → b ∉ v.ownBlock.toList → w'.heap[b]? = w.heap[b]?) := by
  obtain ⟨i, hi, hzz⟩ := Option.map_eq_some_iff.1 hinfo
  simp only [Prod.mk.injEq] at hzz
  obtain ⟨hz, hsz, hby⟩ := hzz
  obtain ⟨F, ⟨how, rfl⟩, hnd, hge⟩ := h0
  have hvlt : ∀ k, v.ownBlock = some k → lo ≤ k ∧ k < w.heap.size := fun k hk => ⟨hge k (by simp [hk]), (how.lt k hk).2⟩
  obtain ⟨v', w', hrun, how', hg, _, hat⟩ := run_append_own_at (P := P) w 0 t ty e i z sz bytes ht hi hz hsz hby hz1 L.pos v xs.length (xs.flatMap f) how ⟨bb, 0, none⟩ 1 c (f y) (by rw [L.len]; omega)
    (by
      intro j u' hj
      have e : (⟨bb, 0, none⟩ : Addr).add j = ⟨bb, j, none⟩ := by unfold Addr.add; split <;> simp_all
      rw [e]
      exact hcell j u' hj)
    (fun u hu => L.one y u hu) h63 hbytes (Nat.zero_le _)
  have hR : RowG e sz f w' v' (xs ++ [y]) v'.ownBlock.toList := ⟨by simpa [List.flatMap_append] using how', rfl⟩
  obtain ⟨a', c', rfl⟩ := hR.slice
  refine ⟨a', _, c', w', hrun, ⟨_, hR, by cases (Value.slice a' (xs ++ [y]).length c').ownBlock <;> simp, ?_⟩, Below.of_grown hg hlo (fun k hk => (hvlt k hk).1), fun b hb hn => hg.block b hb (fun e => hn (by rw [← e]; simp))⟩
  intro b hb
  have hb2 : (Value.slice a' (xs ++ [y]).length c').ownBlock = some b := by simpa using hb
  rcases hat with hat | hat
  · rw [hat] at hb2; exact (hvlt b hb2).1
  · rw [hat] at hb2; simp at hb2; omega
theorem New.storeLow {α : Type} {R : OwnRel α} (hR : Held R) {lo : Nat} {w : World} {v : Value} {x : α} (h : New R lo w v x) {p : Addr} (hp : p.block < lo) (u : Value) : New R lo (w.setCell p u) v x := by
  obtain ⟨F, hF, hn, hge⟩ := h
  exact ⟨F, hR.keep _ _ _ _ _ hF fun b hb => Below.heap_setCell _ _ _ _ (fun e => by have := hge b hb; omega), hn, hge⟩
theorem CellsI.other {w : World} {B m : Nat} {f : Nat → Int} (h : CellsI w B m f) {p : Addr} (hp : p.block ≠ B) (u : Value) : CellsI (w.setCell p u) B m f := fun j hj =>
  ⟨(World.cell?_setCell_other _ _ _ _ (by intro e; exact hp (by rw [e]))).trans (h j hj).1, (World.frozen?_setCell _ _ _ _).trans (h j hj).2⟩
theorem Bl.keep {w w' : World} {b lo : Nat} {l : List Bool} (h : Bl w b l) (hb : Below lo w w') (hlt : b < lo) : Bl w' b l :=
  ⟨Nat.lt_of_lt_of_le h.1 hb.size, fun i x hx => ⟨(hb.cell (p := ⟨b, i, none⟩) hlt).trans (h.2 i x hx).1, (hb.frozen (p := ⟨b, i, none⟩) hlt).trans (h.2 i x hx).2⟩⟩
/-- An own slice of bools by its cells. -/
theorem New.bl {e : TypeId} {lo : Nat} {w : World} {v : Value} {l : List Bool} (h : New (OwnOf e (OValR Value.bool)) lo w v l) (h0 : 0 < l.length) : ∃ b c, v = .slice (some ⟨b, 0, none⟩) l.length c ∧ l.length ≤ c ∧ lo ≤ b ∧ Bl w b l := by
  obtain ⟨b, c, hv, hc, hlo, hlt, _, _, _⟩ := h.val_at (fun _ => rfl) (List.getElem?_eq_getElem h0)
  refine ⟨b, c, hv, hc, hlo, hlt, fun i x hx => ?_⟩
  obtain ⟨b', c', hv', _, _, _, hcl, hfr, _⟩ := h.val_at (fun _ => rfl) hx
  have e : b' = b := by rw [hv] at hv'; simp at hv'; exact hv'.1.symm
  rw [e] at hcl hfr
  exact ⟨hcl, hfr⟩
/-- An own slice of numbers by its cells. -/
theorem New.cellsI {e : TypeId} {lo : Nat} {w : World} {v : Value} {xs : List Int} (h : New (OInts e) lo w v xs) (h0 : 0 < xs.length) : ∃ b c, v = .slice (some ⟨b, 0, none⟩) xs.length c ∧ xs.length ≤ c ∧ lo ≤ b ∧ b < w.heap.size ∧ CellsI w b xs.length (fun i => xs.getD i 0) := by
  obtain ⟨b, c, hv, hc, hlo, hlt, _, _, _⟩ := h.int_at (List.getElem?_eq_getElem h0)
  refine ⟨b, c, hv, hc, hlo, hlt, fun i hi => ?_⟩
  obtain ⟨b', c', hv', _, _, _, hcl, hfr, _⟩ := h.int_at (List.getElem?_eq_getElem hi)
  have e : b' = b := by rw [hv] at hv'; simp at hv'; exact hv'.1.symm
  rw [e] at hcl hfr
  refine ⟨?_, hfr⟩
  show _ = some (Value.int .i64 (xs.getD i 0))
  rw [hcl]
  simp [List.getD, List.getElem?_eq_getElem hi]
end Go.Sd
namespace Go.Proofs.Ytjgiobapdkdhpaa
open Go.RowKit Go.Deep Go.Sd
def lkey (a : Arc3) : Int := a.1 * 64 + a.2.2 * 16 + a.2.1
/-- A valid graph has few arcs. -/
theorem isLab_len {l : Lb} (h : isLab l = true) : l.2.2.length ≤ 768 := by
  have ho := isLab_arcs h
  have hb := isLab_ok h
  unfold isLab at h
  rw [Bool.and_eq_true, Bool.and_eq_true] at h
  have hL : l.1.toNat ≤ 3 := by omega
  have hS : l.2.1.toNat ≤ 12 := by omega
  have step : ∀ k a b, l.2.2[k]? = some a → l.2.2[k + 1]? = some b → lkey a < lkey b := by
    intro k a b ha hb
    have e1 := allF_get h.2.2 (List.getElem?_eq_some_iff.1 hb).1
    unfold arcB at e1
    rw [Nat.add_sub_cancel, at3_of ha, at3_of hb] at e1
    simp only [Bool.and_eq_true, Bool.or_eq_true, decide_eq_true_eq, Nat.add_one_ne_zero, false_or] at e1
    have hb1 := e1.2
    unfold before at hb1
    have o1 := ho a (List.mem_of_getElem? ha)
    have o2 := ho b (List.mem_of_getElem? hb)
    unfold okArc at o1 o2
    unfold lkey
    by_cases c1 : a.1 = b.1
    · rw [if_neg (by simp [c1])] at hb1
      by_cases c2 : a.2.2 = b.2.2
      · rw [if_neg (by simp [c2]), decide_eq_true_eq] at hb1; omega
      · rw [if_pos c2, decide_eq_true_eq] at hb1; omega
    · rw [if_pos c1, decide_eq_true_eq] at hb1; omega
  have key : ∀ (k : Nat) (a : Arc3), l.2.2[k]? = some a → (k : Int) ≤ lkey a := by
    intro k
    induction k with
    | zero =>
      intro a ha
      have o1 := ho a (List.mem_of_getElem? ha)
      unfold okArc at o1
      unfold lkey
      omega
    | succ k ih =>
      intro a ha
      have hk := (List.getElem?_eq_some_iff.1 ha).1
      have h1 := ih _ (List.getElem?_eq_getElem (show k < l.2.2.length by omega))
      have h2 := step k _ a (List.getElem?_eq_getElem (show k < l.2.2.length by omega)) ha
      omega
  by_cases h0 : l.2.2.length = 0
  · omega
  · have hk : l.2.2.length - 1 < l.2.2.length := by omega
    have h1 := key (l.2.2.length - 1) _ (List.getElem?_eq_getElem hk)
    have o1 := ho _ (List.getElem_mem hk)
    unfold okArc at o1
    unfold lkey at h1
    omega
end Go.Proofs.Ytjgiobapdkdhpaa
