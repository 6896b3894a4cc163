/-
  Texts of this claim joined: laws for its walks, contracts of the functions that the law reaches.
-/
import Derived.Test.YtcilgihmaaobeaaRows
import Derived.Test.YtcilgihmaaobeaaLabelsOfM1
import Derived.Test.YtcilgihmaaobeaaLabelsOfM6
import Derived.Test.YtcilgihmaaobeaaLabelsOfM2
import Derived.Test.YtcilgihmaaobeaaLabelsOfM3
import Derived.Test.YtcilgihmaaobeaaLabelsOfM8
import Derived.Test.YtcilgihmaaobeaaLabelsOfM13
import Derived.Test.YtcilgihmaaobeaaLabelsOfM10
import Derived.Test.YtcilgihmaaobeaaLabelsOfM7
import Derived.Deep.RegionLaw
import Derived.IntWalk
section
/-
  TrimLabels's model: rows of targets, names of what is kept, arcs kept.
-/
namespace Go.Proofs.Ytcilgihmaaobeaa
open Go.RowKit Go.Deep Go.Sd

def nxRow (xs : List Arc3) (i : Nat) : List Int := (xs.filter fun a => decide (a.1 = (i : Int))).map (·.2.1)
def nxt (p : Nat) (xs : List Arc3) : List (List Int) := (List.range p).map fun i => nxRow xs i
theorem nxt_len (p : Nat) (xs : List Arc3) : (nxt p xs).length = p := by simp [nxt]
theorem nxt_at {p i : Nat} {xs : List Arc3} (h : i < p) : (nxt p xs)[i]? = some (nxRow xs i) := by
  unfold nxt; rw [List.getElem?_map, List.getElem?_range h]; rfl
theorem nxt_nil (p : Nat) : nxt p [] = List.replicate p [] := by
  apply List.ext_getElem?
  intro i
  by_cases h : i < p
  · rw [nxt_at h, List.getElem?_replicate, if_pos h]; rfl
  · rw [List.getElem?_eq_none (by rw [nxt_len]; omega), List.getElem?_eq_none (by simp; omega)]
theorem nxRow_snoc (xs : List Arc3) (a : Arc3) (i : Nat) : nxRow (xs ++ [a]) i = if a.1 = (i : Int) then nxRow xs i ++ [a.2.1] else nxRow xs i := by
  unfold nxRow
  rw [List.filter_append, List.map_append]
  by_cases h : a.1 = (i : Int)
  · rw [if_pos h]; simp [h]
  · rw [if_neg h]; simp [h]
theorem nxt_snoc {p p0 : Nat} (xs : List Arc3) (a : Arc3) (h0 : p0 < p) (ha : a.1 = (p0 : Int)) : nxt p (xs ++ [a]) = (nxt p xs).set p0 (nxRow xs p0 ++ [a.2.1]) := by
  apply List.ext_getElem?
  intro i
  by_cases h : i < p
  · rw [nxt_at h, nxRow_snoc, ha]
    by_cases e : p0 = i
    · subst e
      rw [if_pos rfl, List.getElem?_set_self (by rw [nxt_len]; exact h)]
    · rw [if_neg (by omega), List.getElem?_set_ne e, nxt_at h]
  · rw [List.getElem?_eq_none (by rw [nxt_len]; omega), List.getElem?_eq_none (by rw [List.length_set, nxt_len]; omega)]
theorem nxRow_mem {xs : List Arc3} {i : Nat} {x : Int} : x ∈ nxRow xs i ↔ ∃ a, a ∈ xs ∧ a.1 = (i : Int) ∧ a.2.1 = x := by
  unfold nxRow
  simp only [List.mem_map, List.mem_filter, decide_eq_true_eq]
  constructor
  · rintro ⟨a, ⟨h1, h2⟩, h3⟩; exact ⟨a, h1, h2, h3⟩
  · rintro ⟨a, h1, h2, h3⟩; exact ⟨a, ⟨h1, h2⟩, h3⟩
theorem nxRow_len (xs : List Arc3) (i : Nat) : (nxRow xs i).length ≤ xs.length := by
  unfold nxRow; rw [List.length_map]; exact List.length_filter_le _ _
theorem nxt_ent {p i j : Nat} {xs : List Arc3} (h : i < p) : EntN (nxt p xs) i j ↔ ArcP xs i j := by
  unfold EntN ArcP
  rw [List.getD_eq_getElem?_getD, nxt_at h]
  simp only [Option.getD_some]
  exact nxRow_mem
theorem nxt_live (p : Nat) (xs : List Arc3) : liveL (EntN (nxt p xs)) p = liveL (ArcP xs) p :=
  liveL_congr fun i j hi _ => nxt_ent hi
theorem nxt_in {p : Nat} {xs : List Arc3} (ho : okArcs (p : Int) xs) : ∀ r, r ∈ nxt p xs → ∀ x, x ∈ r → 0 ≤ x ∧ x < (p : Int) := by
  intro r hr x hx
  obtain ⟨i, _, rfl⟩ := List.mem_map.1 hr
  obtain ⟨a, ha, _, rfl⟩ := nxRow_mem.1 hx
  have := ho a ha
  exact ⟨this.2.2.1, this.2.2.2⟩

/-! Names. -/
def nm (l : List Bool) (i : Nat) : Nat := cntT (l.take i)
theorem nm_zero (l : List Bool) : nm l 0 = 0 := by simp [nm, cntT]
theorem nm_succ {l : List Bool} {i : Nat} {b : Bool} (h : l[i]? = some b) : nm l (i + 1) = nm l i + (if b = true then 1 else 0) := by
  unfold nm cntT
  rw [List.take_add_one, h, List.countP_append]
  cases b <;> simp
theorem nm_le (l : List Bool) (i : Nat) : nm l i ≤ cntT l := by
  unfold nm cntT
  exact List.Sublist.countP_le (List.take_sublist _ _)
theorem nm_all (l : List Bool) : nm l l.length = cntT l := by unfold nm; rw [List.take_length]
/-- The names of the first k; zeros behind them. -/
def nmF (l : List Bool) (k : Nat) : List Int := rowOf' l.length fun i => if i < k ∧ l.getD i false = true then (nm l i : Int) else 0
theorem nmF_len (l : List Bool) (k : Nat) : (nmF l k).length = l.length := rowOf_len _ _
theorem nmF_zero (l : List Bool) : nmF l 0 = List.replicate l.length 0 := by
  apply List.ext_getElem?
  intro i
  by_cases h : i < l.length
  · unfold nmF; rw [rowOf_at h, List.getElem?_replicate, if_pos h, if_neg (by omega)]
  · rw [List.getElem?_eq_none (by rw [nmF_len]; omega), List.getElem?_eq_none (by simp; omega)]
theorem nmF_at {l : List Bool} {k i : Nat} (h : i < l.length) : (nmF l k)[i]? = some (if i < k ∧ l.getD i false = true then (nm l i : Int) else 0) := by
  unfold nmF; rw [rowOf_at h]
theorem nmF_skip {l : List Bool} {k : Nat} (h : l[k]? = some false) : nmF l (k + 1) = nmF l k := by
  apply List.ext_getElem?
  intro i
  by_cases hi : i < l.length
  · rw [nmF_at hi, nmF_at hi]
    by_cases e : i = k
    · subst e
      have : l.getD i false = false := by simp [List.getD, h]
      rw [this, if_neg (by simp), if_neg (by simp)]
    · by_cases h2 : i < k
      · simp [h2, Nat.lt_succ_of_lt h2]
      · rw [if_neg (by omega), if_neg (by omega)]
  · rw [List.getElem?_eq_none (by rw [nmF_len]; omega), List.getElem?_eq_none (by rw [nmF_len]; omega)]
theorem nmF_take {l : List Bool} {k : Nat} (h : l[k]? = some true) : nmF l (k + 1) = (nmF l k).set k (nm l k : Int) := by
  have hk := (List.getElem?_eq_some_iff.1 h).1
  apply List.ext_getElem?
  intro i
  by_cases hi : i < l.length
  · by_cases e : k = i
    · subst e
      rw [List.getElem?_set_self (by rw [nmF_len]; exact hk), nmF_at hi, if_pos ⟨by omega, by simp [List.getD, h]⟩]
    · rw [List.getElem?_set_ne e, nmF_at hi, nmF_at hi]
      by_cases h2 : i < k
      · simp [h2, Nat.lt_succ_of_lt h2]
      · rw [if_neg (by omega), if_neg (by omega)]
  · rw [List.getElem?_eq_none (by rw [nmF_len]; omega), List.getElem?_eq_none (by rw [List.length_set, nmF_len]; omega)]
theorem nmF_end {l : List Bool} {i : Nat} (h : l[i]? = some true) : (nmF l l.length)[i]? = some (nm l i : Int) := by
  have hi := (List.getElem?_eq_some_iff.1 h).1
  rw [nmF_at hi, if_pos ⟨hi, by simp [List.getD, h]⟩]
theorem nmF_end' {l : List Bool} {i : Nat} (h : i < l.length) : ∃ x : Int, (nmF l l.length)[i]? = some x ∧ (l[i]? = some true → x = (nm l i : Int)) := by
  refine ⟨_, nmF_at h, fun h2 => by rw [if_pos ⟨h, by simp [List.getD, h2]⟩]⟩

/-! Arcs kept. -/
def kept (l : List Bool) (a : Arc3) : Bool := l.getD a.1.toNat false && l.getD a.2.1.toNat false
def renA (l : List Bool) (a : Arc3) : Arc3 := ((nm l a.1.toNat : Int), (nm l a.2.1.toNat : Int), a.2.2)
def trimA (l : List Bool) (xs : List Arc3) : List Arc3 := (xs.filter (kept l)).map (renA l)
theorem trimA_len (l : List Bool) (xs : List Arc3) : (trimA l xs).length ≤ xs.length := by
  unfold trimA; rw [List.length_map]; exact List.length_filter_le _ _
theorem trimA_snoc (l : List Bool) (xs : List Arc3) (a : Arc3) : trimA l (xs ++ [a]) = if kept l a = true then trimA l xs ++ [renA l a] else trimA l xs := by
  unfold trimA
  rw [List.filter_append, List.map_append]
  by_cases h : kept l a = true
  · rw [if_pos h]; simp [h]
  · rw [if_neg h]; simp [h]
noncomputable def liveO (l : Lb) : List Bool := liveL (ArcP l.2.2) l.2.1.toNat
theorem liveO_len (l : Lb) : (liveO l).length = l.2.1.toNat := liveL_len
open Classical in
noncomputable def trimOk (l : Lb) : Bool := isLab l && decide (cntT (liveO l) ≠ 0)
noncomputable def keepV (l : Lb) (b : List Bool) : Lb := (l.1, (cntT b : Int), trimA b l.2.2)
noncomputable def trimV (l : Lb) : Lb := if trimOk l = true then keepV l (liveO l) else (0, 0, [])
theorem trimV_len (l : Lb) : (trimV l).2.2.length ≤ l.2.2.length := by
  unfold trimV
  split
  · exact trimA_len _ _
  · simp
end Go.Proofs.Ytcilgihmaaobeaa
end

section
/-
  Laws for the walk of TrimLabels: append at a table's row, at a slice of structs; numbers and bools by their cells; how many arcs there are.
-/
namespace Go.Sd
open Go.RowKit Go.Deep
/-- 't[i] = append(t[i], x)' at an own table, the row empty or not. -/
theorem New.row_push0 {P : Program} {eI eR : TypeId} {lo : Nat} {w : World} {v : Value} {m : List (List Int)} (h : New (OTab eI eR) lo w v m) {i : Nat} {r : List Int} (hr : m[i]? = some r)
    (t ty : TypeId) (z : Value) (bytes : Nat) (ht : P.underlying t = some (.slice eI)) (hinfo : (P.info? eI).map (fun i => (i.zero, i.size, i.bytes)) = some (some z, 1, bytes)) (hz1 : z.cells = #[z])
    (hbytes : (r.length + 1) * bytes ≤ 140737488355328) (h63 : r.length + 1 ≤ 9223372036854775807) :
    ∃ b c ra rc, v = .slice (some ⟨b, 0, none⟩) m.length c ∧ m.length ≤ c ∧ lo ≤ b ∧ b < w.heap.size ∧ w.cell? ⟨b, i, none⟩ = some (.slice ra r.length rc) ∧
      ∀ (w1 : World) (bb c1 : Nat) (y : Int), Below w.heap.size w w1 → w1.cell? ⟨bb, 0, none⟩ = some (.int .i64 y) →
        ∃ a' n' c' w2, (Builtin.append_ #[t, t] ty #[.slice ra r.length rc, .slice (some ⟨bb, 0, none⟩) 1 c1]).run P w1 = .ok (.slice a' n' c') w2 ∧
          w2.cell? ⟨b, i, none⟩ = some (.slice ra r.length rc) ∧ w2.frozen? ⟨b, i, none⟩ = false ∧ Below lo w (w2.setCell ⟨b, i, none⟩ (.slice a' n' c')) ∧
          New (OTab eI eR) lo (w2.setCell ⟨b, i, none⟩ (.slice a' n' c')) v (m.set i (r ++ [y])) := by
  obtain ⟨F, hF, hn, hge⟩ := h
  have hlt := (OTab.kept eI eR).lt _ _ _ _ hF
  obtain ⟨b, c, u, G, hv, hc, hbF, hbG, hcell, hfr, hu, hGF, hGn, _, hst⟩ := hF.focus (OInts.kept eI) hn hr
  obtain ⟨ra, rc, rfl, _⟩ := hu.reads.shape
  refine ⟨b, c, ra, rc, hv, hc, hge b hbF, hlt b hbF, hcell, fun w1 bb c1 y hb hy => ?_⟩
  have hu1 : OInts eI w1 _ r G := (OInts.kept eI).keep _ _ _ _ _ hu fun q hq => hb.block q (hlt q (hGF q hq))
  have hz := hb.size
  have hlob := hge b hbF
  have hltb := hlt b hbF
  obtain ⟨v', w2, G', hrun, hG', hn', hs, hg, hvG⟩ := push_run OIntR.kept t ty eI z bytes ht hinfo hz1 hu1 hGn (y := y) (G := []) ⟨rfl, rfl⟩ (by simp) (by simp) (c := c1) hy hbytes h63
  obtain ⟨a', c', hv', _⟩ := (OInts.reads hG').shape
  subst hv'
  have hoff : ∀ q, q ∈ F → q ∉ G → w2.heap[q]? = w.heap[q]? := fun q hq hqG => (hg.block q (by have := hlt q hq; omega) fun e => hqG (hvG q e.symm)).trans (hb.block q (hlt q hq))
  have hbb := hoff b hbF hbG
  have hbG' : b ∉ G' := fun hm => by
    rcases hs b hm with h1 | h1 | h1
    · exact hbG h1
    · simp at h1
    · omega
  obtain ⟨F', hF', hsub, hnd, _⟩ := hst w2 _ (r ++ [y]) G' hG' hbG' hoff
  have hbw : Below lo w w2 := (hb.mono (by omega)).grown hg (by omega) fun k hk => hge k (hGF k (hvG k hk))
  refine ⟨a', _, c', w2, hrun, ?_, ?_, hbw.setCell (p := ⟨b, i, none⟩) hlob _, F', hF', hnd hn' (fun q hq hqF => ?_), fun q hq => (hsub q hq).elim (hge q) fun hm => ?_⟩
  · rw [← hcell]
    simp only [World.cell?, hbb]
  · rw [← hfr]
    simp only [World.frozen?, hbb]
  · rcases hs q hq with h1 | h1 | h1
    · exact h1
    · simp at h1
    · have := hlt q hqF; omega
  · rcases hs q hm with h1 | h1 | h1
    · exact hge q (hGF q h1)
    · simp at h1
    · omega
theorem OInts.nil0 {e : TypeId} : ∀ w : World, OInts e w (.slice none 0 0) [] [] := fun _ => ⟨[], [], World.ownsRow_nil _ _ _ _, rfl, by simp, by simp [Value.ownBlock]⟩
/-- The same where a block has been laid since: it stays. -/
theorem New.row_push0A {P : Program} {eI eR : TypeId} {lo : Nat} {w0 w : World} {v : Value} {m : List (List Int)} (h : New (OTab eI eR) lo w0 v m) (hb0 : Below w0.heap.size w0 w) {i : Nat} {r : List Int} (hr : m[i]? = some r)
    (t ty : TypeId) (z : Value) (bytes : Nat) (ht : P.underlying t = some (.slice eI)) (hinfo : (P.info? eI).map (fun i => (i.zero, i.size, i.bytes)) = some (some z, 1, bytes)) (hz1 : z.cells = #[z])
    (hbytes : (r.length + 1) * bytes ≤ 140737488355328) (h63 : r.length + 1 ≤ 9223372036854775807) :
    ∃ b c ra rc, v = .slice (some ⟨b, 0, none⟩) m.length c ∧ m.length ≤ c ∧ lo ≤ b ∧ b < w.heap.size ∧ w.cell? ⟨b, i, none⟩ = some (.slice ra r.length rc) ∧
      ∀ (w1 : World) (bb c1 : Nat) (y : Int), Below w.heap.size w w1 → w1.cell? ⟨bb, 0, none⟩ = some (.int .i64 y) →
        ∃ a' n' c' w2, (Builtin.append_ #[t, t] ty #[.slice ra r.length rc, .slice (some ⟨bb, 0, none⟩) 1 c1]).run P w1 = .ok (.slice a' n' c') w2 ∧
          w2.cell? ⟨b, i, none⟩ = some (.slice ra r.length rc) ∧ w2.frozen? ⟨b, i, none⟩ = false ∧ Below lo w (w2.setCell ⟨b, i, none⟩ (.slice a' n' c')) ∧
          New (OTab eI eR) lo (w2.setCell ⟨b, i, none⟩ (.slice a' n' c')) v (m.set i (r ++ [y])) ∧ (∀ (o : Nat) u, w.cell? ⟨w0.heap.size, o, none⟩ = some u → w2.cell? ⟨w0.heap.size, o, none⟩ = some u) := by
  obtain ⟨F, hF, hn, hge⟩ := h
  have hlt := (OTab.kept eI eR).lt _ _ _ _ hF
  obtain ⟨b, c, u, G, hv, hc, hbF, hbG, hcell, hfr, hu, hGF, hGn, _, hst⟩ := hF.focus (OInts.kept eI) hn hr
  obtain ⟨ra, rc, rfl, _⟩ := (OInts.reads hu).shape
  have hlob := hge b hbF
  have hltb := hlt b hbF
  have hz0 := hb0.size
  refine ⟨b, c, ra, rc, hv, hc, hlob, Nat.lt_of_lt_of_le hltb hz0, (hb0.cell (p := ⟨b, i, none⟩) hltb).trans hcell, fun w1 bb c1 y hb hy => ?_⟩
  have hbw := hb0.trans (hb.mono hz0)
  have hz := hb.size
  have hu1 : OInts eI w1 _ r G := (OInts.kept eI).keep _ _ _ _ _ hu fun q hq => hbw.block q (hlt q (hGF q hq))
  obtain ⟨v', w2, G', hrun, hG', hn', hs, hg, hvG⟩ := push_run OIntR.kept t ty eI z bytes ht hinfo hz1 hu1 hGn (y := y) (G := []) ⟨rfl, rfl⟩ (by simp) (by simp) (c := c1) hy hbytes h63
  obtain ⟨a', c', hv', _⟩ := (OInts.reads hG').shape
  subst hv'
  have hoff : ∀ q, q ∈ F → q ∉ G → w2.heap[q]? = w0.heap[q]? := fun q hq hqG => (hg.block q (by have := hlt q hq; omega) fun e => hqG (hvG q e.symm)).trans (hbw.block q (hlt q hq))
  have hbb := hoff b hbF hbG
  have hbG' : b ∉ G' := fun hm => by
    rcases hs b hm with h1 | h1 | h1
    · exact hbG h1
    · simp at h1
    · omega
  obtain ⟨F', hF', hsub, hnd, _⟩ := hst w2 _ (r ++ [y]) G' hG' hbG' hoff
  have hbl : Below lo w w2 := (hb.mono (by omega)).grown hg (by omega) fun k hk => hge k (hGF k (hvG k hk))
  refine ⟨a', _, c', w2, hrun, ?_, ?_, hbl.setCell (p := ⟨b, i, none⟩) hlob _, ⟨F', hF', hnd hn' (fun q hq hqF => ?_), fun q hq => (hsub q hq).elim (hge q) fun hm => ?_⟩, fun o u hu0 => ?_⟩
  · rw [← hcell]
    simp only [World.cell?, hbb]
  · rw [← hfr]
    simp only [World.frozen?, hbb]
  · rcases hs q hq with h1 | h1 | h1
    · exact h1
    · simp at h1
    · have := hlt q hqF; omega
  · rcases hs q hm with h1 | h1 | h1
    · exact hge q (hGF q h1)
    · simp at h1
    · omega
  · have hl : w0.heap.size < w.heap.size := World.block_lt_of_cell? w ⟨w0.heap.size, o, none⟩ hu0
    have h1 := (hg.block w0.heap.size (by omega) fun e => by have := hlt _ (hGF _ (hvG _ e.symm)); omega).trans (hb.block w0.heap.size hl)
    rw [← hu0]
    simp only [World.cell?, h1]
/-- 'append(v, y)' where y has sz plain cells, as a run of the builtin. -/
theorem New.rowRun {P : Program} {α : Type} {e : TypeId} {sz : Nat} {f : α → List Value} (L : Lay sz f) (t ty : TypeId)
    (z : Value) (bytes : Nat) (ht : P.underlying t = some (.slice e)) (hinfo : (P.info? e).map (fun i => (i.zero, i.size, i.bytes)) = some (some z, sz, bytes)) (hz1 : z.cells.size = sz)
    {lo : Nat} {w : World} {v : Value} {xs : List α} (h0 : New (RowG e sz f) lo w v xs) (hlo : lo ≤ w.heap.size) (y : α) {bb : Nat} (c : Nat) (hcell : ∀ j u, (f y)[j]? = some u → w.cell? ⟨bb, j, none⟩ = some u)
    (hbytes : (xs.length + 1) * bytes ≤ 140737488355328) (h63 : xs.length + 1 ≤ 9223372036854775807) :
    ∃ a' n' c' w', (Builtin.append_ #[t, t] ty #[v, .slice (some ⟨bb, 0, none⟩) 1 c]).run P w = .ok (.slice a' n' c') w' ∧ New (RowG e sz f) lo w' (.slice a' n' c') (xs ++ [y]) ∧ Below lo w w' ∧ (∀ b, b < w.heap.size → b ∉ v.ownBlock.toList → w'.heap[b]? = w.heap[b]?) := by
  obtain ⟨i, hi, hzz⟩ := Option.map_eq_some_iff.1 hinfo
  simp only [Prod.mk.injEq] at hzz
  obtain ⟨hz, hsz, hby⟩ := hzz
  obtain ⟨F, ⟨how, rfl⟩, hnd, hge⟩ := h0
  have hvlt : ∀ k, v.ownBlock = some k → lo ≤ k ∧ k < w.heap.size := fun k hk => ⟨hge k (by simp [hk]), (how.lt k hk).2⟩
  obtain ⟨v', w', hrun, how', hg, _, hat⟩ := run_append_own_at (P := P) w 0 t ty e i z sz bytes ht hi hz hsz hby hz1 L.pos v xs.length (xs.flatMap f) how ⟨bb, 0, none⟩ 1 c (f y) (by rw [L.len]; omega)
    (by
      intro j u' hj
      have e : (⟨bb, 0, none⟩ : Addr).add j = ⟨bb, j, none⟩ := by unfold Addr.add; split <;> simp_all
      rw [e]
      exact hcell j u' hj)
    (fun u hu => L.one y u hu) h63 hbytes (Nat.zero_le _)
  have hR : RowG e sz f w' v' (xs ++ [y]) v'.ownBlock.toList := ⟨by simpa [List.flatMap_append] using how', rfl⟩
  obtain ⟨a', c', rfl⟩ := hR.slice
  refine ⟨a', _, c', w', hrun, ⟨_, hR, by cases (Value.slice a' (xs ++ [y]).length c').ownBlock <;> simp, ?_⟩, Below.of_grown hg hlo (fun k hk => (hvlt k hk).1), fun b hb hn => hg.block b hb (fun e => hn (by rw [← e]; simp))⟩
  intro b hb
  have hb2 : (Value.slice a' (xs ++ [y]).length c').ownBlock = some b := by simpa using hb
  rcases hat with hat | hat
  · rw [hat] at hb2; exact (hvlt b hb2).1
  · rw [hat] at hb2; simp at hb2; omega
theorem New.storeLow {α : Type} {R : OwnRel α} (hR : Held R) {lo : Nat} {w : World} {v : Value} {x : α} (h : New R lo w v x) {p : Addr} (hp : p.block < lo) (u : Value) : New R lo (w.setCell p u) v x := by
  obtain ⟨F, hF, hn, hge⟩ := h
  exact ⟨F, hR.keep _ _ _ _ _ hF fun b hb => Below.heap_setCell _ _ _ _ (fun e => by have := hge b hb; omega), hn, hge⟩
theorem CellsI.other {w : World} {B m : Nat} {f : Nat → Int} (h : CellsI w B m f) {p : Addr} (hp : p.block ≠ B) (u : Value) : CellsI (w.setCell p u) B m f := fun j hj =>
  ⟨(World.cell?_setCell_other _ _ _ _ (by intro e; exact hp (by rw [e]))).trans (h j hj).1, (World.frozen?_setCell _ _ _ _).trans (h j hj).2⟩
theorem Bl.keep {w w' : World} {b lo : Nat} {l : List Bool} (h : Bl w b l) (hb : Below lo w w') (hlt : b < lo) : Bl w' b l :=
  ⟨Nat.lt_of_lt_of_le h.1 hb.size, fun i x hx => ⟨(hb.cell (p := ⟨b, i, none⟩) hlt).trans (h.2 i x hx).1, (hb.frozen (p := ⟨b, i, none⟩) hlt).trans (h.2 i x hx).2⟩⟩
/-- An own slice of bools by its cells. -/
theorem New.bl {e : TypeId} {lo : Nat} {w : World} {v : Value} {l : List Bool} (h : New (OwnOf e (OValR Value.bool)) lo w v l) (h0 : 0 < l.length) : ∃ b c, v = .slice (some ⟨b, 0, none⟩) l.length c ∧ l.length ≤ c ∧ lo ≤ b ∧ Bl w b l := by
  obtain ⟨b, c, hv, hc, hlo, hlt, _, _, _⟩ := h.val_at (fun _ => rfl) (List.getElem?_eq_getElem h0)
  refine ⟨b, c, hv, hc, hlo, hlt, fun i x hx => ?_⟩
  obtain ⟨b', c', hv', _, _, _, hcl, hfr, _⟩ := h.val_at (fun _ => rfl) hx
  have e : b' = b := by rw [hv] at hv'; simp at hv'; exact hv'.1.symm
  rw [e] at hcl hfr
  exact ⟨hcl, hfr⟩
/-- An own slice of numbers by its cells. -/
theorem New.cellsI {e : TypeId} {lo : Nat} {w : World} {v : Value} {xs : List Int} (h : New (OInts e) lo w v xs) (h0 : 0 < xs.length) : ∃ b c, v = .slice (some ⟨b, 0, none⟩) xs.length c ∧ xs.length ≤ c ∧ lo ≤ b ∧ b < w.heap.size ∧ CellsI w b xs.length (fun i => xs.getD i 0) := by
  obtain ⟨b, c, hv, hc, hlo, hlt, _, _, _⟩ := h.int_at (List.getElem?_eq_getElem h0)
  refine ⟨b, c, hv, hc, hlo, hlt, fun i hi => ?_⟩
  obtain ⟨b', c', hv', _, _, _, hcl, hfr, _⟩ := h.int_at (List.getElem?_eq_getElem hi)
  have e : b' = b := by rw [hv] at hv'; simp at hv'; exact hv'.1.symm
  rw [e] at hcl hfr
  refine ⟨?_, hfr⟩
  show _ = some (Value.int .i64 (xs.getD i 0))
  rw [hcl]
  simp [List.getD, List.getElem?_eq_getElem hi]
end Go.Sd
namespace Go.Proofs.Ytcilgihmaaobeaa
open Go.RowKit Go.Deep Go.Sd
def lkey (a : Arc3) : Int := a.1 * 64 + a.2.2 * 16 + a.2.1
/-- A valid graph has few arcs. -/
theorem isLab_len {l : Lb} (h : isLab l = true) : l.2.2.length ≤ 768 := by
  have ho := isLab_arcs h
  have hb := isLab_ok h
  unfold isLab at h
  rw [Bool.and_eq_true, Bool.and_eq_true] at h
  have hL : l.1.toNat ≤ 3 := by omega
  have hS : l.2.1.toNat ≤ 12 := by omega
  have step : ∀ k a b, l.2.2[k]? = some a → l.2.2[k + 1]? = some b → lkey a < lkey b := by
    intro k a b ha hb
    have e1 := allF_get h.2.2 (List.getElem?_eq_some_iff.1 hb).1
    unfold arcB at e1
    rw [Nat.add_sub_cancel, at3_of ha, at3_of hb] at e1
    simp only [Bool.and_eq_true, Bool.or_eq_true, decide_eq_true_eq, Nat.add_one_ne_zero, false_or] at e1
    have hb1 := e1.2
    unfold before at hb1
    have o1 := ho a (List.mem_of_getElem? ha)
    have o2 := ho b (List.mem_of_getElem? hb)
    unfold okArc at o1 o2
    unfold lkey
    by_cases c1 : a.1 = b.1
    · rw [if_neg (by simp [c1])] at hb1
      by_cases c2 : a.2.2 = b.2.2
      · rw [if_neg (by simp [c2]), decide_eq_true_eq] at hb1; omega
      · rw [if_pos c2, decide_eq_true_eq] at hb1; omega
    · rw [if_pos c1, decide_eq_true_eq] at hb1; omega
  have key : ∀ (k : Nat) (a : Arc3), l.2.2[k]? = some a → (k : Int) ≤ lkey a := by
    intro k
    induction k with
    | zero =>
      intro a ha
      have o1 := ho a (List.mem_of_getElem? ha)
      unfold okArc at o1
      unfold lkey
      omega
    | succ k ih =>
      intro a ha
      have hk := (List.getElem?_eq_some_iff.1 ha).1
      have h1 := ih _ (List.getElem?_eq_getElem (show k < l.2.2.length by omega))
      have h2 := step k _ a (List.getElem?_eq_getElem (show k < l.2.2.length by omega)) ha
      omega
  by_cases h0 : l.2.2.length = 0
  · omega
  · have hk : l.2.2.length - 1 < l.2.2.length := by omega
    have h1 := key (l.2.2.length - 1) _ (List.getElem?_eq_getElem hk)
    have o1 := ho _ (List.getElem_mem hk)
    unfold okArc at o1
    unfold lkey at h1
    omega
end Go.Proofs.Ytcilgihmaaobeaa
end

section
/-
  The reference's l14Keep: some states of a labelled graph only.
-/
namespace Go.Proofs.Ytcilgihmaaobeaa
open Go.RowKit Go.Deep Go.Sd
theorem _root_.Go.Sd.OIntR.zero' : ∀ w : World, OIntR w (.int .i64 0) 0 [] := fun _ => ⟨rfl, rfl⟩
def nf (l : List Bool) (k i : Nat) : Int := if i < k ∧ l.getD i false = true then (nm l i : Int) else 0
theorem nf_skip {l : List Bool} {k : Nat} (h : l[k]? = some false) (j : Nat) : nf l (k + 1) j = nf l k j := by
  unfold nf
  by_cases e : j = k
  · subst e
    have : l.getD j false = false := by simp [List.getD, h]
    rw [this, if_neg (by simp), if_neg (by simp)]
  · by_cases h2 : j < k
    · simp [h2, Nat.lt_succ_of_lt h2]
    · rw [if_neg (by omega), if_neg (by omega)]
theorem nf_take {l : List Bool} {k : Nat} (h : l[k]? = some true) (j : Nat) : (if j = k then (nm l k : Int) else nf l k j) = nf l (k + 1) j := by
  unfold nf
  by_cases e : j = k
  · subst e
    rw [if_pos rfl, if_pos ⟨by omega, by simp [List.getD, h]⟩]
  · rw [if_neg e]
    by_cases h2 : j < k
    · simp [h2, Nat.lt_succ_of_lt h2]
    · rw [if_neg (by omega), if_neg (by omega)]
theorem nf_end {l : List Bool} {i : Nat} (h : l[i]? = some true) : nf l l.length i = (nm l i : Int) := by
  have hi := (List.getElem?_eq_some_iff.1 h).1
  unfold nf
  rw [if_pos ⟨hi, by simp [List.getD, h]⟩]
set_option maxHeartbeats 4000000 in
set_option maxRecDepth 100000 in
theorem l14Keep_c {w : World} {v vb : Value} {l : Lb} {bs : List Bool} (h : LabR w v l) (hbs : SlOf (ValR Value.bool) w vb bs) (hok : isLab l = true) (hbl : bs.length = l.2.1.toNat) :
    Calls Try.prog 59 #[v, vb] w (Makes OLab w (keepV l bs)) := by
  obtain ⟨ho, hS1, hS2, _, _⟩ := isLab_ok hok
  have hlen768 := isLab_len hok
  clear hok
  obtain ⟨L, S, xs⟩ := l
  obtain ⟨va, rfl, hlen, a, c, rfl, hac, _, _, hcell⟩ := h
  simp only at *
  obtain ⟨p, rfl⟩ := Int.eq_ofNat_of_zero_le (show 0 ≤ S by omega)
  rw [show ((p : Int)).toNat = p from rfl] at hbl
  obtain ⟨ba, bc, rfl, _, _, hbc⟩ := hbs.shape
  obtain ⟨bb, bo, rfl, hbb, hbx⟩ := hbc (by omega)
  clear hbs hbc
  rw [hbl]
  have Hbx := Lib.hid (fun i x (hi : bs[i]? = some x) => (show w.cell? ⟨bb, bo + i, none⟩ = some (.bool x) from by obtain ⟨u, hu, rfl⟩ := hbx i x hi; exact hu))
  have Hbl := Lib.hid hbl
  generalize hn : xs.length = n at *
  have Hn := Lib.hid hn.symm
  have Ho := Lib.hid ho
  clear hn ho hbx hbl
  obtain ⟨wA, eA, hA0⟩ : ∃ wA, wA = (w.alloc (.cells #[.int .i64 L, .int .i64 p, .slice a n c] 26)).alloc (.cells #[.int .i64 0, .int .i64 0, .slice none 0 0] 26) ∧ Below w.heap.size w wA := ⟨_, rfl, ((Below.refl _ _).alloc (Nat.le_refl _) _).alloc (by simp) _⟩
  have zA : wA.heap.size = w.heap.size + 1 + 1 := by rw [eA]; simp
  have l0 : wA.cell? ⟨w.heap.size, 0, none⟩ = some (.int .i64 L) := by rw [eA]; simp [go_sem]
  have l1 : wA.cell? ⟨w.heap.size, 1, none⟩ = some (.int .i64 p) := by rw [eA]; simp [go_sem]
  have l2 : wA.cell? ⟨w.heap.size, 2, none⟩ = some (.slice a n c) := by rw [eA]; simp [go_sem]
  have R0 := Lib.hid (show wA.cell? ⟨w.heap.size + 1, 0, none⟩ = some (.int .i64 0) from by rw [eA]; simp [go_sem])
  have R1 := Lib.hid (show wA.cell? ⟨w.heap.size + 1, 1, none⟩ = some (.int .i64 0) from by rw [eA]; simp [go_sem])
  have R2 := Lib.hid (show wA.cell? ⟨w.heap.size + 1, 2, none⟩ = some (.slice none 0 0) from by rw [eA]; simp [go_sem])
  have F0 := Lib.hid (show wA.frozen? ⟨w.heap.size + 1, 0, none⟩ = false from by rw [eA]; simp [go_sem])
  have F1 := Lib.hid (show wA.frozen? ⟨w.heap.size + 1, 1, none⟩ = false from by rw [eA]; simp [go_sem])
  have F2 := Lib.hid (show wA.frozen? ⟨w.heap.size + 1, 2, none⟩ = false from by rw [eA]; simp [go_sem])
  have L1 := Lib.hid l1
  have L2 := Lib.hid l2
  have HA := Lib.hid hA0
  have eW := eA.symm
  have hp0 : 0 < p := by omega
  clear eA hA0 l2
  go_enter Try.func59, Try.ntmps59
  go_wp2_with (first
    | (at_make; go_loud (refine wpl_make (R := OIntR) rfl (.tmp 11) (.tmp 11) 54 rfl 3 (.int .i64 0) 8 Try.underlying54 infoI rfl p (by rfl) (by rfl) (by omega) (by omega) OIntR.zero' ?_; intro wm hzm hnm hbm; have Hnm := Lib.hid hnm; have Hbm := Lib.hid hbm; have l0 := (hbm.cell (p := ⟨w.heap.size, 0, none⟩) (show w.heap.size < wA.heap.size by omega)).trans l0; have l1 := (hbm.cell (p := ⟨w.heap.size, 1, none⟩) (show w.heap.size < wA.heap.size by omega)).trans l1; clear eW hnm hbm))
    | fail)
  obtain ⟨wB, eB, hbB, o0, o1, o2, mB⟩ := boxA3_ex wm 26 (.int .i64 L) (.int .i64 0) (.slice none 0 0)
  have f1 : wB.frozen? ⟨wm.heap.size, 1, none⟩ = false := by rw [← eB]; simp [go_sem]
  have f2 : wB.frozen? ⟨wm.heap.size, 2, none⟩ = false := by rw [← eB]; simp [go_sem]
  rw [hzm, zA] at o0 o1 o2 f1 f2 mB
  rw [eB]
  have HC0 := Lib.hid (show CellsI wB (w.heap.size + 1 + 1) p (nf bs 0) from by
    obtain ⟨b', c', hv, _, _, hlt, hc⟩ := Hnm.out.cellsI (by simp; exact hp0)
    have hv1 := congrArg Value.ownBlock hv
    simp only [Value.ownBlock, Option.some.injEq] at hv1
    have e : b' = wA.heap.size := hv1.symm
    subst e
    rw [List.length_replicate] at hc
    rw [← zA]
    exact (hc.congr (fun j hj => by simp [nf, List.getD, hj])).keep hbB hlt)
  have HB0 := Lib.hid (show Below (w.heap.size + 1 + 1) wA wB from by rw [← zA]; exact Hbm.out.trans (hbB.mono (by omega)))
  have O1 := Lib.hid (show wB.cell? ⟨w.heap.size + 1 + 1 + 1, 1, none⟩ = some (.int .i64 (nm bs 0 : Int)) from by rw [nm_zero]; exact o1)
  clear Hnm Hbm hbB eB hzm zA l0 l1 o1
  go_loopg [7] p (fun g i wr => ∃ (k : Nat), i = .int .i64 k ∧ k + g = p ∧ Hid (CellsI wr (w.heap.size + 1 + 1) p (nf bs k)) ∧ wr.cell? ⟨w.heap.size + 1 + 1 + 1, 0, none⟩ = some (.int .i64 L) ∧ wr.cell? ⟨w.heap.size + 1 + 1 + 1, 1, none⟩ = some (.int .i64 (nm bs k : Int)) ∧ wr.cell? ⟨w.heap.size + 1 + 1 + 1, 2, none⟩ = some (.slice none 0 0) ∧ wr.frozen? ⟨w.heap.size + 1 + 1 + 1, 1, none⟩ = false ∧ wr.frozen? ⟨w.heap.size + 1 + 1 + 1, 2, none⟩ = false ∧ w.heap.size + 1 + 1 + 1 < wr.heap.size ∧ Hid (Below (w.heap.size + 1 + 1) wA wr))
  case atStart => exact ⟨0, rfl, by omega, HC0, o0, O1.out, o2, f1, f2, mB, HB0⟩
  case round =>
    obtain ⟨k, rfl, hk, hc, o0, o1, o2, f1, f2, mB, hbel⟩ := hrel
    clear HC0 HB0 O1
    have l1 := (hbel.out.cell (p := ⟨w.heap.size, 1, none⟩) (show w.heap.size < w.heap.size + 1 + 1 by omega)).trans L1.out
    have hnk : (nm bs k : Int) ≤ 12 := by have := nm_le bs k; have := cntT_le (l := bs); have := Hbl.out; omega
    by_cases hlt : k < p
    · obtain ⟨d, hd, _⟩ := at_lt (xs := bs) (k := k) (by have := Hbl.out; omega)
      have hbd := (hbel.out.cell (p := ⟨bb, bo + k, none⟩) (show bb < w.heap.size + 1 + 1 by omega)).trans ((HA.out.cell (p := ⟨bb, bo + k, none⟩) hbb).trans (Hbx.out k d hd))
      have hkp : (k : Int) < (p : Int) := by omega
      cases d with
      | false =>
        have HN := Lib.hid (show CellsI wr (w.heap.size + 1 + 1) p (nf bs (k + 1)) from hc.out.congr fun j _ => (nf_skip hd j).symm)
        have O1 := Lib.hid (show wr.cell? ⟨w.heap.size + 1 + 1 + 1, 1, none⟩ = some (.int .i64 (nm bs (k + 1) : Int)) from by rw [nm_succ hd]; simpa using o1)
        clear hc hd
        go_wp2
        go_roundg (p - (k + 1))
        case measure => omega
        case rel => exact ⟨k + 1, by go_num, by omega, HN, o0, O1.out, o2, f1, f2, mB, hbel⟩
      | true =>
        obtain ⟨n1, n2⟩ := hc.out k hlt
        have HN := Lib.hid (show CellsI ((wr.setCell ⟨w.heap.size + 1 + 1, k, none⟩ (.int .i64 (nm bs k))).setCell ⟨w.heap.size + 1 + 1 + 1, 1, none⟩ (.int .i64 ((nm bs k : Int) + 1))) (w.heap.size + 1 + 1) p (nf bs (k + 1)) from
          ((hc.out.set hlt (nm bs k : Int)).congr fun j _ => nf_take hd j).other (by simp) _)
        have o1' := (World.cell?_setCell_other wr ⟨w.heap.size + 1 + 1, k, none⟩ ⟨w.heap.size + 1 + 1 + 1, 1, none⟩ (.int .i64 (nm bs k)) (by simp)).trans o1
        have O1 := Lib.hid (show ((wr.setCell ⟨w.heap.size + 1 + 1, k, none⟩ (.int .i64 (nm bs k))).setCell ⟨w.heap.size + 1 + 1 + 1, 1, none⟩ (.int .i64 ((nm bs k : Int) + 1))).cell? ⟨w.heap.size + 1 + 1 + 1, 1, none⟩ = some (.int .i64 (nm bs (k + 1) : Int)) from by rw [nm_succ hd]; simpa using World.cell?_setCell_same _ _ (.int .i64 ((nm bs k : Int) + 1)) o1')
        have O0 := Lib.hid ((World.cell?_setCell_other (wr.setCell ⟨w.heap.size + 1 + 1, k, none⟩ (.int .i64 (nm bs k))) ⟨w.heap.size + 1 + 1 + 1, 1, none⟩ ⟨w.heap.size + 1 + 1 + 1, 0, none⟩ (.int .i64 ((nm bs k : Int) + 1)) (by simp)).trans ((World.cell?_setCell_other wr ⟨w.heap.size + 1 + 1, k, none⟩ ⟨w.heap.size + 1 + 1 + 1, 0, none⟩ (.int .i64 (nm bs k)) (by simp)).trans o0))
        have O2 := Lib.hid ((World.cell?_setCell_other (wr.setCell ⟨w.heap.size + 1 + 1, k, none⟩ (.int .i64 (nm bs k))) ⟨w.heap.size + 1 + 1 + 1, 1, none⟩ ⟨w.heap.size + 1 + 1 + 1, 2, none⟩ (.int .i64 ((nm bs k : Int) + 1)) (by simp)).trans ((World.cell?_setCell_other wr ⟨w.heap.size + 1 + 1, k, none⟩ ⟨w.heap.size + 1 + 1 + 1, 2, none⟩ (.int .i64 (nm bs k)) (by simp)).trans o2))
        have FF1 := Lib.hid (show ((wr.setCell ⟨w.heap.size + 1 + 1, k, none⟩ (.int .i64 (nm bs k))).setCell ⟨w.heap.size + 1 + 1 + 1, 1, none⟩ (.int .i64 ((nm bs k : Int) + 1))).frozen? ⟨w.heap.size + 1 + 1 + 1, 1, none⟩ = false from by rw [World.frozen?_setCell, World.frozen?_setCell]; exact f1)
        have FF2 := Lib.hid (show ((wr.setCell ⟨w.heap.size + 1 + 1, k, none⟩ (.int .i64 (nm bs k))).setCell ⟨w.heap.size + 1 + 1 + 1, 1, none⟩ (.int .i64 ((nm bs k : Int) + 1))).frozen? ⟨w.heap.size + 1 + 1 + 1, 2, none⟩ = false from by rw [World.frozen?_setCell, World.frozen?_setCell]; exact f2)
        have HB := Lib.hid ((hbel.out.setCell (p := ⟨w.heap.size + 1 + 1, k, none⟩) (Nat.le_refl _) (.int .i64 (nm bs k))).setCell (p := ⟨w.heap.size + 1 + 1 + 1, 1, none⟩) (by simp) (.int .i64 ((nm bs k : Int) + 1)))
        have MB := Lib.hid mB
        have hq0 : (0 : Int) ≤ (nm bs k : Int) := Int.natCast_nonneg _
        generalize hq : (nm bs k : Int) = q at *
        clear hc hd hq hbel
        go_wp2
        go_roundg (p - (k + 1))
        case measure => omega
        case rel => exact ⟨k + 1, by go_num, by omega, HN, O0.out, O1.out, O2.out, FF1.out, FF2.out, by simp; exact MB.out, HB⟩
    · obtain rfl : k = p := by omega
      clear hk hlt
      have HCn := Lib.hid (show nm bs k = cntT bs from by have := nm_all bs; rw [Hbl.out] at this; exact this)
      rw [HCn.out] at o1 hnk
      generalize hct : cntT bs = ct at *
      have Hct := Lib.hid hct
      have HN0 := Lib.hid (show New (RowA 59) (w.heap.size + 1 + 1 + 1 + 1) wr (.slice none 0 0) (trimA bs (xs.take 0)) from RowG.nil)
      clear hct HCn
      go_wp2
      go_loopg [8] n (fun g i wr => ∃ (j : Nat) (ya : Option Addr) (yn yc : Nat), i = .int .i64 j ∧ j + g = n ∧ Hid (CellsI wr (w.heap.size + 1 + 1) k (nf bs k)) ∧ wr.cell? ⟨w.heap.size + 1 + 1 + 1, 0, none⟩ = some (.int .i64 L) ∧ wr.cell? ⟨w.heap.size + 1 + 1 + 1, 1, none⟩ = some (.int .i64 (ct : Int)) ∧ wr.cell? ⟨w.heap.size + 1 + 1 + 1, 2, none⟩ = some (.slice ya yn yc) ∧ wr.frozen? ⟨w.heap.size + 1 + 1 + 1, 2, none⟩ = false ∧ w.heap.size + 1 + 1 + 1 < wr.heap.size ∧ Hid (New (RowA 59) (w.heap.size + 1 + 1 + 1 + 1) wr (.slice ya yn yc) (trimA bs (xs.take j))) ∧ Hid (Below (w.heap.size + 1 + 1) wA wr))
      case atStart => exact ⟨0, none, 0, 0, rfl, by omega, hc, o0, o1, o2, f2, mB, HN0, hbel⟩
      case round =>
        clear hc o0 o1 o2 f1 f2 mB HN0 hbel l1
        obtain ⟨j, ya, yn, yc, rfl, hj, hc, o0, o1, o2, f2, mB, hnew, hbel⟩ := hrel
        obtain ⟨wk, rfl⟩ : ∃ x, x = wr := ⟨_, rfl⟩
        have l2 := (hbel.out.cell (p := ⟨w.heap.size, 2, none⟩) (show w.heap.size < w.heap.size + 1 + 1 by omega)).trans L2.out
        by_cases hltj : j < n
        · obtain ⟨x, hx, _⟩ := at_lt (xs := xs) (k := j) (by have := Hn.out; omega)
          have HT := Lib.hid (show xs.take (j + 1) = xs.take j ++ [x] from (take_snoc' hx).symm)
          obtain ⟨b, o, rfl, hb, hx0⟩ := hcell (by omega)
          obtain ⟨g0, g1, g2⟩ := hx0 j x hx
          obtain ⟨i0, i1, i2, i3⟩ := okArcs_at Ho.out hx
          clear hx0 hx hcell
          obtain ⟨x0, x1, x2⟩ := x
          simp only at g0 g1 g2 i0 i1 i2 i3
          obtain ⟨p0, rfl⟩ := Int.eq_ofNat_of_zero_le i0
          obtain ⟨p1, rfl⟩ := Int.eq_ofNat_of_zero_le i2
          have hq0 : p0 < k := by omega
          have hq1 : p1 < k := by omega
          have hk0 : (p0 : Int) < (k : Int) := by omega
          have hk1 : (p1 : Int) < (k : Int) := by omega
          have hkn : (j : Int) < (n : Int) := by omega
          have up : ∀ (o : Nat) (b' : Nat) u, b' < w.heap.size → w.cell? ⟨b', o, none⟩ = some u → wk.cell? ⟨b', o, none⟩ = some u := fun o b' u hb' hu => (hbel.out.cell (p := ⟨b', o, none⟩) (show b' < w.heap.size + 1 + 1 by omega)).trans ((HA.out.cell (p := ⟨b', o, none⟩) hb').trans hu)
          replace g0 := up _ _ _ hb g0
          replace g1 := up _ _ _ hb g1
          replace g2 := up _ _ _ hb g2
          obtain ⟨d0, hd0, _⟩ := at_lt (xs := bs) (k := p0) (by have := Hbl.out; omega)
          obtain ⟨d1, hd1, _⟩ := at_lt (xs := bs) (k := p1) (by have := Hbl.out; omega)
          have e0 := up _ _ _ hbb (Hbx.out p0 d0 hd0)
          have e1 := up _ _ _ hbb (Hbx.out p1 d1 hd1)
          have HK := Lib.hid (show kept bs ((p0 : Int), (p1 : Int), x2) = (d0 && d1) from by unfold kept; simp [List.getD, hd0, hd1])
          have hKn := trimA_snoc bs (xs.take j) ((p0 : Int), (p1 : Int), x2)
          rw [← HT.out, HK.out] at hKn
          have HKn := Lib.hid hKn
          obtain ⟨n0, n0f⟩ := hc.out p0 hq0
          obtain ⟨n1, n1f⟩ := hc.out p1 hq1
          have HR := Lib.hid (fun (h0 : d0 = true) (h1 : d1 = true) => (show renA bs ((p0 : Int), (p1 : Int), x2) = (nf bs k p0, nf bs k p1, x2) from by
            subst h0 h1
            unfold renA
            rw [← Hbl.out, nf_end hd0, nf_end hd1]; rfl))
          clear up HT hKn HK hd0 hd1
          obtain ⟨w1, ex, hb1, q0, q1, q2, m1⟩ := boxA3_ex wk 59 (.int .i64 p0) (.int .i64 p1) (.int .i64 x2)
          have hz1 := hb1.size
          have hzb := hbel.out.size
          have bbk : bb < wk.heap.size := by omega
          replace e0 := (hb1.cell (p := ⟨bb, bo + p0, none⟩) bbk).trans e0
          replace e1 := (hb1.cell (p := ⟨bb, bo + p1, none⟩) bbk).trans e1
          replace o0 := (hb1.cell (p := ⟨w.heap.size + 1 + 1 + 1, 0, none⟩) mB).trans o0
          replace o1 := (hb1.cell (p := ⟨w.heap.size + 1 + 1 + 1, 1, none⟩) mB).trans o1
          replace o2 := (hb1.cell (p := ⟨w.heap.size + 1 + 1 + 1, 2, none⟩) mB).trans o2
          replace f2 := (hb1.frozen (p := ⟨w.heap.size + 1 + 1 + 1, 2, none⟩) mB).trans f2
          have mN : w.heap.size + 1 + 1 < wk.heap.size := by omega
          replace n0 := (hb1.cell (p := ⟨w.heap.size + 1 + 1, p0, none⟩) mN).trans n0
          replace n1 := (hb1.cell (p := ⟨w.heap.size + 1 + 1, p1, none⟩) mN).trans n1
          replace hc := Lib.hid (hc.out.keep hb1 mN)
          have HAF := Lib.hid (show wk.heap.size ∉ (Value.slice ya yn yc).ownBlock.toList from by
            obtain ⟨F, hF, _⟩ := hnew.out
            intro hm
            have h1 := RowG.held.lt _ _ _ _ hF wk.heap.size (by rw [hF.2]; exact hm)
            omega)
          replace hnew := Lib.hid (((hnew.out.inn RowG.held).keep RowG.held hb1 (Nat.le_refl _)).new)
          have mBk := mB
          replace mB := Nat.lt_of_lt_of_le mB hz1
          have HB1 := Lib.hid (hbel.out.trans (hb1.mono (by omega)))
          by_cases hdd : d0 = true ∧ d1 = true
          · obtain ⟨rfl, rfl⟩ := hdd
            obtain ⟨Y0, hY0⟩ : ∃ y, y = nf bs k p0 := ⟨_, rfl⟩
            obtain ⟨Y1, hY1⟩ : ∃ y, y = nf bs k p1 := ⟨_, rfl⟩
            have HN := Lib.hid (show trimA bs (xs.take (j + 1)) = trimA bs (xs.take j) ++ [(Y0, Y1, x2)] from by rw [HKn.out, if_pos (by rfl), HR.out rfl rfl, hY0, hY1])
            rw [← hY0] at n0
            rw [← hY1] at n1
            have hl1 := Lib.hid (show (trimA bs (xs.take j)).length ≤ 768 from Nat.le_trans (trimA_len bs (xs.take j)) (by rw [List.length_take]; omega))
            have HP := Lib.hid (show ∀ W : World, Below w1.heap.size w1 W → W.cell? ⟨w1.heap.size, 0, none⟩ = some (.int .i64 Y0) → W.cell? ⟨w1.heap.size, 1, none⟩ = some (.int .i64 Y1) → W.cell? ⟨w1.heap.size, 2, none⟩ = some (.int .i64 x2) →
                ∃ a' n' c' w2, (Builtin.append_ #[24, 24] 24 #[.slice ya yn yc, .slice (some ⟨w1.heap.size, 0, none⟩) 1 1]).run Try.prog W = .ok (.slice a' n' c') w2 ∧ w2.cell? ⟨w.heap.size + 1 + 1 + 1, 2, none⟩ = some (.slice ya yn yc) ∧ w2.frozen? ⟨w.heap.size + 1 + 1 + 1, 2, none⟩ = false ∧ (w2.cell? ⟨wk.heap.size, 0, none⟩ = some (.int .i64 p0) ∧ w2.cell? ⟨wk.heap.size, 1, none⟩ = some (.int .i64 p1) ∧ w2.cell? ⟨wk.heap.size, 2, none⟩ = some (.int .i64 x2) ∧ w2.cell? ⟨w.heap.size + 1 + 1, p0, none⟩ = some (.int .i64 Y0) ∧ w2.cell? ⟨w.heap.size + 1 + 1, p1, none⟩ = some (.int .i64 Y1) ∧ w2.cell? ⟨w.heap.size + 1 + 1 + 1, 2, none⟩ = some (.slice ya yn yc)) ∧
                  Hid (CellsI (w2.setCell ⟨w.heap.size + 1 + 1 + 1, 2, none⟩ (.slice a' n' c')) (w.heap.size + 1 + 1) k (nf bs k) ∧ (w2.setCell ⟨w.heap.size + 1 + 1 + 1, 2, none⟩ (.slice a' n' c')).cell? ⟨w.heap.size + 1 + 1 + 1, 0, none⟩ = some (.int .i64 L) ∧ (w2.setCell ⟨w.heap.size + 1 + 1 + 1, 2, none⟩ (.slice a' n' c')).cell? ⟨w.heap.size + 1 + 1 + 1, 1, none⟩ = some (.int .i64 (ct : Int)) ∧ (w2.setCell ⟨w.heap.size + 1 + 1 + 1, 2, none⟩ (.slice a' n' c')).cell? ⟨w.heap.size + 1 + 1 + 1, 2, none⟩ = some (.slice a' n' c') ∧ (w2.setCell ⟨w.heap.size + 1 + 1 + 1, 2, none⟩ (.slice a' n' c')).frozen? ⟨w.heap.size + 1 + 1 + 1, 2, none⟩ = false ∧ w.heap.size + 1 + 1 + 1 < (w2.setCell ⟨w.heap.size + 1 + 1 + 1, 2, none⟩ (.slice a' n' c')).heap.size ∧
                    New (RowA 59) (w.heap.size + 1 + 1 + 1 + 1) (w2.setCell ⟨w.heap.size + 1 + 1 + 1, 2, none⟩ (.slice a' n' c')) (.slice a' n' c') (trimA bs (xs.take (j + 1))) ∧ Below (w.heap.size + 1 + 1) wA (w2.setCell ⟨w.heap.size + 1 + 1 + 1, 2, none⟩ (.slice a' n' c'))) from by
              intro W hW k0 k1 k2
              have hWz := hW.size
              have hnW := ((hnew.out.inn RowG.held).keep RowG.held hW (Nat.le_refl _)).new
              obtain ⟨a', n', c', w2, hr, hn2, hb2, hk2⟩ := New.rowRun (P := Try.prog) acell_lay 24 24 (.agg #[.int .i64 0, .int .i64 0, .int .i64 0]) 24 Try.underlying24 infoA rfl hnW (by omega) (Y0, Y1, x2) 1
                (by
                  intro i u hu
                  match i, hu with
                  | 0, hu => simp [acell] at hu; subst hu; exact k0
                  | 1, hu => simp [acell] at hu; subst hu; exact k1
                  | 2, hu => simp [acell] at hu; subst hu; exact k2) (by have := hl1.out; omega) (by have := hl1.out; omega)
              have lw : w.heap.size + 1 + 1 + 1 < w.heap.size + 1 + 1 + 1 + 1 := by omega
              have j0 := (hb2.cell (p := ⟨w.heap.size + 1 + 1 + 1, 0, none⟩) lw).trans ((hW.cell (p := ⟨w.heap.size + 1 + 1 + 1, 0, none⟩) mB).trans o0)
              have j1 := (hb2.cell (p := ⟨w.heap.size + 1 + 1 + 1, 1, none⟩) lw).trans ((hW.cell (p := ⟨w.heap.size + 1 + 1 + 1, 1, none⟩) mB).trans o1)
              have j2 := (hb2.cell (p := ⟨w.heap.size + 1 + 1 + 1, 2, none⟩) lw).trans ((hW.cell (p := ⟨w.heap.size + 1 + 1 + 1, 2, none⟩) mB).trans o2)
              have jf := (hb2.frozen (p := ⟨w.heap.size + 1 + 1 + 1, 2, none⟩) lw).trans ((hW.frozen (p := ⟨w.heap.size + 1 + 1 + 1, 2, none⟩) mB).trans f2)
              have hz2 := hb2.size
              rw [HN.out]
              have hA2 : ∀ (o : Nat) u, w1.cell? ⟨wk.heap.size, o, none⟩ = some u → w2.cell? ⟨wk.heap.size, o, none⟩ = some u := fun o u hu => by
                have h1 := hk2 wk.heap.size (Nat.lt_of_lt_of_le m1 hWz) HAF.out
                rw [← hu, ← hW.cell (p := ⟨wk.heap.size, o, none⟩) m1]
                simp only [World.cell?, h1]
              have hN2 : ∀ (o : Nat) u, w1.cell? ⟨w.heap.size + 1 + 1, o, none⟩ = some u → w2.cell? ⟨w.heap.size + 1 + 1, o, none⟩ = some u := fun o u hu => (hb2.cell (p := ⟨w.heap.size + 1 + 1, o, none⟩) (show w.heap.size + 1 + 1 < w.heap.size + 1 + 1 + 1 + 1 by omega)).trans ((hW.cell (p := ⟨w.heap.size + 1 + 1, o, none⟩) (show w.heap.size + 1 + 1 < w1.heap.size by omega)).trans hu)
              refine ⟨a', n', c', w2, hr, j2, jf, ⟨hA2 _ _ q0, hA2 _ _ q1, hA2 _ _ q2, hN2 _ _ n0, hN2 _ _ n1, j2⟩, Lib.hid ⟨((hc.out.keep hW (by omega)).keep hb2 (by omega)).other (by simp) _, (World.cell?_setCell_other _ _ _ _ (by simp)).trans j0, (World.cell?_setCell_other _ _ _ _ (by simp)).trans j1, World.cell?_setCell_same _ _ _ j2, (World.frozen?_setCell _ _ _ _).trans jf, by simp; omega, ?_, ?_⟩⟩
              · exact New.storeLow RowG.held hn2 (by simp) _
              · exact ((HB1.out.trans (hW.mono (by omega))).trans (hb2.mono (by omega))).setCell (by simp) _)
            have K0 : ((w1.alloc (.cells #[.int .i64 Y0, .int .i64 Y1, .int .i64 x2] 59)).drew).cell? ⟨w1.heap.size, 0, none⟩ = some (.int .i64 Y0) := by simp [go_sem]
            have K1 : ((w1.alloc (.cells #[.int .i64 Y0, .int .i64 Y1, .int .i64 x2] 59)).drew).cell? ⟨w1.heap.size, 1, none⟩ = some (.int .i64 Y1) := by simp [go_sem]
            have K2 : ((w1.alloc (.cells #[.int .i64 Y0, .int .i64 Y1, .int .i64 x2] 59)).drew).cell? ⟨w1.heap.size, 2, none⟩ = some (.int .i64 x2) := by simp [go_sem]
            obtain ⟨a', n', c', w2, hr, hc2, hf2, hS2, hst⟩ := HP.out ((w1.alloc (.cells #[.int .i64 Y0, .int .i64 Y1, .int .i64 x2] 59)).drew) (((Below.refl _ _).alloc (Nat.le_refl _) _).drew) K0 K1 K2
            have Hr := Lib.hid hr
            have hSd : w1.drew.cell? ⟨wk.heap.size, 0, none⟩ = some (.int .i64 p0) ∧ w1.drew.cell? ⟨wk.heap.size, 1, none⟩ = some (.int .i64 p1) ∧ w1.drew.cell? ⟨wk.heap.size, 2, none⟩ = some (.int .i64 x2) ∧ w1.drew.cell? ⟨w.heap.size + 1 + 1, p0, none⟩ = some (.int .i64 Y0) ∧ w1.drew.cell? ⟨w.heap.size + 1 + 1, p1, none⟩ = some (.int .i64 Y1) ∧ w1.drew.cell? ⟨w.heap.size + 1 + 1 + 1, 2, none⟩ = some (.slice ya yn yc) := ⟨q0, q1, q2, n0, n1, o2⟩
            have hS1 : ((w1.alloc (.cells #[.int .i64 Y0, .int .i64 Y1, .int .i64 x2] 59)).drew).cell? ⟨wk.heap.size, 0, none⟩ = some (.int .i64 p0) ∧ ((w1.alloc (.cells #[.int .i64 Y0, .int .i64 Y1, .int .i64 x2] 59)).drew).cell? ⟨wk.heap.size, 1, none⟩ = some (.int .i64 p1) ∧ ((w1.alloc (.cells #[.int .i64 Y0, .int .i64 Y1, .int .i64 x2] 59)).drew).cell? ⟨wk.heap.size, 2, none⟩ = some (.int .i64 x2) ∧ ((w1.alloc (.cells #[.int .i64 Y0, .int .i64 Y1, .int .i64 x2] 59)).drew).cell? ⟨w.heap.size + 1 + 1, p0, none⟩ = some (.int .i64 Y0) ∧ ((w1.alloc (.cells #[.int .i64 Y0, .int .i64 Y1, .int .i64 x2] 59)).drew).cell? ⟨w.heap.size + 1 + 1, p1, none⟩ = some (.int .i64 Y1) ∧ ((w1.alloc (.cells #[.int .i64 Y0, .int .i64 Y1, .int .i64 x2] 59)).drew).cell? ⟨w.heap.size + 1 + 1 + 1, 2, none⟩ = some (.slice ya yn yc) := by
              have hb3 := (((Below.refl w1.heap.size w1).alloc (Nat.le_refl _) (.cells #[.int .i64 Y0, .int .i64 Y1, .int .i64 x2] 59)).drew)
              exact ⟨(hb3.cell (p := ⟨wk.heap.size, 0, none⟩) m1).trans q0, (hb3.cell (p := ⟨wk.heap.size, 1, none⟩) m1).trans q1, (hb3.cell (p := ⟨wk.heap.size, 2, none⟩) m1).trans q2, (hb3.cell (p := ⟨w.heap.size + 1 + 1, p0, none⟩) (show w.heap.size + 1 + 1 < w1.heap.size by omega)).trans n0, (hb3.cell (p := ⟨w.heap.size + 1 + 1, p1, none⟩) (show w.heap.size + 1 + 1 < w1.heap.size by omega)).trans n1, (hb3.cell (p := ⟨w.heap.size + 1 + 1 + 1, 2, none⟩) mB).trans o2⟩
            clear HKn HR hnew hbel hb1 HN hY0 hY1 hc HB1 K0 K1 K2 HP hr HAF
            go_wp2
            clear ex
            refine wp_region_L (fun w' => w'.cell? ⟨wk.heap.size, 0, none⟩ = some (.int .i64 p0) ∧ w'.cell? ⟨wk.heap.size, 1, none⟩ = some (.int .i64 p1) ∧ w'.cell? ⟨wk.heap.size, 2, none⟩ = some (.int .i64 x2) ∧ w'.cell? ⟨w.heap.size + 1 + 1, p0, none⟩ = some (.int .i64 Y0) ∧ w'.cell? ⟨w.heap.size + 1 + 1, p1, none⟩ = some (.int .i64 Y1) ∧ w'.cell? ⟨w.heap.size + 1 + 1 + 1, 2, none⟩ = some (.slice ya yn yc)) (by kernel_rfl) ?_
            refine wpAnyL_take 0 (v := ?_) rfl (by kernel_rfl) (by kernel_rfl) (by kernel_rfl) (by kernel_rfl) (fun _ _ _ h => h) (Or.inl ⟨by rfl, ?_⟩) hSd ?_
            rotate_left
            · (intro w hSw; (try dsimp only at hSw); go_simp) <;> (try with_reducible rfl)
            try simp only [Act.put, List.setIfInBounds_toArray, List.set_cons_zero, List.set_cons_succ]
            refine wpAnyL_take 1 (v := ?_) rfl (by kernel_rfl) (by kernel_rfl) (by kernel_rfl) (by kernel_rfl) (fun _ _ _ h => h) (Or.inl ⟨by rfl, ?_⟩) hSd ?_
            rotate_left
            · (intro w hSw; (try dsimp only at hSw); go_simp) <;> (try with_reducible rfl)
            try simp only [Act.put, List.setIfInBounds_toArray, List.set_cons_zero, List.set_cons_succ]
            refine wpAnyL_take 2 (v := ?_) rfl (by kernel_rfl) (by kernel_rfl) (by kernel_rfl) (by kernel_rfl) (fun _ _ _ h => h) (Or.inl ⟨by rfl, ?_⟩) hSd ?_
            rotate_left
            · (intro w hSw; (try dsimp only at hSw); go_simp) <;> (try with_reducible rfl)
            try simp only [Act.put, List.setIfInBounds_toArray, List.set_cons_zero, List.set_cons_succ]
            refine wpAnyL_take 3 (v := ?_) rfl (by kernel_rfl) (by kernel_rfl) (by kernel_rfl) (by kernel_rfl) (fun _ _ _ h => h) (Or.inl ⟨by rfl, ?_⟩) hSd ?_
            rotate_left
            · (intro w hSw; (try dsimp only at hSw); go_simp) <;> (try with_reducible rfl)
            try simp only [Act.put, List.setIfInBounds_toArray, List.set_cons_zero, List.set_cons_succ]
            refine wpAnyL_take 4 (v := ?_) rfl (by kernel_rfl) (by kernel_rfl) (by kernel_rfl) (by kernel_rfl) (fun _ _ _ h => h) (Or.inl ⟨by rfl, ?_⟩) hSd ?_
            rotate_left
            · (intro w hSw; (try dsimp only at hSw); go_simp) <;> (try with_reducible rfl)
            try simp only [Act.put, List.setIfInBounds_toArray, List.set_cons_zero, List.set_cons_succ]
            refine wpAnyL_take 5 (v := ?_) rfl (by kernel_rfl) (by kernel_rfl) (by kernel_rfl) (by kernel_rfl) (fun _ _ _ h => h) (Or.inl ⟨by rfl, ?_⟩) hSd ?_
            rotate_left
            · (intro w hSw; (try dsimp only at hSw); go_simp) <;> (try with_reducible rfl)
            try simp only [Act.put, List.setIfInBounds_toArray, List.set_cons_zero, List.set_cons_succ]
            refine wpAnyL_take 6 (v := ?_) rfl (by kernel_rfl) (by kernel_rfl) (by kernel_rfl) (by kernel_rfl) (fun _ _ _ h => h) (Or.inl ⟨by rfl, ?_⟩) hSd ?_
            rotate_left
            · (intro w hSw; (try dsimp only at hSw); go_simp) <;> (try with_reducible rfl)
            try simp only [Act.put, List.setIfInBounds_toArray, List.set_cons_zero, List.set_cons_succ]
            refine wpAnyL_take 7 (v := ?_) rfl (by kernel_rfl) (by kernel_rfl) (by kernel_rfl) (by kernel_rfl) (fun _ _ _ h => h) (Or.inl ⟨by rfl, ?_⟩) hSd ?_
            rotate_left
            · (intro w hSw; (try dsimp only at hSw); go_simp) <;> (try with_reducible rfl)
            try simp only [Act.put, List.setIfInBounds_toArray, List.set_cons_zero, List.set_cons_succ]
            refine wpAnyL_take 8 (v := ?_) rfl (by kernel_rfl) (by kernel_rfl) (by kernel_rfl) (by kernel_rfl) (fun _ _ _ h => h) (Or.inl ⟨by rfl, ?_⟩) hSd ?_
            rotate_left
            · (intro w hSw; (try dsimp only at hSw); go_simp) <;> (try with_reducible rfl)
            try simp only [Act.put, List.setIfInBounds_toArray, List.set_cons_zero, List.set_cons_succ]
            refine wpAnyL_take 9 (v := ?_) rfl (by kernel_rfl) (by kernel_rfl) (by kernel_rfl) (by kernel_rfl) (fun _ _ _ h => h) (Or.inl ⟨by rfl, ?_⟩) hSd ?_
            rotate_left
            · (intro w hSw; (try dsimp only at hSw); go_simp) <;> (try with_reducible rfl)
            try simp only [Act.put, List.setIfInBounds_toArray, List.set_cons_zero, List.set_cons_succ]
            refine wpAnyL_take 10 (v := ?_) rfl (by kernel_rfl) (by kernel_rfl) (by kernel_rfl) (by kernel_rfl) (fun _ _ _ h => h) (Or.inl ⟨by rfl, ?_⟩) hSd ?_
            rotate_left
            · (intro w hSw; (try dsimp only at hSw); go_simp) <;> (try with_reducible rfl)
            try simp only [Act.put, List.setIfInBounds_toArray, List.set_cons_zero, List.set_cons_succ]
            refine wpAnyL_take 11 (v := ?_) rfl (by kernel_rfl) (by kernel_rfl) (by kernel_rfl) (by kernel_rfl) (fun _ _ _ h => h) (Or.inl ⟨by rfl, ?_⟩) hSd ?_
            rotate_left
            · (intro w hSw; (try dsimp only at hSw); go_simp) <;> (try with_reducible rfl)
            try simp only [Act.put, List.setIfInBounds_toArray, List.set_cons_zero, List.set_cons_succ]
            refine wpAnyL_take 12 (v := ?_) rfl (by kernel_rfl) (by kernel_rfl) (by kernel_rfl) (by kernel_rfl) (fun _ _ _ h => h) (Or.inl ⟨by rfl, ?_⟩) hSd ?_
            rotate_left
            · (intro w hSw; (try dsimp only at hSw); go_simp) <;> (try with_reducible rfl)
            try simp only [Act.put, List.setIfInBounds_toArray, List.set_cons_zero, List.set_cons_succ]
            refine wpAnyL_take 13 (v := ?_) rfl (by kernel_rfl) (by kernel_rfl) (by kernel_rfl) (by kernel_rfl) (fun _ _ _ h => h) (Or.inl ⟨by rfl, ?_⟩) hSd ?_
            rotate_left
            · (intro w hSw; (try dsimp only at hSw); go_simp) <;> (try with_reducible rfl)
            try simp only [Act.put, List.setIfInBounds_toArray, List.set_cons_zero, List.set_cons_succ]
            refine wpAnyL_take 14 (v := ?_) rfl (by kernel_rfl) (by kernel_rfl) (by kernel_rfl) (by kernel_rfl) (fun _ _ _ h => h) (Or.inl ⟨by rfl, ?_⟩) hSd ?_
            rotate_left
            · (intro w hSw; (try dsimp only at hSw); go_simp) <;> (try with_reducible rfl)
            try simp only [Act.put, List.setIfInBounds_toArray, List.set_cons_zero, List.set_cons_succ]
            refine wpAnyL_one 15 (by kernel_rfl) rfl (fun K hK => ?_)
            go_simp
            refine hK.out _ _ (fun _ => hS1) ?_
            clear hK K
            try simp only [Act.put, List.setIfInBounds_toArray, List.set_cons_zero, List.set_cons_succ]
            refine wpAnyL_one 16 (by kernel_rfl) rfl (fun K hK => ?_)
            refine step_append_run (by rfl) (.tmp 60) (.tmp 74) 24 (by rfl) (by rfl) (by rfl) Hr.out ?_
            refine hK.out _ _ (fun _ => hS2) ?_
            clear hK K
            try simp only [Act.put, List.setIfInBounds_toArray, List.set_cons_zero, List.set_cons_succ]
            refine wpAnyL_take 17 (v := ?_) rfl (by kernel_rfl) (by kernel_rfl) (by kernel_rfl) (by kernel_rfl) (fun _ _ _ h => h) (Or.inl ⟨by rfl, ?_⟩) hS2 ?_
            rotate_left
            · (intro w hSw; (try dsimp only at hSw); go_simp) <;> (try with_reducible rfl)
            try simp only [Act.put, List.setIfInBounds_toArray, List.set_cons_zero, List.set_cons_succ]
            refine wpAnyL_one 18 (by kernel_rfl) rfl (fun K hK => ?_)
            go_simp
            refine hK.out _ _ (fun h => absurd h (not_rem (by kernel_rfl))) ?_
            clear hK K
            try simp only [Act.put, List.setIfInBounds_toArray, List.set_cons_zero, List.set_cons_succ]
            refine wpAnyL_done (by kernel_rfl) ?_ _
            all_goals (
              go_wp2
              go_roundg (n - (j + 1))
              case measure => omega
              case rel =>
                obtain ⟨s1, s2, s3, s4, s5, s6, s7, s8⟩ := hst.out
                exact ⟨j + 1, a', n', c', by go_num, by omega, Lib.hid s1, s2, s3, s4, s5, s6, Lib.hid s7, Lib.hid s8⟩)
          · have HN := Lib.hid (show New (RowA 59) (w.heap.size + 1 + 1 + 1 + 1) w1 (.slice ya yn yc) (trimA bs (xs.take (j + 1))) from by rw [HKn.out, if_neg (by simpa using hdd)]; exact hnew.out)
            have MB := Lib.hid mB
            clear HKn HR hnew hbel hb1
            cases d0
            · clear hdd
              go_wp2
              go_roundg (n - (j + 1))
              case measure => omega
              case rel => exact ⟨j + 1, ya, yn, yc, by go_num, by omega, hc, o0, o1, o2, f2, MB.out, HN, HB1⟩
            · cases d1
              · clear hdd
                go_wp2
                go_roundg (n - (j + 1))
                case measure => omega
                case rel => exact ⟨j + 1, ya, yn, yc, by go_num, by omega, hc, o0, o1, o2, f2, MB.out, HN, HB1⟩
              · exact absurd ⟨rfl, rfl⟩ hdd
        · obtain rfl : j = n := by omega
          have HR := Lib.hid (show New (RowA 59) (w.heap.size + 1 + 1 + 1 + 1) wk (.slice ya yn yc) (trimA bs xs) from by have h := hnew.out; rw [List.take_of_length_le (by have := Hn.out; omega)] at h; exact h)
          have r0 := (hbel.out.cell (p := ⟨w.heap.size + 1, 0, none⟩) (show w.heap.size + 1 < w.heap.size + 1 + 1 by omega)).trans R0.out
          have r1 := (hbel.out.cell (p := ⟨w.heap.size + 1, 1, none⟩) (show w.heap.size + 1 < w.heap.size + 1 + 1 by omega)).trans R1.out
          have r2 := (hbel.out.cell (p := ⟨w.heap.size + 1, 2, none⟩) (show w.heap.size + 1 < w.heap.size + 1 + 1 by omega)).trans R2.out
          have t0 := (hbel.out.frozen (p := ⟨w.heap.size + 1, 0, none⟩) (show w.heap.size + 1 < w.heap.size + 1 + 1 by omega)).trans F0.out
          have t1 := (hbel.out.frozen (p := ⟨w.heap.size + 1, 1, none⟩) (show w.heap.size + 1 < w.heap.size + 1 + 1 by omega)).trans F1.out
          have t2 := (hbel.out.frozen (p := ⟨w.heap.size + 1, 2, none⟩) (show w.heap.size + 1 < w.heap.size + 1 + 1 by omega)).trans F2.out
          have HB := Lib.hid (HA.out.trans (hbel.out.mono (by omega)))
          clear hnew hbel hc hcell
          go_wp2
          have s0 := World.cell?_setCell_same _ _ (.int .i64 L) r0
          have u1 := (World.cell?_setCell_other _ ⟨w.heap.size + 1, 0, none⟩ _ (.int .i64 L) (by simp)).trans r1
          have s1 := World.cell?_setCell_same _ _ (.int .i64 (ct : Int)) u1
          have u2 := (World.cell?_setCell_other _ ⟨w.heap.size + 1, 1, none⟩ _ (.int .i64 (ct : Int)) (by simp)).trans ((World.cell?_setCell_other _ ⟨w.heap.size + 1, 0, none⟩ _ (.int .i64 L) (by simp)).trans r2)
          have s2 := World.cell?_setCell_same _ _ (.slice ya yn yc) u2
          refine bodyPost_ret (v := .agg #[.int .i64 L, .int .i64 (ct : Int), .slice ya yn yc]) (by simp [results, Try.results59, go_sem, s0, s1, s2]) rfl ?_
          refine ⟨_, rfl, ?_, (((HB.out.setCell (p := ⟨w.heap.size + 1, 0, none⟩) (by simp) _).setCell (p := ⟨w.heap.size + 1, 1, none⟩) (by simp) _).setCell (p := ⟨w.heap.size + 1, 2, none⟩) (by simp) _)⟩
          have hk := New.storeLow RowG.held (New.storeLow RowG.held (New.storeLow RowG.held HR.out (show (⟨w.heap.size + 1, 0, none⟩ : Addr).block < _ by simp <;> omega) (.int .i64 L)) (show (⟨w.heap.size + 1, 1, none⟩ : Addr).block < _ by simp <;> omega) (.int .i64 (ct : Int))) (show (⟨w.heap.size + 1, 2, none⟩ : Addr).block < _ by simp <;> omega) (.slice ya yn yc)
          obtain ⟨F, hF, hFn, hFg⟩ := hk
          exact ⟨F, ⟨_, by unfold keepV; rw [Hct.out], RowG.arcs hF⟩, hFn, fun b hb => by have := hFg b hb; omega⟩
end Go.Proofs.Ytcilgihmaaobeaa
end
