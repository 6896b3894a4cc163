/-
  TrimLabels's model: rows of targets, names of what is kept, arcs kept.
-/
import Derived.Test.YtjgiobapdkdhpaaRows
import Derived.Test.YtjgiobapdkdhpaaBase
import Derived.Test.YtjgiobapdkdhpaaTabs
import Derived.Test.YtjgiobapdkdhpaaLab
import Derived.Test.YtjgiobapdkdhpaaLabC
import Derived.Test.YtjgiobapdkdhpaaLabM
import Derived.Test.YtjgiobapdkdhpaaLiveM
import Derived.Test.YtjgiobapdkdhpaaLiveN
import Derived.Test.YtjgiobapdkdhpaaLabLive
namespace Go.Proofs.Ytjgiobapdkdhpaa
open Go.RowKit Go.Deep Go.Sd

def nxRow (xs : List Arc3) (i : Nat) : List Int := (xs.filter fun a => decide (a.1 = (i : Int))).map (·.2.1)
def nxt (p : Nat) (xs : List Arc3) : List (List Int) := (List.range p).map fun i => nxRow xs i
theorem nxt_len (p : Nat) (xs : List Arc3) : (nxt p xs).length = p := by simp [nxt]
theorem nxt_at {p i : Nat} {xs : List Arc3} (h : i < p) : (nxt p xs)[i]? = some (nxRow xs i) := by
  unfold nxt; rw [List.getElem?_map, List.getElem?_range h]; rfl
theorem nxt_nil (p : Nat) : nxt p [] = List.replicate p [] := by
  apply List.ext_getElem?
  intro i
  by_cases h : i < p
  · rw [nxt_at h, List.getElem?_replicate, if_pos h]; rfl
  · rw [List.getElem?_eq_none (by rw [nxt_len]; omega), List.getElem?_eq_none (by simp; omega)]
theorem nxRow_snoc (xs : List Arc3) (a : Arc3) (i : Nat) : nxRow (xs ++ [a]) i = if a.1 = (i : Int) then nxRow xs i ++ [a.2.1] else nxRow xs i := by
  unfold nxRow
  rw [List.filter_append, List.map_append]
  by_cases h : a.1 = (i : Int)
  · rw [if_pos h]; simp [h]
  · rw [if_neg h]; simp [h]
theorem nxt_snoc {p p0 : Nat} (xs : List Arc3) (a : Arc3) (h0 : p0 < p) (ha : a.1 = (p0 : Int)) : nxt p (xs ++ [a]) = (nxt p xs).set p0 (nxRow xs p0 ++ [a.2.1]) := by
  apply List.ext_getElem?
  intro i
  by_cases h : i < p
  · rw [nxt_at h, nxRow_snoc, ha]
    by_cases e : p0 = i
    · subst e
      rw [if_pos rfl, List.getElem?_set_self (by rw [nxt_len]; exact h)]
    · rw [if_neg (by omega), List.getElem?_set_ne e, nxt_at h]
  · rw [List.getElem?_eq_none (by rw [nxt_len]; omega), List.getElem?_eq_none (by rw [List.length_set, nxt_len]; omega)]
theorem nxRow_mem {xs : List Arc3} {i : Nat} {x : Int} : x ∈ nxRow xs i ↔ ∃ a, a ∈ xs ∧ a.1 = (i : Int) ∧ a.2.1 = x := by
  unfold nxRow
  simp only [List.mem_map, List.mem_filter, decide_eq_true_eq]
  constructor
  · rintro ⟨a, ⟨h1, h2⟩, h3⟩; exact ⟨a, h1, h2, h3⟩
  · rintro ⟨a, h1, h2, h3⟩; exact ⟨a, ⟨h1, h2⟩, h3⟩
theorem nxRow_len (xs : List Arc3) (i : Nat) : (nxRow xs i).length ≤ xs.length := by
  unfold nxRow; rw [List.length_map]; exact List.length_filter_le _ _
theorem nxt_ent {p i j : Nat} {xs : List Arc3} (h : i < p) : EntN (nxt p xs) i j ↔ ArcP xs i j := by
  unfold EntN ArcP
  rw [List.getD_eq_getElem?_getD, nxt_at h]
  simp only [Option.getD_some]
  exact nxRow_mem
theorem nxt_live (p : Nat) (xs : List Arc3) : liveL (EntN (nxt p xs)) p = liveL (ArcP xs) p :=
  liveL_congr fun i j hi _ => nxt_ent hi
theorem nxt_in {p : Nat} {xs : List Arc3} (ho : okArcs (p : Int) xs) : ∀ r, r ∈ nxt p xs → ∀ x, x ∈ r → 0 ≤ x ∧ x < (p : Int) := by
  intro r hr x hx
  obtain ⟨i, _, rfl⟩ := List.mem_map.1 hr
  obtain ⟨a, ha, _, rfl⟩ := nxRow_mem.1 hx
  have := ho a ha
  exact ⟨this.2.2.1, this.2.2.2⟩

/-! Names. -/
def nm (l : List Bool) (i : Nat) : Nat := cntT (l.take i)
theorem nm_zero (l : List Bool) : nm l 0 = 0 := by simp [nm, cntT]
theorem nm_succ {l : List Bool} {i : Nat} {b : Bool} (h : l[i]? = some b) : nm l (i + 1) = nm l i + (if b = true then 1 else 0) := by
  unfold nm cntT
  rw [List.take_add_one, h, List.countP_append]
  cases b <;> simp
theorem nm_le (l : List Bool) (i : Nat) : nm l i ≤ cntT l := by
  unfold nm cntT
  exact List.Sublist.countP_le (List.take_sublist _ _)
theorem nm_all (l : List Bool) : nm l l.length = cntT l := by unfold nm; rw [List.take_length]
/-- The names of the first k; zeros behind them. -/
def nmF (l : List Bool) (k : Nat) : List Int := rowOf' l.length fun i => if i < k ∧ l.getD i false = true then (nm l i : Int) else 0
theorem nmF_len (l : List Bool) (k : Nat) : (nmF l k).length = l.length := rowOf_len _ _
theorem nmF_zero (l : List Bool) : nmF l 0 = List.replicate l.length 0 := by
  apply List.ext_getElem?
  intro i
  by_cases h : i < l.length
  · unfold nmF; rw [rowOf_at h, List.getElem?_replicate, if_pos h, if_neg (by omega)]
  · rw [List.getElem?_eq_none (by rw [nmF_len]; omega), List.getElem?_eq_none (by simp; omega)]
theorem nmF_at {l : List Bool} {k i : Nat} (h : i < l.length) : (nmF l k)[i]? = some (if i < k ∧ l.getD i false = true then (nm l i : Int) else 0) := by
  unfold nmF; rw [rowOf_at h]
theorem nmF_skip {l : List Bool} {k : Nat} (h : l[k]? = some false) : nmF l (k + 1) = nmF l k := by
  apply List.ext_getElem?
  intro i
  by_cases hi : i < l.length
  · rw [nmF_at hi, nmF_at hi]
    by_cases e : i = k
    · subst e
      have : l.getD i false = false := by simp [List.getD, h]
      rw [this, if_neg (by simp), if_neg (by simp)]
    · by_cases h2 : i < k
      · simp [h2, Nat.lt_succ_of_lt h2]
      · rw [if_neg (by omega), if_neg (by omega)]
  · rw [List.getElem?_eq_none (by rw [nmF_len]; omega), List.getElem?_eq_none (by rw [nmF_len]; omega)]
theorem nmF_take {l : List Bool} {k : Nat} (h : l[k]? = some true) : nmF l (k + 1) = (nmF l k).set k (nm l k : Int) := by
  have hk := (List.getElem?_eq_some_iff.1 h).1
  apply List.ext_getElem?
  intro i
  by_cases hi : i < l.length
  · by_cases e : k = i
    · subst e
      rw [List.getElem?_set_self (by rw [nmF_len]; exact hk), nmF_at hi, if_pos ⟨by omega, by simp [List.getD, h]⟩]
    · rw [List.getElem?_set_ne e, nmF_at hi, nmF_at hi]
      by_cases h2 : i < k
      · simp [h2, Nat.lt_succ_of_lt h2]
      · rw [if_neg (by omega), if_neg (by omega)]
  · rw [List.getElem?_eq_none (by rw [nmF_len]; omega), List.getElem?_eq_none (by rw [List.length_set, nmF_len]; omega)]
theorem nmF_end {l : List Bool} {i : Nat} (h : l[i]? = some true) : (nmF l l.length)[i]? = some (nm l i : Int) := by
  have hi := (List.getElem?_eq_some_iff.1 h).1
  rw [nmF_at hi, if_pos ⟨hi, by simp [List.getD, h]⟩]
theorem nmF_end' {l : List Bool} {i : Nat} (h : i < l.length) : ∃ x : Int, (nmF l l.length)[i]? = some x ∧ (l[i]? = some true → x = (nm l i : Int)) := by
  refine ⟨_, nmF_at h, fun h2 => by rw [if_pos ⟨h, by simp [List.getD, h2]⟩]⟩

/-! Arcs kept. -/
def kept (l : List Bool) (a : Arc3) : Bool := l.getD a.1.toNat false && l.getD a.2.1.toNat false
def renA (l : List Bool) (a : Arc3) : Arc3 := ((nm l a.1.toNat : Int), (nm l a.2.1.toNat : Int), a.2.2)
def trimA (l : List Bool) (xs : List Arc3) : List Arc3 := (xs.filter (kept l)).map (renA l)
theorem trimA_len (l : List Bool) (xs : List Arc3) : (trimA l xs).length ≤ xs.length := by
  unfold trimA; rw [List.length_map]; exact List.length_filter_le _ _
theorem trimA_snoc (l : List Bool) (xs : List Arc3) (a : Arc3) : trimA l (xs ++ [a]) = if kept l a = true then trimA l xs ++ [renA l a] else trimA l xs := by
  unfold trimA
  rw [List.filter_append, List.map_append]
  by_cases h : kept l a = true
  · rw [if_pos h]; simp [h]
  · rw [if_neg h]; simp [h]
noncomputable def liveO (l : Lb) : List Bool := liveL (ArcP l.2.2) l.2.1.toNat
theorem liveO_len (l : Lb) : (liveO l).length = l.2.1.toNat := liveL_len
open Classical in
noncomputable def trimOk (l : Lb) : Bool := isLab l && decide (cntT (liveO l) ≠ 0)
noncomputable def keepV (l : Lb) (b : List Bool) : Lb := (l.1, (cntT b : Int), trimA b l.2.2)
noncomputable def trimV (l : Lb) : Lb := if trimOk l = true then keepV l (liveO l) else (0, 0, [])
theorem trimV_len (l : Lb) : (trimV l).2.2.length ≤ l.2.2.length := by
  unfold trimV
  split
  · exact trimA_len _ _
  · simp
end Go.Proofs.Ytjgiobapdkdhpaa
