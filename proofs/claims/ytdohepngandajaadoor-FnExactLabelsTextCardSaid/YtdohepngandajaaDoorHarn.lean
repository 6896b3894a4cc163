/-
  The laws' own helpers on integer slices and tables: sizes, copies, comparisons, marks.
-/
import Derived.Test.YtdohepngandajaaDoorRows
import Derived.Test.YtdohepngandajaaDoorBase
namespace Go.Proofs.YtdohepngandajaaDoor
open Go.RowKit Go.Deep Go.Sd

theorem infoI : (Tryd.prog.info? 3).map (fun i => (i.zero, i.size, i.bytes)) = some (some (.int .i64 0), 1, 8) := by kernel_rfl
theorem infoR : (Tryd.prog.info? 78).map (fun i => (i.zero, i.size, i.bytes)) = some (some (.slice none 0 0), 1, 24) := by kernel_rfl

def szS (left n : Int) : Int := if left - n < 0 then -1 else left - n
def szLoop : List (List Int) → Int → Int
  | [], l => l
  | r :: rs, l => if szS l r.length < 0 then -1 else szLoop rs (szS l r.length)
def szSS (m : List (List Int)) (l : Int) : Int := if l - m.length < 0 then -1 else szLoop m (l - m.length)

theorem szS_bd (l n : Int) (hn : 0 ≤ n) : -1 ≤ szS l n ∧ (0 ≤ l → szS l n ≤ l) ∧ (0 ≤ szS l n → n ≤ l) := by unfold szS; split <;> omega
theorem szLoop_bd (m : List (List Int)) (l : Int) (hl : 0 ≤ l) : -1 ≤ szLoop m l ∧ szLoop m l ≤ l ∧ (0 ≤ szLoop m l → ∀ r ∈ m, (r.length : Int) ≤ l) := by
  induction m generalizing l with
  | nil => simp [szLoop]; omega
  | cons r rs ih =>
    have h := szS_bd l r.length (by omega)
    unfold szLoop
    by_cases h0 : szS l r.length < 0
    · rw [if_pos h0]; refine ⟨by omega, by omega, fun h => by omega⟩
    · rw [if_neg h0]
      have := ih (szS l r.length) (by omega)
      refine ⟨this.1, by omega, fun hh x hx => ?_⟩
      rcases List.mem_cons.1 hx with rfl | hx
      · omega
      · have := this.2.2 hh x hx; omega
theorem szSS_bd (m : List (List Int)) (l : Int) (hl : 0 ≤ l) : -1 ≤ szSS m l ∧ szSS m l ≤ l ∧ (0 ≤ szSS m l → (m.length : Int) ≤ l ∧ ∀ r ∈ m, (r.length : Int) ≤ l) := by
  unfold szSS
  split
  · refine ⟨by omega, by omega, fun h => by omega⟩
  · have h := szLoop_bd m (l - m.length) (by omega)
    refine ⟨h.1, by omega, fun hh => ⟨by omega, fun r hr => by have := h.2.2 hh r hr; omega⟩⟩



/-! ### equality -/

def eqLoop : List Int → List Int → Bool
  | x :: xs, y :: ys => if x = y then eqLoop xs ys else false
  | _, _ => true

theorem eqLoop_iff (xs ys : List Int) (h : xs.length = ys.length) : eqLoop xs ys = decide (xs = ys) := by
  induction xs generalizing ys with
  | nil => cases ys <;> simp_all [eqLoop]
  | cons a l ih =>
    cases ys with
    | nil => simp at h
    | cons b bs =>
      unfold eqLoop
      rw [ih bs (by simpa using h)]
      by_cases e : a = b <;> simp [e]



/-! ### copies -/

theorem fill_step {α : Type} (xs : List α) (d : α) (k n : Nat) (hn : n = xs.length) (hk : k < n) (x : α) (hx : xs[k]? = some x) :
    (xs.take k ++ List.replicate (n - k) d).set k x = xs.take (k + 1) ++ List.replicate (n - (k + 1)) d := by
  have hl : (xs.take k).length = k := by simp; omega
  have e : n - k = (n - (k + 1)) + 1 := by omega
  rw [List.set_append_right _ _ (by omega), hl, Nat.sub_self, e, List.replicate_succ, List.set_cons_zero, List.take_add_one, hx]
  simp

theorem fill_at {α : Type} (xs : List α) (d : α) (k n : Nat) (hn : n = xs.length) (hk : k < n) : (xs.take k ++ List.replicate (n - k) d)[k]? = some d := by
  have hl : (xs.take k).length = k := by simp; omega
  rw [List.getElem?_append_right (by omega), hl, Nat.sub_self, List.getElem?_replicate, if_pos (by omega)]

theorem fill_len {α : Type} (xs : List α) (d : α) (k n : Nat) (hn : n = xs.length) (hk : k ≤ n) : (xs.take k ++ List.replicate (n - k) d).length = n := by
  simp; omega



/-! ### marks -/

def markS : List Int → Int → List Int
  | [], _ => []
  | _ :: xs, k => k :: markS xs (k + 1)
def heldS : List Int → Int → Int
  | [], k => k
  | x :: xs, k => if x = k then heldS xs (k + 1) else -1
def cntSS : List (List Int) → Int
  | [] => 0
  | r :: rs => r.length + cntSS rs
def markSS : List (List Int) → Int → List (List Int)
  | [], _ => []
  | r :: rs, k => markS r k :: markSS rs (k + r.length)
def heldSS : List (List Int) → Int → Int
  | [], k => k
  | r :: rs, k => if heldS r k < 0 then -1 else heldSS rs (heldS r k)

theorem markS_len (xs : List Int) (k : Int) : (markS xs k).length = xs.length := by
  induction xs generalizing k with
  | nil => rfl
  | cons x xs ih => simp [markS, ih]
theorem markS_at (xs : List Int) (k : Int) (i : Nat) (h : i < xs.length) : (markS xs k)[i]? = some (k + i) := by
  induction xs generalizing k i with
  | nil => simp at h
  | cons x xs ih =>
    cases i with
    | zero => simp [markS]
    | succ i =>
      simp only [markS, List.getElem?_cons_succ]
      rw [ih (k + 1) i (by simpa using h)]
      congr 1; omega
theorem heldS_mark (xs : List Int) (k : Int) : heldS (markS xs k) k = k + xs.length := by
  induction xs generalizing k with
  | nil => simp [heldS, markS]
  | cons x xs ih => simp only [markS, heldS, if_true, ih, List.length_cons]; omega
theorem heldS_bd (xs : List Int) (k : Int) (h : 0 ≤ k) : -1 ≤ heldS xs k ∧ heldS xs k ≤ k + xs.length := by
  induction xs generalizing k with
  | nil => simp [heldS]; omega
  | cons x xs ih =>
    unfold heldS
    split
    · have := ih (k + 1) (by omega); simp only [List.length_cons]; omega
    · simp only [List.length_cons]; omega
theorem cntSS_nn (m : List (List Int)) : 0 ≤ cntSS m := by
  induction m with
  | nil => simp [cntSS]
  | cons r rs ih => unfold cntSS; omega
theorem markSS_len (m : List (List Int)) (k : Int) : (markSS m k).length = m.length := by
  induction m generalizing k with
  | nil => rfl
  | cons x xs ih => simp [markSS, ih]
theorem heldSS_mark (m : List (List Int)) (k : Int) (h : 0 ≤ k) : heldSS (markSS m k) k = k + cntSS m := by
  induction m generalizing k with
  | nil => simp [heldSS, markSS, cntSS]
  | cons x xs ih =>
    simp only [markSS, heldSS, heldS_mark, cntSS]
    rw [if_neg (by omega), ih _ (by omega)]
    omega

theorem mark_step {α : Type} (ms xs : List α) (k n : Nat) (hm : n = ms.length) (hn : n = xs.length) (hk : k < n) (y : α) (hy : ms[k]? = some y) :
    (ms.take k ++ xs.drop k).set k y = ms.take (k + 1) ++ xs.drop (k + 1) := by
  have hl : (ms.take k).length = k := by simp; omega
  rw [List.set_append_right _ _ (by omega), hl, Nat.sub_self, List.drop_eq_getElem_cons (by omega : k < xs.length), List.set_cons_zero, List.take_add_one, hy]
  simp

theorem mark_at {α : Type} (ms xs : List α) (k n : Nat) (hm : n = ms.length) (hn : n = xs.length) (hk : k < n) (x : α) (hx : xs[k]? = some x) : (ms.take k ++ xs.drop k)[k]? = some x := by
  have hl : (ms.take k).length = k := by simp; omega
  rw [List.getElem?_append_right (by omega), hl, Nat.sub_self, List.getElem?_drop]
  simpa using hx

theorem mark_len {α : Type} (ms xs : List α) (k n : Nat) (hm : n = ms.length) (hn : n = xs.length) : (ms.take k ++ xs.drop k).length = n := by
  simp; omega



/-! ### held -/


end Go.Proofs.YtdohepngandajaaDoor
