/-
  The lists between zeros and a row: the model.
-/
import Derived.Test.YtdohepngandajaaBase
namespace Go.Sd

abbrev Tbl := List (List Int)
def exts (l : List Int) (x : Int) : Tbl := (List.range (x.toNat + 1)).map fun (y : Nat) => l ++ [(y : Int)]
def ext (cur : Tbl) (x : Int) : Tbl := cur.flatMap fun l => exts l x
def rowOk : List Int → Bool
  | [] => true
  | x :: r => decide (0 ≤ x ∧ x ≤ 3) && rowOk r
def compo : List Int → List Int → Tbl
  | [], h => [h]
  | x :: r, h => (List.range (x.toNat + 1)).flatMap fun (y : Nat) => compo r (h ++ [(y : Int)])
def goOn (keep : List Int → Bool) : List Int → Tbl → Tbl
  | [], cur => cur.filter keep
  | x :: r, cur => if 0 ≤ x ∧ x ≤ 3 then goOn keep r (ext cur x) else []
theorem goOn_bad (keep : List Int → Bool) : ∀ (r : List Int) (cur : Tbl), rowOk r = false → goOn keep r cur = []
  | [], _, h => by cases h
  | x :: r, cur, h => by
    unfold goOn
    split
    · rename_i hx
      unfold rowOk at h
      rw [decide_eq_true hx] at h
      exact goOn_bad keep r _ (by simpa using h)
    · rfl
theorem flatMap_map' {α β γ : Type} (f : α → β) (g : β → List γ) (l : List α) : (l.map f).flatMap g = l.flatMap fun a => g (f a) := by
  induction l with
  | nil => rfl
  | cons a l ih => simp [ih]
theorem flatMap_assoc' {α β γ : Type} (f : α → List β) (g : β → List γ) (l : List α) : (l.flatMap f).flatMap g = l.flatMap fun a => (f a).flatMap g := by
  induction l with
  | nil => rfl
  | cons a l ih => simp [List.flatMap_append, ih]
theorem flatMap_single' {α : Type} (l : List α) : l.flatMap (fun a => [a]) = l := by
  induction l with
  | nil => rfl
  | cons a l ih => simp
theorem goOn_comp (keep : List Int → Bool) : ∀ (r : List Int) (cur : Tbl), rowOk r = true → goOn keep r cur = (cur.flatMap fun l => compo r l).filter keep
  | [], cur, _ => by
    show cur.filter keep = _
    rw [show (fun l => compo [] l) = fun l => [l] from rfl, flatMap_single']
  | x :: r, cur, h => by
    unfold rowOk at h
    rw [Bool.and_eq_true, decide_eq_true_eq] at h
    unfold goOn
    rw [if_pos h.1, goOn_comp keep r _ h.2]
    congr 1
    unfold ext
    rw [flatMap_assoc']
    congr 1
    funext l
    unfold exts
    rw [flatMap_map']
    rfl
def Le2 : List Int → List Int → Prop
  | [], [] => True
  | a :: t, x :: r => (0 ≤ a ∧ a ≤ x) ∧ Le2 t r
  | _, _ => False
theorem comp_mem : ∀ (r h l : List Int), rowOk r = true → l ∈ compo r h → ∃ t, l = h ++ t ∧ Le2 t r
  | [], h, l, _, hl => by
    simp [compo] at hl
    exact ⟨[], by simp [hl], trivial⟩
  | x :: r, h, l, ho, hl => by
    unfold rowOk at ho
    rw [Bool.and_eq_true, decide_eq_true_eq] at ho
    unfold compo at hl
    obtain ⟨y, hy, hl⟩ := List.mem_flatMap.1 hl
    obtain ⟨t, rfl, ht⟩ := comp_mem r _ l ho.2 hl
    have hy2 := List.mem_range.1 hy
    exact ⟨(y : Int) :: t, by simp, ⟨by omega, by omega⟩, ht⟩
def isum : List Int → Int
  | [] => 0
  | x :: r => x + isum r
theorem Le2.sum : ∀ {t r : List Int}, Le2 t r → 0 ≤ isum t ∧ isum t ≤ isum r
  | [], [], _ => by simp [isum]
  | a :: t, x :: r, h => by
    have := Le2.sum h.2
    have := h.1
    simp only [isum]; omega
theorem Le2.len : ∀ {t r : List Int}, Le2 t r → t.length = r.length
  | [], [], _ => rfl
  | a :: t, x :: r, h => by simp [Le2.len h.2]
theorem Le2.zero : ∀ {t r : List Int}, Le2 t r → (isum t = 0 ↔ t = List.replicate r.length 0)
  | [], [], _ => by simp [isum]
  | a :: t, x :: r, h => by
    have h1 := Le2.sum h.2
    have h2 := Le2.zero h.2
    have h3 := h.1
    simp only [isum, List.length_cons, List.replicate_succ, List.cons.injEq]
    rw [← h2]
    omega
theorem Le2.full : ∀ {t r : List Int}, Le2 t r → (isum t = isum r ↔ t = r)
  | [], [], _ => by simp
  | a :: t, x :: r, h => by
    have h1 := Le2.sum h.2
    have h2 := Le2.full h.2
    have h3 := h.1
    simp only [isum, List.cons.injEq]
    rw [← h2]
    omega
def keepI (row l : List Int) : Bool := !(decide (isum l = 0) || decide (isum l = isum row))
def keepS (row l : List Int) : Bool := !decide (l = List.replicate row.length 0) && !decide (l = row)
theorem keep_same {row l : List Int} (h : Le2 l row) : keepI row l = keepS row l := by
  unfold keepI keepS
  rw [decide_eq_decide.2 h.zero, decide_eq_decide.2 h.full]
  cases decide (l = List.replicate row.length 0) <;> rfl
def partsV (row : List Int) : Tbl := if row.length ≤ 4 ∧ rowOk row = true then (compo row []).filter (keepS row) else []
theorem partsV_impl (row : List Int) : partsV row = if row.length ≤ 4 then goOn (keepI row) row [[]] else [] := by
  unfold partsV
  by_cases h4 : row.length ≤ 4
  · rw [if_pos h4]
    cases ho : rowOk row with
    | false => rw [if_neg (by simp), goOn_bad _ _ _ ho]
    | true =>
      rw [if_pos ⟨h4, rfl⟩, goOn_comp _ _ _ ho]
      simp only [List.flatMap_cons, List.flatMap_nil, List.append_nil]
      refine List.filter_congr fun l hl => ?_
      obtain ⟨t, ht, hle⟩ := comp_mem row [] l ho hl
      simp at ht
      subst ht
      exact (keep_same hle).symm
  · rw [if_neg h4, if_neg (fun h => h4 h.1)]
theorem comp_len : ∀ (r h : List Int), rowOk r = true → (compo r h).length ≤ 4 ^ r.length
  | [], h, _ => by simp [compo]
  | x :: r, h, ho => by
    unfold rowOk at ho
    rw [Bool.and_eq_true, decide_eq_true_eq] at ho
    have key : ∀ m : Nat, ((List.range m).flatMap fun (y : Nat) => compo r (h ++ [(y : Int)])).length ≤ m * 4 ^ r.length := by
      intro m
      induction m with
      | zero => simp
      | succ m ih =>
        rw [List.range_succ, List.flatMap_append, List.length_append]
        simp only [List.flatMap_cons, List.flatMap_nil, List.append_nil]
        have := comp_len r (h ++ [(m : Int)]) ho.2
        rw [Nat.succ_mul]; omega
    have h1 := key (x.toNat + 1)
    unfold compo
    rw [List.length_cons, Nat.pow_succ, Nat.mul_comm]
    exact Nat.le_trans h1 (Nat.mul_le_mul_right _ (by omega))
theorem partsV_bd (row : List Int) : (partsV row).length ≤ 256 ∧ ∀ r, r ∈ partsV row → r.length ≤ 4 := by
  unfold partsV
  split
  · rename_i h
    constructor
    · have h1 := comp_len row [] h.2
      have h2 : 4 ^ row.length ≤ 4 ^ 4 := Nat.pow_le_pow_right (by decide) h.1
      have h3 := List.length_filter_le (keepS row) (compo row [])
      omega
    · intro r hr
      obtain ⟨t, ht, hle⟩ := comp_mem row [] r h.2 ((List.mem_filter.1 hr).1)
      simp at ht
      subst ht
      rw [hle.len]; exact h.1
  · simp
end Go.Sd
