/-
  What the laws' own walks keep: what lies where, by intervals of blocks; the helpers' contracts said by them.
-/
import Derived.Test.YtdohepngandajaaDoorRows
import Derived.Test.YtdohepngandajaaDoorBase
import Derived.Test.YtdohepngandajaaDoorHarn
namespace Go.Sd
open Go.RowKit Go.Deep

/-- What a footprint is good for. -/
structure Held {α : Type} (R : OwnRel α) : Prop where
  keep : ∀ w w' v x F, R w v x F → (∀ b, b ∈ F → w'.heap[b]? = w.heap[b]?) → R w' v x F
  lt : ∀ w v x F, R w v x F → ∀ b, b ∈ F → b < w.heap.size
theorem Kept.held {α : Type} {R : OwnRel α} (h : Kept R) : Held R := ⟨h.keep, h.lt⟩

/-- Own memory in the blocks from lo up to hi. -/
def NewIn {α : Type} (R : OwnRel α) (lo hi : Nat) (w : World) (v : Value) (x : α) : Prop := ∃ F, R w v x F ∧ F.Nodup ∧ ∀ b, b ∈ F → lo ≤ b ∧ b < hi

theorem New.inn {α : Type} {R : OwnRel α} (hR : Held R) {lo : Nat} {w : World} {v : Value} {x : α} (h : New R lo w v x) : NewIn R lo w.heap.size w v x := by
  obtain ⟨F, hF, hn, hge⟩ := h
  exact ⟨F, hF, hn, fun b hb => ⟨hge b hb, hR.lt _ _ _ _ hF b hb⟩⟩

theorem NewIn.new {α : Type} {R : OwnRel α} {lo hi : Nat} {w : World} {v : Value} {x : α} (h : NewIn R lo hi w v x) : New R lo w v x := by
  obtain ⟨F, hF, hn, hge⟩ := h
  exact ⟨F, hF, hn, fun b hb => (hge b hb).1⟩

theorem NewIn.keep {α : Type} {R : OwnRel α} (hR : Held R) {lo hi B : Nat} {w w' : World} {v : Value} {x : α} (h : NewIn R lo hi w v x) (hb : Below B w w') (hB : hi ≤ B) : NewIn R lo hi w' v x := by
  obtain ⟨F, hF, hn, hge⟩ := h
  exact ⟨F, hR.keep _ _ _ _ _ hF fun b hb' => hb.block b (by have := hge b hb'; omega), hn, hge⟩

/-- Only blocks from lo up to hi may hold something else. -/
structure OffIn (lo hi : Nat) (w w' : World) : Prop where
  os : w'.os = w.os
  tape : w'.tape = w.tape
  output : w'.output = w.output
  size : w.heap.size ≤ w'.heap.size
  block : ∀ b, b < w.heap.size → ¬ (lo ≤ b ∧ b < hi) → w'.heap[b]? = w.heap[b]?

theorem OffIn.below {lo hi B : Nat} {w w' : World} (h : OffIn lo hi w w') (hB : B ≤ lo) (hs : B ≤ w.heap.size) : Below B w w' :=
  ⟨h.os, h.tape, h.output, h.size, fun k hk => h.block k (by omega) (by omega)⟩

theorem NewIn.off {α : Type} {R : OwnRel α} (hR : Held R) {lo hi lo' hi' : Nat} {w w' : World} {v : Value} {x : α} (h : NewIn R lo hi w v x) (ho : OffIn lo' hi' w w') (hd : hi ≤ lo' ∨ hi' ≤ lo) : NewIn R lo hi w' v x := by
  obtain ⟨F, hF, hn, hge⟩ := h
  exact ⟨F, hR.keep _ _ _ _ _ hF fun b hb' => ho.block b (hR.lt _ _ _ _ hF b hb') (by have := hge b hb'; omega), hn, hge⟩

theorem Off.inn {F : List Nat} {lo hi : Nat} {w w' : World} (h : Off F w w') (hF : ∀ b, b ∈ F → lo ≤ b ∧ b < hi) : OffIn lo hi w w' :=
  ⟨h.os, h.tape, h.output, h.size, fun b hb hn => h.block b hb fun hm => hn (hF b hm)⟩

/-- What a call that writes numbers into its argument leaves, by intervals. -/
def MarksIn {α : Type} (R : OwnRel α) (lo hi : Nat) (w : World) (v : Value) (y : α) (n : Int) (e : Ending) (w' : World) : Prop := e = .returned (.int .i64 n) ∧ NewIn R lo hi w' v y ∧ OffIn lo hi w w'

theorem Marks.inn {α : Type} {R : OwnRel α} {lo hi : Nat} {w : World} {v : Value} {y : α} {n : Int} {F : List Nat} {e : Ending} {w' : World} (h : Marks R F w v y n e w') (hn : F.Nodup) (hF : ∀ b, b ∈ F → lo ≤ b ∧ b < hi) : MarksIn R lo hi w v y n e w' :=
  ⟨h.1, ⟨F, h.2.1, hn, hF⟩, h.2.2.inn hF⟩

end Go.Sd
namespace Go.Proofs.YtdohepngandajaaDoor
open Go.RowKit Go.Deep Go.Sd

theorem cntSS_le (m : List (List Int)) (l : Int) (_hl : 0 ≤ l) (h : 0 ≤ szSS m l) : cntSS m + szSS m l + m.length = l := by
  have key : ∀ (m : List (List Int)) (l : Int), 0 ≤ l → 0 ≤ szLoop m l → cntSS m + szLoop m l = l := by
    intro m
    induction m with
    | nil => intro l h0 h; simp [cntSS, szLoop]
    | cons r rs ih =>
      intro l h0 h
      unfold szLoop at h ⊢
      by_cases h1 : szS l r.length < 0
      · rw [if_pos h1] at h; omega
      · rw [if_neg h1] at h ⊢
        have := ih _ (by omega) h
        have e : szS l r.length = l - r.length := by unfold szS at h1 ⊢; split <;> simp_all
        simp only [cntSS]
        omega
  unfold szSS at h ⊢
  by_cases h1 : l - m.length < 0
  · rw [if_pos h1] at h; omega
  · rw [if_neg h1] at h ⊢
    have := key m (l - m.length) (by omega) h
    omega

theorem len_le_cntSS {m : List (List Int)} {r : List Int} (h : r ∈ m) : (r.length : Int) ≤ cntSS m := by
  induction m with
  | nil => simp at h
  | cons x xs ih =>
    unfold cntSS
    have := cntSS_nn xs
    rcases List.mem_cons.1 h with rfl | h
    · omega
    · have := ih h; omega

theorem cntSS_bd {m : List (List Int)} {p r : Nat} (hp : m.length ≤ p) (hr : ∀ x, x ∈ m → x.length ≤ r) : cntSS m ≤ (p : Int) * (r : Int) := by
  have key : ∀ m : List (List Int), (∀ x, x ∈ m → x.length ≤ r) → cntSS m ≤ (m.length : Int) * (r : Int) := by
    intro m
    induction m with
    | nil => intro _; simp [cntSS]
    | cons x xs ih =>
      intro h
      have h1 := h x (by simp)
      have h2 := ih fun y hy => h y (by simp [hy])
      simp only [cntSS, List.length_cons, Int.natCast_add, Int.add_mul, Int.natCast_one, Int.one_mul]
      omega
  have h1 := key m hr
  have h2 : (m.length : Int) * (r : Int) ≤ (p : Int) * (r : Int) := Int.mul_le_mul_of_nonneg_right (by omega) (by omega)
  omega

end Go.Proofs.YtdohepngandajaaDoor
