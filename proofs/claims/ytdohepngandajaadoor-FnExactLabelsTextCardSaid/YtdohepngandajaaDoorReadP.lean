/-
  ReadSame's model: pairs of sets that are reached; the search's invariant.
-/
import Derived.Test.YtdohepngandajaaDoorBase
import Derived.Test.YtdohepngandajaaDoorLab
import Derived.Test.YtdohepngandajaaDoorLabC
import Derived.Test.YtdohepngandajaaDoorLabD
import Derived.Test.YtdohepngandajaaDoorLabM
namespace Go.Proofs.YtdohepngandajaaDoor
open Go.RowKit Go.Deep Go.Sd

/-- Lists of different numbers below a bound are no longer than the bound. -/
theorem nodup_below : ∀ (n : Nat) (l : List Nat), l.Nodup → (∀ x, x ∈ l → x < n) → l.length ≤ n
  | 0, [], _, _ => by simp
  | 0, x :: l, _, h => absurd (h x (by simp)) (by omega)
  | n + 1, l, hn, h => by
    have h1 : (l.filter (fun x => decide (x ≠ n))).length ≤ n := nodup_below n _ (hn.filter _) fun x hx => by
      have h2 := List.mem_filter.1 hx
      have := h x h2.1
      have h3 : x ≠ n := by simpa using h2.2
      omega
    have h2 : l.length ≤ (l.filter (fun x => decide (x ≠ n))).length + 1 := by
      clear h h1
      induction l with
      | nil => simp
      | cons a t ih =>
        have hn' := List.nodup_cons.1 hn
        by_cases e : a = n
        · subst e
          have : t.filter (fun x => decide (x ≠ a)) = t := List.filter_eq_self.2 fun x hx => by
            simp
            exact fun e => hn'.1 (e ▸ hx)
          rw [List.filter_cons, if_neg (by simp), this]
          simp
        · rw [List.filter_cons, if_pos (by simpa using e)]
          have := ih hn'.2
          simp only [List.length_cons]
          omega
    omega

abbrev P2 := Nat × Nat
def codeP (q : P2) : Nat := q.1 * 4096 + q.2
def nextP (A B : List Arc3) (p : P2) (x : Nat) : P2 := (stepN A p.1 (x : Int), stepN B p.2 (x : Int))
def badP (q : P2) : Bool := (q.1 == 0) != (q.2 == 0)
inductive ReachP (A B : List Arc3) (L : Nat) (p0 : P2) : P2 → Prop
  | start : ReachP A B L p0 p0
  | step {p : P2} (x : Nat) : ReachP A B L p0 p → x < L → ReachP A B L p0 (nextP A B p x)
def goodP (A B : List Arc3) (L : Nat) (p0 : P2) : Prop := ∀ p, ReachP A B L p0 p → ∀ x, x < L → badP (nextP A B p x) = false
def doneP (ps : List P2) (q : P2) : Prop := badP q = false ∧ (q = (0, 0) ∨ q ∈ ps)
/-- The pairs ahead of k are done, and k's first x letters. -/
structure InvP (A B : List Arc3) (L : Nat) (p0 : P2) (ps : List P2) (k x : Nat) : Prop where
  first : p0 ∈ ps
  reach : ∀ p, p ∈ ps → ReachP A B L p0 p
  small : ∀ p, p ∈ ps → p.1 < 4096 ∧ p.2 < 4096
  once : ps.Nodup
  ahead : ∀ i p, i < k → ps[i]? = some p → ∀ y, y < L → doneP ps (nextP A B p y)
  row : ∀ p, ps[k]? = some p → ∀ y, y < x → doneP ps (nextP A B p y)
section
variable {A B : List Arc3} {L : Nat} {p0 : P2} {ps : List P2} {k x : Nat}
theorem InvP.start (h : p0.1 < 4096 ∧ p0.2 < 4096) : InvP A B L p0 [p0] 0 0 :=
  ⟨by simp, fun p hp => by simp at hp; subst hp; exact .start, fun p hp => by simp at hp; subst hp; exact h, by simp, fun i p hi => by omega, fun p _ y hy => by omega⟩
theorem InvP.len (h : InvP A B L p0 ps k x) : ps.length ≤ 16777216 := by
  have h1 : (ps.map codeP).Nodup := by
    have := h.once
    rw [List.Nodup, List.pairwise_map]
    refine List.Pairwise.imp_of_mem (fun {a b} ha hb hne e => hne ?_) this
    have h1 := h.small a ha
    have h2 := h.small b hb
    unfold codeP at e
    exact Prod.ext (by omega) (by omega)
  have h2 := nodup_below 16777216 (ps.map codeP) h1 fun y hy => by
    obtain ⟨p, hp, rfl⟩ := List.mem_map.1 hy
    have := h.small p hp
    unfold codeP
    omega
  simpa using h2
theorem InvP.bad (h : InvP A B L p0 ps k x) {p : P2} (hp : ps[k]? = some p) (hx : x < L) (hb : badP (nextP A B p x) = true) : ¬ goodP A B L p0 := fun hg => by
  have := hg p (h.reach p (List.mem_of_getElem? hp)) x hx
  rw [this] at hb
  cases hb
theorem InvP.known (h : InvP A B L p0 ps k x) {p : P2} (hp : ps[k]? = some p) (hb : badP (nextP A B p x) = false) (hm : nextP A B p x = (0, 0) ∨ nextP A B p x ∈ ps) : InvP A B L p0 ps k (x + 1) :=
  ⟨h.first, h.reach, h.small, h.once, h.ahead, fun q hq y hy => by
    rw [hp] at hq
    cases hq
    by_cases e : y = x
    · subst e; exact ⟨hb, hm⟩
    · exact h.row p hp y (by omega)⟩
theorem doneP.snoc {q r : P2} (h : doneP ps q) : doneP (ps ++ [r]) q := ⟨h.1, h.2.imp id fun h => List.mem_append_left _ h⟩
theorem InvP.add (h : InvP A B L p0 ps k x) {p : P2} (hp : ps[k]? = some p) (hx : x < L) (hb : badP (nextP A B p x) = false) (hm : nextP A B p x ∉ ps) (hs : (nextP A B p x).1 < 4096 ∧ (nextP A B p x).2 < 4096) : InvP A B L p0 (ps ++ [nextP A B p x]) k (x + 1) := by
  have hk := (List.getElem?_eq_some_iff.1 hp).1
  refine ⟨List.mem_append_left _ h.first, fun q hq => ?_, fun q hq => ?_, ?_, fun i q hi hq y hy => ?_, fun q hq y hy => ?_⟩
  · rcases List.mem_append.1 hq with hq | hq
    · exact h.reach q hq
    · simp at hq; subst hq; exact .step x (h.reach p (List.mem_of_getElem? hp)) hx
  · rcases List.mem_append.1 hq with hq | hq
    · exact h.small q hq
    · simp at hq; subst hq; exact hs
  · refine List.nodup_append.2 ⟨h.once, by simp, fun a ha b hb' e => ?_⟩
    simp at hb'
    subst e hb'
    exact hm ha
  · rw [List.getElem?_append_left (by omega)] at hq
    exact (h.ahead i q hi hq y hy).snoc
  · rw [List.getElem?_append_left hk, hp] at hq
    cases hq
    by_cases e : y = x
    · subst e; exact ⟨hb, Or.inr (by simp)⟩
    · exact (h.row p hp y (by omega)).snoc
theorem InvP.next (h : InvP A B L p0 ps k L) : InvP A B L p0 ps (k + 1) 0 :=
  ⟨h.first, h.reach, h.small, h.once, fun i p hi hp y hy => by
    by_cases e : i = k
    · subst e; exact h.row p hp y hy
    · exact h.ahead i p (by omega) hp y hy, fun p _ y hy => by omega⟩
theorem stepN_zero (xs : List Arc3) (x : Int) : stepN xs 0 x = 0 := by
  have : ∀ (ys : List Arc3) (o : Nat), stepL 0 x ys o = o := by
    intro ys
    induction ys with
    | nil => intro o; rfl
    | cons a ys ih => intro o; unfold stepL; rw [ih]; simp [hit]
  exact this xs 0
theorem InvP.end (h : InvP A B L p0 ps k 0) (hk : ps.length ≤ k) : goodP A B L p0 := by
  have key : ∀ p, ReachP A B L p0 p → p = (0, 0) ∨ p ∈ ps := by
    intro p hp
    induction hp with
    | start => exact Or.inr h.first
    | @step p x hp hx ih =>
      rcases ih with rfl | ih
      · left; simp [nextP, stepN_zero]
      · obtain ⟨i, hi⟩ := List.getElem?_of_mem ih
        have := (List.getElem?_eq_some_iff.1 hi).1
        exact (h.ahead i p (by omega) hi x hx).2
  intro p hp x hx
  rcases key p hp with rfl | hp
  · simp [nextP, stepN_zero, badP]
  · obtain ⟨i, hi⟩ := List.getElem?_of_mem hp
    have := (List.getElem?_eq_some_iff.1 hi).1
    exact (h.ahead i p (by omega) hi x hx).1
end
open Classical in
noncomputable def readSameM (a b : Lb) : Bool :=
  isLab a && (isLab b && (decide (a.1 = b.1) && decide (goodP a.2.2 b.2.2 a.1.toNat (2 ^ a.2.1.toNat - 1, 2 ^ b.2.1.toNat - 1))))
end Go.Proofs.YtdohepngandajaaDoor
