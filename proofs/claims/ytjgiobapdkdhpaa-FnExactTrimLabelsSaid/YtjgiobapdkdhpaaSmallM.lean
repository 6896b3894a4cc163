/-
  SmallestLabels's model: arcs of a resolving graph by their states and letters; the classes' arcs.
-/
import Derived.Test.YtjgiobapdkdhpaaRows
import Derived.Test.YtjgiobapdkdhpaaBase
import Derived.Test.YtjgiobapdkdhpaaLab
import Derived.Test.YtjgiobapdkdhpaaLabC
import Derived.Test.YtjgiobapdkdhpaaLabD
import Derived.Test.YtjgiobapdkdhpaaLabM
import Derived.Test.YtjgiobapdkdhpaaResolv
import Derived.Test.YtjgiobapdkdhpaaClsM
namespace Go.Proofs.Ytjgiobapdkdhpaa
open Go.RowKit Go.Deep Go.Sd

def akey (a : Arc3) : Int := a.1 * 4 + a.2.2
def SortK (xs : List Arc3) : Prop := xs.Pairwise fun a b => akey a < akey b
theorem sortK_ext : ∀ {xs ys : List Arc3}, SortK xs → SortK ys → (∀ a, a ∈ xs ↔ a ∈ ys) → xs = ys
  | [], [], _, _, _ => rfl
  | [], y :: ys, _, _, h => by have := (h y).2 (by simp); cases this
  | x :: xs, [], _, _, h => by have := (h x).1 (by simp); cases this
  | x :: xs, y :: ys, hx, hy, h => by
    unfold SortK at hx hy
    rw [List.pairwise_cons] at hx hy
    have e : x = y := by
      have h1 := (h x).1 (by simp)
      have h2 := (h y).2 (by simp)
      rcases List.mem_cons.1 h1 with e | h1
      · exact e
      · rcases List.mem_cons.1 h2 with e | h2
        · exact e.symm
        · have := hx.1 y h2; have := hy.1 x h1; omega
    subst e
    congr 1
    refine sortK_ext hx.2 hy.2 fun a => ?_
    have ha := h a
    simp only [List.mem_cons] at ha
    constructor
    · intro h1
      rcases ha.1 (Or.inr h1) with e | h2
      · subst e; have := hx.1 a h1; omega
      · exact h2
    · intro h1
      rcases ha.2 (Or.inr h1) with e | h2
      · subst e; have := hy.1 a h1; omega
      · exact h2
def okArc (L n : Nat) (a : Arc3) : Prop := 0 ≤ a.1 ∧ a.1 < (n : Int) ∧ 0 ≤ a.2.1 ∧ a.2.1 < (n : Int) ∧ 0 ≤ a.2.2 ∧ a.2.2 < (L : Int)
def isAt (p x : Nat) (a : Arc3) : Bool := decide (a.1 = (p : Int)) && decide (a.2.2 = (x : Int))
def arcAt (xs : List Arc3) (p x : Nat) : Option Arc3 := xs.find? (isAt p x)
def tgt (xs : List Arc3) (p x : Nat) : Option Nat := (arcAt xs p x).map fun a => a.2.1.toNat
theorem arcAt_some {xs : List Arc3} {p x : Nat} {a : Arc3} (h : arcAt xs p x = some a) : a ∈ xs ∧ a.1 = (p : Int) ∧ a.2.2 = (x : Int) := by
  have h1 := List.mem_of_find?_eq_some h
  have h2 := List.find?_some h
  unfold isAt at h2
  simp only [Bool.and_eq_true, decide_eq_true_eq] at h2
  exact ⟨h1, h2.1, h2.2⟩
theorem tgt_lt {L n : Nat} {xs : List Arc3} (ho : ∀ a, a ∈ xs → okArc L n a) (p x q : Nat) (h : tgt xs p x = some q) : q < n := by
  unfold tgt at h
  obtain ⟨a, ha, rfl⟩ := Option.map_eq_some_iff.1 h
  have := ho a (arcAt_some ha).1
  unfold okArc at this
  omega
def rowX (L : Nat) (xs : List Arc3) (p : Nat) : List Arc3 := (List.range L).filterMap fun x => arcAt xs p x
theorem sortK_inj : ∀ {xs : List Arc3}, SortK xs → ∀ {a b : Arc3}, a ∈ xs → b ∈ xs → akey a = akey b → a = b
  | [], _, a, _, ha, _, _ => by cases ha
  | x :: xs, h, a, b, ha, hb, e => by
    unfold SortK at h
    rw [List.pairwise_cons] at h
    rcases List.mem_cons.1 ha with ea | ha2
    · rcases List.mem_cons.1 hb with eb | hb2
      · rw [ea, eb]
      · have := h.1 b hb2; rw [ea] at e; omega
    · rcases List.mem_cons.1 hb with eb | hb2
      · have := h.1 a ha2; rw [eb] at e; omega
      · exact sortK_inj h.2 ha2 hb2 e
theorem rows_eq {L n : Nat} {xs : List Arc3} (hL : L ≤ 4) (ho : ∀ a, a ∈ xs → okArc L n a) (hs : SortK xs) : (List.range n).flatMap (rowX L xs) = xs := by
  refine sortK_ext ?_ hs fun a => ?_
  · unfold SortK
    rw [List.pairwise_flatMap]
    refine ⟨fun p _ => ?_, ?_⟩
    · unfold rowX
      rw [List.pairwise_filterMap]
      refine List.Pairwise.imp_of_mem ?_ List.pairwise_lt_range
      intro x y _ _ hxy a ha b hb
      have h1 := arcAt_some ha
      have h2 := arcAt_some hb
      unfold akey
      omega
    · refine List.Pairwise.imp_of_mem ?_ List.pairwise_lt_range
      intro p q _ _ hpq a ha b hb
      unfold rowX at ha hb
      obtain ⟨x, hx, ha⟩ := List.mem_filterMap.1 ha
      obtain ⟨y, hy, hb⟩ := List.mem_filterMap.1 hb
      have h1 := arcAt_some ha
      have h2 := arcAt_some hb
      simp at hx hy
      unfold akey
      omega
  · constructor
    · intro h
      obtain ⟨p, _, h⟩ := List.mem_flatMap.1 h
      obtain ⟨x, _, h⟩ := List.mem_filterMap.1 h
      exact (arcAt_some h).1
    · intro h
      have h1 := ho a h
      unfold okArc at h1
      obtain ⟨a0, a1, a2⟩ := a
      simp only at h1
      obtain ⟨p, rfl⟩ := Int.eq_ofNat_of_zero_le h1.1
      obtain ⟨x, rfl⟩ := Int.eq_ofNat_of_zero_le h1.2.2.2.2.1
      refine List.mem_flatMap.2 ⟨p, by simp; omega, List.mem_filterMap.2 ⟨x, by simp; omega, ?_⟩⟩
      cases hf : arcAt xs p x with
      | none =>
        have := List.find?_eq_none.1 hf _ h
        simp [isAt] at this
      | some b =>
        have h2 := arcAt_some hf
        congr 1
        exact sortK_inj hs h2.1 h (by unfold akey; simp only; omega)
section
variable (R : Nat → Nat → Bool)
def smRen (a : Arc3) : Arc3 := ((num R a.1.toNat : Int), (num R a.2.1.toNat : Int), a.2.2)
def smA (xs : List Arc3) : List Arc3 := (xs.filter fun a => isRep R a.1.toNat).map (smRen R)
def smRow (L : Nat) (xs : List Arc3) (p : Nat) : List Arc3 := (List.range L).filterMap fun x => (tgt xs p x).map fun q => ((num R p : Int), (num R q : Int), (x : Int))
def smB (L n : Nat) (xs : List Arc3) : List Arc3 := (List.range n).flatMap fun p => if isRep R p = true then smRow R L xs p else []
end
theorem smRow_eq {R : Nat → Nat → Bool} {L : Nat} {xs : List Arc3} {p : Nat} : ((rowX L xs p).filter fun a => isRep R a.1.toNat).map (smRen R) = if isRep R p = true then smRow R L xs p else [] := by
  unfold rowX smRow tgt
  generalize List.range L = l
  induction l with
  | nil => split <;> rfl
  | cons x l ih =>
    cases h : arcAt xs p x with
    | none =>
      rw [List.filterMap_cons_none h, ih]
      split
      · rw [List.filterMap_cons_none (by rw [h]; rfl)]
      · rfl
    | some a =>
      have h1 := arcAt_some h
      rw [List.filterMap_cons_some h, List.filter_cons]
      have e : a.1.toNat = p := by omega
      rw [e]
      by_cases hr : isRep R p = true
      · rw [if_pos hr, List.map_cons, ih, if_pos hr, if_pos hr, List.filterMap_cons_some (by rw [h]; rfl)]
        unfold smRen
        rw [e, h1.2.2]
      · rw [if_neg hr, ih, if_neg hr, if_neg hr]
theorem filter_flatMap' {α β : Type} (f : α → List β) (P : β → Bool) : ∀ l : List α, (l.flatMap f).filter P = l.flatMap fun a => (f a).filter P
  | [] => rfl
  | a :: l => by simp only [List.flatMap_cons, List.filter_append, filter_flatMap' f P l]
theorem map_flatMap' {α β γ : Type} (f : α → List β) (g : β → γ) : ∀ l : List α, (l.flatMap f).map g = l.flatMap fun a => (f a).map g
  | [] => rfl
  | a :: l => by simp only [List.flatMap_cons, List.map_append, map_flatMap' f g l]
theorem smB_eq {R : Nat → Nat → Bool} {L n : Nat} {xs : List Arc3} (hL : L ≤ 4) (ho : ∀ a, a ∈ xs → okArc L n a) (hs : SortK xs) : smB R L n xs = smA R xs := by
  conv => rhs; unfold smA; rw [← rows_eq hL ho hs, filter_flatMap', map_flatMap']
  unfold smB
  congr 1
  funext p
  exact smRow_eq.symm
/-! Out of the graph's own tests. -/
theorem allF_get {f : Nat → Bool} {m : Nat} (h : allF f m 0 = true) {j : Nat} (hj : j < m) : f j = true := by have := allF_at h j hj; rwa [Nat.zero_add] at this
theorem isLab_arcs {l : Lb} (h : isLab l = true) : ∀ a, a ∈ l.2.2 → okArc l.1.toNat l.2.1.toNat a := by
  have h0 := isLab_ok h
  unfold isLab at h
  rw [Bool.and_eq_true, Bool.and_eq_true] at h
  intro a ha
  obtain ⟨k, hk⟩ := List.getElem?_of_mem ha
  have h1 := allF_get h.2.2 (List.getElem?_eq_some_iff.1 hk).1
  unfold arcB at h1
  rw [Bool.and_eq_true, at3_of hk] at h1
  have h2 := h1.1
  unfold arcOk at h2
  rw [decide_eq_true_eq] at h2
  unfold okArc
  omega
theorem resolv_sort {l : Lb} (h : resolvM l = true) : SortK l.2.2 := by
  unfold resolvM at h
  rw [Bool.and_eq_true] at h
  have ho := isLab_arcs h.1
  have h1 := h.1
  unfold isLab at h1
  rw [Bool.and_eq_true, Bool.and_eq_true] at h1
  have hL : l.1.toNat ≤ 3 := by have := (isLab_ok h.1).2.2.2; omega
  have step : ∀ k a b, l.2.2[k]? = some a → l.2.2[k + 1]? = some b → akey a < akey b := by
    intro k a b ha hb
    have hk := (List.getElem?_eq_some_iff.1 hb).1
    have e1 := allF_get h1.2.2 hk
    have e2 := allF_get h.2 hk
    unfold arcB at e1
    unfold resB at e2
    rw [Nat.add_sub_cancel, at3_of ha, at3_of hb] at e1 e2
    simp only [Bool.and_eq_true, Bool.or_eq_true, decide_eq_true_eq, Nat.add_one_ne_zero, false_or, Bool.not_eq_true', Bool.and_eq_false_iff, decide_eq_false_iff_not] at e1 e2
    have hb1 := e1.2
    unfold before at hb1
    have o1 := ho a (List.mem_of_getElem? ha)
    have o2 := ho b (List.mem_of_getElem? hb)
    unfold okArc at o1 o2
    unfold akey
    by_cases c1 : a.1 = b.1
    · rw [if_neg (by simp [c1])] at hb1
      by_cases c2 : a.2.2 = b.2.2
      · exact absurd c2 (by rcases e2 with e2 | e2; exact absurd c1 e2; exact e2)
      · rw [if_pos c2, decide_eq_true_eq] at hb1; omega
    · rw [if_pos c1, decide_eq_true_eq] at hb1; omega
  unfold SortK
  rw [List.pairwise_iff_getElem]
  have key : ∀ d i (hi : i < l.2.2.length) (hj : i + (d + 1) < l.2.2.length), akey l.2.2[i] < akey l.2.2[i + (d + 1)] := by
    intro d
    induction d with
    | zero => intro i hi hj; exact step i _ _ (List.getElem?_eq_getElem hi) (List.getElem?_eq_getElem hj)
    | succ d ih =>
      intro i hi hj
      have h2 := ih i hi (by omega)
      have h3 := step (i + (d + 1)) _ _ (List.getElem?_eq_getElem (by omega)) (List.getElem?_eq_getElem (by omega))
      have e : i + (d + 1) + 1 = i + (d + 1 + 1) := by omega
      simp only [e] at h3
      omega
  intro i j hi hj hij
  obtain ⟨d, rfl⟩ : ∃ d, j = i + (d + 1) := ⟨j - i - 1, by omega⟩
  exact key d i hi hj
def clR (l : Lb) : Nat → Nat → Bool := Rk l.1.toNat (tgt l.2.2) (l.2.1.toNat * l.2.1.toNat)
def smallV (l : Lb) : Lb := if resolvM l = true then (l.1, (cntR (clR l) l.2.1.toNat : Int), smA (clR l) l.2.2) else (0, 0, [])
theorem smA_len (R : Nat → Nat → Bool) (xs : List Arc3) : (smA R xs).length ≤ xs.length := by
  unfold smA; rw [List.length_map]; exact List.length_filter_le _ _
theorem smallV_len (l : Lb) : (smallV l).2.2.length ≤ l.2.2.length := by
  unfold smallV
  split
  · exact smA_len _ _
  · simp
end Go.Proofs.Ytjgiobapdkdhpaa
