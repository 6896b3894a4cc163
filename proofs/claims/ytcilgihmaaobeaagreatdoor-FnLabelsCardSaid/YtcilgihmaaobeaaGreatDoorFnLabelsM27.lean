/-
  Laws for this claim's walks, contracts of the functions that it reaches.
-/
import Derived.Test.YtcilgihmaaobeaaGreatDoorFnLabelsM23
set_option linter.unusedVariables false
set_option linter.unusedSimpArgs false
section
namespace Go.Proofs.YtcilgihmaaobeaaGreatDoor
open Go.RowKit Go.Deep Go.Sd
/-! Texts as lists of bytes. -/
theorem occB_infix (w f : ByteArray) : occB w f = true ↔ f.data.toList <:+: w.data.toList := by
  rw [occB_iff]
  constructor
  · rintro ⟨i, h1, h2⟩
    rw [← h2, extract_list]
    exact (List.take_prefix _ _).isInfix.trans (List.drop_suffix _ _).isInfix
  · rintro ⟨s, t, h⟩
    have hl := congrArg List.length h
    rw [List.length_append, List.length_append, size_list, size_list] at hl
    refine ⟨s.length, by omega, ?_⟩
    apply ByteArray.ext
    apply Array.toList_inj.1
    rw [extract_list, ← h, List.append_assoc, List.drop_left, show s.length + f.size - s.length = f.data.toList.length by rw [size_list]; omega, List.take_left]
def avoP (F : List ByteArray) (l : List UInt8) : Prop := ∀ f, f ∈ F → ¬ f.data.toList <:+: l
theorem avoM_iff (F : List ByteArray) (s : ByteArray) : avoM F s = true ↔ avoP F s.data.toList := by
  unfold avoM avoP
  rw [List.all_eq_true]
  refine forall_congr' fun f => forall_congr' fun _ => ?_
  rw [Bool.not_eq_true', ← Bool.not_eq_true, occB_infix]
theorem avoM_word (F : List ByteArray) (u : List Nat) : avoM F (wordT u) = true ↔ avoP F (bl u) := avoM_iff F (wordT u)
theorem avoP.sub {F : List ByteArray} {l l' : List UInt8} (h : avoP F l) (hs : l' <:+: l) : avoP F l' := fun f hf hi => h f hf (hi.trans hs)
/-- The forbidden words are short, and not empty. -/
def ShortF (F : List ByteArray) : Prop := ∀ f, f ∈ F → 1 ≤ f.size ∧ f.size ≤ 3
theorem shiftP.short {s : Sh} (h : shiftP s) : ShortF s.2 := fun f hf => by
  obtain ⟨k, hk⟩ := List.getElem?_of_mem hf
  exact ⟨(h.2.2 k f hk).2.1, (h.2.2 k f hk).2.2.1⟩
section
variable {F : List ByteArray} (hF : ShortF F)
include hF
theorem avo_nil : avoP F [] := fun f hf hi => by
  have h1 := hi.length_le
  rw [size_list, List.length_nil] at h1
  have := hF f hf
  omega
theorem avo_cons {a b c : UInt8} {r : List UInt8} (h1 : avoP F [a, b, c]) (h2 : avoP F (b :: c :: r)) : avoP F (a :: b :: c :: r) := fun f hf hi => by
  rcases List.infix_cons_iff.1 hi with h | h
  · refine h1 f hf (List.IsPrefix.isInfix ?_)
    refine List.prefix_of_prefix_length_le h (l₂ := [a, b, c]) ⟨r, rfl⟩ ?_
    rw [size_list]
    exact (hF f hf).2
  · exact h2 f hf h
theorem avo_snoc {x y z : UInt8} (h1 : avoP F [z, y, x]) : ∀ {u : List UInt8}, avoP F (u ++ [z, y]) → avoP F (u ++ [z, y, x])
  | [], _ => h1
  | a :: u, h => by
    have h2 : avoP F (u ++ [z, y]) := h.sub (List.suffix_cons _ _).isInfix
    have h3 := avo_snoc h1 h2
    match u, h, h2, h3 with
    | [], h, _, h3 => exact avo_cons hF h h3
    | [b], h, _, h3 => exact avo_cons hF (h.sub ⟨[], [y], rfl⟩) h3
    | b :: c :: r, h, _, h3 => exact avo_cons hF (h.sub ⟨[], r ++ [z, y], by simp⟩) h3
end
/-! All words. -/
theorem allW_of {L : Nat} : ∀ {n : Nat} {w : List Nat}, w.length = n → (∀ x, x ∈ w → x < L) → w ∈ allW L n
  | 0, w, h, _ => by
    rw [List.length_eq_zero_iff] at h
    subst h
    simp [allW]
  | n + 1, w, h, hx => by
    rcases List.eq_nil_or_concat w with e | ⟨u, x, e⟩
    · subst e; cases h
    · rw [List.concat_eq_append] at e
      subst e
      unfold allW
      rw [List.mem_flatMap]
      refine ⟨u, allW_of (by simpa using h) (fun y hy => hx y (by simp [hy])), ?_⟩
      rw [List.mem_map]
      exact ⟨x, List.mem_range.2 (hx x (by simp)), rfl⟩
theorem bt_inj {a b : Nat} (ha : a < 3) (hb : b < 3) (h : UInt8.ofNat (97 + a) = UInt8.ofNat (97 + b)) : a = b := by
  have := congrArg UInt8.toNat h
  simp at this
  omega
theorem bl_inj : ∀ {u v : List Nat}, (∀ x, x ∈ u → x < 3) → (∀ x, x ∈ v → x < 3) → bl u = bl v → u = v
  | [], [], _, _, _ => rfl
  | [], _ :: _, _, _, h => by cases h
  | _ :: _, [], _, _, h => by cases h
  | a :: u, b :: v, hu, hv, h => by
    have h' := List.cons.inj (show UInt8.ofNat (97 + a) :: bl u = UInt8.ofNat (97 + b) :: bl v from h)
    rw [bt_inj (hu a (by simp)) (hv b (by simp)) h'.1, bl_inj (fun x hx => hu x (by simp [hx])) (fun x hx => hv x (by simp [hx])) h'.2]
theorem wordT_inj {u v : List Nat} (hu : ∀ x, x ∈ u → x < 3) (hv : ∀ x, x ∈ v → x < 3) (h : wordT u = wordT v) : u = v :=
  bl_inj hu hv (congrArg (fun b : ByteArray => b.data.toList) h)
/-! The pairs. -/
theorem goesB_iff {F : List ByteArray} {u v : List Nat} : goesB F u v = true ↔ u.getD 1 0 = v.getD 0 0 ∧ avoP F (bl (u ++ v.drop 1)) := by
  unfold goesB
  rw [Bool.and_eq_true, decide_eq_true_eq, avoM_word]
theorem on_live {E : Nat → Nat → Prop} {n i : Nat} : On (liveL E n) i ↔ Gr E n i := by
  constructor
  · intro h
    have hi : i < n := by have := h.lt; rw [liveL_len] at this; exact this
    unfold On liveL at h
    simp [hi] at h
    exact h
  · intro h
    have hi := h.both.1
    unfold On liveL
    simp [hi, h]
theorem pairs_iff {F : List ByteArray} {L : Nat} {p : List Nat} : p ∈ pairsM F L ↔ ∃ i, Gr (EG F (avoW F L)) (avoW F L).length i ∧ (avoW F L)[i]? = some p := by
  unfold pairsM
  rw [pick_mem]
  exact exists_congr fun i => and_congr_left fun _ => on_live
theorem pairs_sub {F : List ByteArray} {L : Nat} {p : List Nat} (h : p ∈ pairsM F L) : p ∈ avoW F L := by
  obtain ⟨i, _, h⟩ := pairs_iff.1 h
  exact List.mem_of_getElem? h
theorem pairs_succ {F : List ByteArray} {L : Nat} {p : List Nat} (h : p ∈ pairsM F L) : ∃ q, q ∈ pairsM F L ∧ goesB F p q = true := by
  obtain ⟨i, hg, h⟩ := pairs_iff.1 h
  obtain ⟨-, ⟨j, hj, u, v, hu, hv, hgo⟩, -⟩ := hg.both
  rw [h] at hu
  cases hu
  exact ⟨v, pairs_iff.2 ⟨j, hj, hv⟩, hgo⟩
theorem pairs_pred {F : List ByteArray} {L : Nat} {p : List Nat} (h : p ∈ pairsM F L) : ∃ q, q ∈ pairsM F L ∧ goesB F q p = true := by
  obtain ⟨i, hg, h⟩ := pairs_iff.1 h
  obtain ⟨-, -, j, hj, u, v, hu, hv, hgo⟩ := hg.both
  rw [h] at hv
  cases hv
  exact ⟨u, pairs_iff.2 ⟨j, hj, hu⟩, hgo⟩
theorem pairs_max {F : List ByteArray} {L : Nat} {T : List Nat → Prop} (hT : ∀ p, T p → p ∈ avoW F L ∧ (∃ q, T q ∧ goesB F p q = true) ∧ ∃ q, T q ∧ goesB F q p = true) {p : List Nat} (h : T p) : p ∈ pairsM F L := by
  obtain ⟨i, hi⟩ := List.getElem?_of_mem (hT p h).1
  refine pairs_iff.2 ⟨i, ⟨fun k => ∃ q, (avoW F L)[k]? = some q ∧ T q, ?_, p, hi, h⟩, hi⟩
  rintro k ⟨q, hq, hTq⟩
  obtain ⟨-, ⟨r, hr, h1⟩, s, hs, h2⟩ := hT q hTq
  obtain ⟨j, hj⟩ := List.getElem?_of_mem (hT r hr).1
  obtain ⟨m, hm⟩ := List.getElem?_of_mem (hT s hs).1
  exact ⟨(List.getElem?_eq_some_iff.1 hq).1, ⟨j, ⟨r, hj, hr⟩, q, r, hq, hj, h1⟩, m, ⟨s, hm, hs⟩, s, q, hm, hq, h2⟩
theorem avoW_iff {F : List ByteArray} {L : Nat} (h0 : 0 < L) {p : List Nat} : p ∈ avoW F L ↔ (∃ a b, p = [a, b] ∧ a < L ∧ b < L) ∧ avoP F (bl p) := by
  unfold avoW
  rw [List.mem_filter, avoM_word]
  refine and_congr_left fun _ => ⟨fun h => ?_, ?_⟩
  · obtain ⟨h1, h2⟩ := allW_mem h0 h
    match p, h1 with
    | [a, b], _ => exact ⟨a, b, rfl, h2 a (by simp), h2 b (by simp)⟩
  · rintro ⟨a, b, rfl, ha, hb⟩
    refine allW_of rfl fun x hx => ?_
    simp at hx
    rcases hx with rfl | rfl
    · exact ha
    · exact hb
theorem has_iff {L : Nat} (h3 : L ≤ 3) {P : List (List Nat)} (hP : ∀ p, p ∈ P → ∀ x, x ∈ p → x < L) {u : List Nat} (hu : ∀ x, x ∈ u → x < L) : hasB (P.map wordT) (wordT u) = true ↔ u ∈ P := by
  rw [hasB_iff, List.mem_map]
  constructor
  · rintro ⟨p, hp, e⟩
    rw [← wordT_inj (fun x hx => by have := hP p hp x hx; omega) (fun x hx => by have := hu x hx; omega) e]
    exact hp
  · exact fun h => ⟨u, h, rfl⟩
theorem pairs_let {F : List ByteArray} {L : Nat} (h0 : 0 < L) {p : List Nat} (h : p ∈ pairsM F L) : ∀ x, x ∈ p → x < L := by
  obtain ⟨⟨a, b, rfl, ha, hb⟩, -⟩ := (avoW_iff h0).1 (pairs_sub h)
  intro x hx
  simp at hx
  rcases hx with rfl | rfl
  · exact ha
  · exact hb
theorem states_iff {F : List ByteArray} {L : Nat} (h0 : 0 < L) (h3 : L ≤ 3) {p : List Nat} : p ∈ statesM F L ↔ p ∈ pairsM F L := by
  unfold statesM
  rw [List.mem_filter, Bool.and_eq_true]
  constructor
  · rintro ⟨h1, -, h2⟩
    exact (has_iff h3 (fun p hp => pairs_let h0 hp) (allW_mem h0 h1).2).1 h2
  · intro h
    have h1 := pairs_sub h
    unfold avoW at h1
    rw [List.mem_filter] at h1
    exact ⟨h1.1, h1.2, (has_iff h3 (fun p hp => pairs_let h0 hp) (pairs_let h0 h)).2 h⟩
/-! The graph. -/
/-- The arcs from one state, and all. -/
def garcR (F : List ByteArray) (W : List (List Nat)) (i m : Nat) : List Arc3 := ((List.range m).filter fun j => goesB F (W.getD i []) (W.getD j [])).map fun j : Nat => ((i : Int), (j : Int), (((W.getD j []).getD 1 0 : Nat) : Int))
def garcs (F : List ByteArray) (W : List (List Nat)) (k : Nat) : List Arc3 := (List.range k).flatMap fun i => garcR F W i W.length
theorem garcs_succ (F : List ByteArray) (W : List (List Nat)) (k : Nat) : garcs F W (k + 1) = garcs F W k ++ garcR F W k W.length := by
  unfold garcs
  rw [List.range_succ, List.flatMap_append]
  simp
theorem garcR_succ (F : List ByteArray) (W : List (List Nat)) (i m : Nat) : garcR F W i (m + 1) = garcR F W i m ++ (if goesB F (W.getD i []) (W.getD m []) = true then [((i : Int), (m : Int), (((W.getD m []).getD 1 0 : Nat) : Int))] else []) := by
  unfold garcR
  rw [List.range_succ, List.filter_append, List.map_append]
  congr 1
  rw [List.filter_cons]
  split <;> rfl
theorem garcs_mem {F : List ByteArray} {W : List (List Nat)} {k : Nat} {a : Arc3} : a ∈ garcs F W k ↔ ∃ i j : Nat, i < k ∧ j < W.length ∧ goesB F (W.getD i []) (W.getD j []) = true ∧ a = ((i : Int), (j : Int), (((W.getD j []).getD 1 0 : Nat) : Int)) := by
  unfold garcs garcR
  rw [List.mem_flatMap]
  constructor
  · rintro ⟨i, hi, h⟩
    obtain ⟨j, hj, rfl⟩ := List.mem_map.1 h
    rw [List.mem_filter] at hj
    exact ⟨i, j, List.mem_range.1 hi, List.mem_range.1 hj.1, hj.2, rfl⟩
  · rintro ⟨i, j, hi, hj, hg, rfl⟩
    exact ⟨i, List.mem_range.2 hi, List.mem_map.2 ⟨j, List.mem_filter.2 ⟨List.mem_range.2 hj, hg⟩, rfl⟩⟩
noncomputable def lofOk (s : Sh) : Bool := shiftM s && decide ((statesM s.2 s.1.toNat).length ≠ 0)
noncomputable def lofV (s : Sh) : Lb := if lofOk s = true then (s.1, ((statesM s.2 s.1.toNat).length : Int), garcs s.2 (statesM s.2 s.1.toNat) (statesM s.2 s.1.toNat).length) else (0, 0, [])
/-- Words of two letters in order. -/
def Lex2 (W : List (List Nat)) : Prop := W.Pairwise fun u v => u.getD 0 0 < v.getD 0 0 ∨ (u.getD 0 0 = v.getD 0 0 ∧ u.getD 1 0 < v.getD 1 0)
theorem allW_lex {L : Nat} (h0 : 0 < L) : Lex2 (allW L 2) := by
  unfold Lex2
  rw [allW_eq h0, List.pairwise_map]
  refine List.Pairwise.imp_of_mem (R := fun a b => a < b) (fun {a b} ha hb hab => ?_) List.pairwise_lt_range
  have ha := List.mem_range.1 ha
  have hb := List.mem_range.1 hb
  have ea : (wordD L 2 a).getD 0 0 = a / L % L ∧ (wordD L 2 a).getD 1 0 = a % L := ⟨rfl, rfl⟩
  have eb : (wordD L 2 b).getD 0 0 = b / L % L ∧ (wordD L 2 b).getD 1 0 = b % L := ⟨rfl, rfl⟩
  rw [ea.1, ea.2, eb.1, eb.2]
  rw [Nat.pow_two] at ha hb
  have ha2 : a / L < L := Nat.div_lt_of_lt_mul ha
  have hb2 : b / L < L := Nat.div_lt_of_lt_mul hb
  rw [Nat.mod_eq_of_lt ha2, Nat.mod_eq_of_lt hb2]
  have h1 : a / L ≤ b / L := Nat.div_le_div_right (Nat.le_of_lt hab)
  have e1 := Nat.div_add_mod a L
  have e2 := Nat.div_add_mod b L
  by_cases e : a / L = b / L
  · right
    refine ⟨e, ?_⟩
    rw [e] at e1
    omega
  · left
    omega
theorem states_lex (F : List ByteArray) {L : Nat} (h0 : 0 < L) : Lex2 (statesM F L) := (allW_lex h0).filter _
theorem states_len (F : List ByteArray) {L : Nat} (h0 : 0 < L) (h3 : L ≤ 3) : (statesM F L).length ≤ 9 := by
  have h1 : (statesM F L).length ≤ (allW L 2).length := List.length_filter_le _ _
  rw [allW_len h0] at h1
  exact Nat.le_trans h1 (Nat.pow_le_pow_left h3 2)
theorem getD_of {W : List (List Nat)} {i : Nat} {p : List Nat} (h : W[i]? = some p) : W.getD i [] = p := by simp [List.getD, h]
theorem at_of {W : List (List Nat)} {i : Nat} (h : i < W.length) : W[i]? = some (W.getD i []) := by simp [List.getD, List.getElem?_eq_getElem h]
theorem garcs_sort {F : List ByteArray} {W : List (List Nat)} (hW : Lex2 W) (hx : ∀ p, p ∈ W → p.getD 1 0 < 3) (k : Nat) : SortK (garcs F W k) := by
  have hrow : ∀ i, SortK (garcR F W i W.length) := fun i => by
    unfold SortK garcR
    rw [List.pairwise_map]
    refine List.Pairwise.imp_of_mem (R := fun a b => a < b) (fun {a b} ha hb hab => ?_) (List.pairwise_lt_range.filter _)
    rw [List.mem_filter] at ha hb
    have la := List.mem_range.1 ha.1
    have lb := List.mem_range.1 hb.1
    have ga := (goesB_iff.1 ha.2).1
    have gb := (goesB_iff.1 hb.2).1
    have h := List.pairwise_iff_getElem.1 hW a b la lb hab
    have e1 : W[a] = W.getD a [] := by simp [List.getD, List.getElem?_eq_getElem la]
    have e2 : W[b] = W.getD b [] := by simp [List.getD, List.getElem?_eq_getElem lb]
    rw [e1, e2] at h
    unfold akey
    simp only
    omega
  induction k with
  | zero => exact List.Pairwise.nil
  | succ k ih =>
    rw [garcs_succ]
    unfold SortK
    rw [List.pairwise_append]
    refine ⟨ih, hrow k, fun a ha b hb => ?_⟩
    obtain ⟨i, j, hi, hj, -, rfl⟩ := garcs_mem.1 ha
    unfold garcR at hb
    obtain ⟨m, hm, rfl⟩ := List.mem_map.1 hb
    have h1 := hx (W.getD j []) (List.mem_of_getElem? (at_of hj))
    unfold akey
    simp only
    omega
theorem states_let {F : List ByteArray} {L : Nat} (h0 : 0 < L) {p : List Nat} (h : p ∈ statesM F L) : ∃ a b, p = [a, b] ∧ a < L ∧ b < L := by
  obtain ⟨h1, h2⟩ := allW_mem h0 (List.mem_filter.1 h).1
  match p, h1 with
  | [a, b], _ => exact ⟨a, b, rfl, h2 a (by simp), h2 b (by simp)⟩
theorem garcs_ok {F : List ByteArray} {L : Nat} (h0 : 0 < L) : ∀ a, a ∈ garcs F (statesM F L) (statesM F L).length → okArc L (statesM F L).length a := by
  intro a ha
  obtain ⟨i, j, hi, hj, -, rfl⟩ := garcs_mem.1 ha
  obtain ⟨x, y, e, -, hy⟩ := states_let h0 (List.mem_of_getElem? (at_of hj))
  rw [e]
  unfold okArc
  simp
  omega
theorem lof_resolv {s : Sh} (h : lofOk s = true) : resolvM (lofV s) = true := by
  unfold lofV
  rw [if_pos h]
  unfold lofOk at h
  rw [Bool.and_eq_true, decide_eq_true_eq] at h
  obtain ⟨h1, -, -⟩ := shiftM_of h.1
  obtain ⟨L, F⟩ := s
  simp only at h1 h ⊢
  obtain ⟨N, rfl⟩ : ∃ N : Nat, L = (N : Int) := ⟨L.toNat, by omega⟩
  simp only [Int.toNat_natCast] at h ⊢
  have h0 : 0 < N := by omega
  have h9 := states_len F h0 (by omega)
  refine resolv_of h1 ⟨by simp only; omega, by simp only; omega⟩ ?_ (garcs_sort (states_lex F h0) (fun p hp => ?_) _)
  · intro a ha
    simp only [Int.toNat_natCast]
    exact garcs_ok h0 a ha
  · obtain ⟨a, b, rfl, -, hb⟩ := states_let h0 hp
    simp
    omega
/-! Reading. -/
/-- Is a word in the language, for some pairs? -/
def inM (F P : List ByteArray) (s : ByteArray) : Bool :=
  decide (P.length ≠ 0) && (avoM F s && (if 2 ≤ s.size then hasB P (s.extract 0 2) && hasB P (s.extract (s.size - 2) s.size) else P.any fun p => occB p s))
noncomputable def lanM (s : Sh) (n : Int) : List ByteArray := if (shiftM s && decide (0 ≤ n ∧ n ≤ 6)) = true then ((allW s.1.toNat n.toNat).filter fun wd => inM s.2 ((pairsM s.2 s.1.toNat).map wordT) (wordT wd)).map wordT else []
/-- What is reached from all states by a word. -/
def rdN (F : List ByteArray) (W : List (List Nat)) (wd : List Nat) : Nat := readB (garcs F W W.length) (bl wd) (allN (W.length : Int))
theorem rdN_nil {F : List ByteArray} {W : List (List Nat)} {j : Nat} : (rdN F W []).testBit j = true ↔ j < W.length := by
  unfold rdN
  show (allN (W.length : Int)).testBit j = true ↔ _
  rw [allN_bit]
  simp
theorem rdN_snoc {F : List ByteArray} {W : List (List Nat)} {wd : List Nat} {x j : Nat} (hx : x < 3) : (rdN F W (wd ++ [x])).testBit j = true ↔ ∃ i, (rdN F W wd).testBit i = true ∧ i < W.length ∧ j < W.length ∧ goesB F (W.getD i []) (W.getD j []) = true ∧ (W.getD j []).getD 1 0 = x := by
  have e : rdN F W (wd ++ [x]) = stepN (garcs F W W.length) (rdN F W wd) (x : Int) := by
    unfold rdN
    rw [bl_append, readB_append]
    show stepN _ _ (((UInt8.ofNat (97 + x)).toNat : Int) - 97) = _
    congr 1
    simp
    omega
  rw [e, stepN_bit]
  constructor
  · rintro ⟨a, ha, h1, h2, h3⟩
    obtain ⟨i, k, hi, hk, hg, rfl⟩ := garcs_mem.1 ha
    simp only [Int.toNat_natCast] at h1 h2 h3
    subst h3
    exact ⟨i, h2, hi, hk, hg, by omega⟩
  · rintro ⟨i, h1, hi, hj, hg, h2⟩
    exact ⟨_, garcs_mem.2 ⟨i, j, hi, hj, hg, rfl⟩, by simp only; omega, by simpa using h1, by simp⟩
section
variable {F : List ByteArray} {L : Nat} (hF : ShortF F) (h0 : 0 < L) (h3 : L ≤ 3)
include hF h0 h3
/-- What is read is avoiding, begins and ends with pairs. -/
theorem read_inv : ∀ (n : Nat) {wd : List Nat} {j : Nat}, wd.length = n → (∀ x, x ∈ wd → x < L) → (rdN F (statesM F L) wd).testBit j = true →
    ∃ p, (statesM F L)[j]? = some p ∧ avoP F (bl wd) ∧ (∀ u x, wd = u ++ [x] → p.getD 1 0 = x) ∧ (∀ u y x, wd = u ++ [y, x] → p = [y, x] ∧ wd.take 2 ∈ statesM F L)
  | 0, wd, j, hl, _, hj => by
    rw [List.length_eq_zero_iff] at hl
    subst hl
    have hj := rdN_nil.1 hj
    exact ⟨_, at_of hj, avo_nil hF, fun u x h => by simp at h, fun u y x h => by simp at h⟩
  | n + 1, wd, j, hl, hx, hj => by
    rcases List.eq_nil_or_concat wd with e | ⟨u, x, e⟩
    · subst e; cases hl
    rw [List.concat_eq_append] at e
    subst e
    have hx3 : x < L := hx x (by simp)
    obtain ⟨i, hi, hil, hjl, hg, hjx⟩ := (rdN_snoc (by omega)).1 hj
    obtain ⟨p, hp, h1, h2, h4⟩ := read_inv n (by simpa using hl) (fun y hy => hx y (by simp [hy])) hi
    have hq := at_of hjl
    rw [getD_of hp] at hg
    obtain ⟨c, d, hcd, -, -⟩ := states_let h0 (List.mem_of_getElem? hq)
    have hqm := List.mem_of_getElem? hq
    generalize (statesM F L).getD j [] = q at hg hjx hq hcd hqm
    subst hcd
    simp at hjx
    subst hjx
    obtain ⟨hg1, hg2⟩ := goesB_iff.1 hg
    simp at hg1
    have hav : avoP F (bl [c, d]) := ((avoW_iff h0).1 (pairs_sub ((states_iff h0 h3).1 hqm))).2
    refine ⟨_, hq, ?_, fun v y e => ?_, fun v z y e => ?_⟩
    · rcases List.eq_nil_or_concat u with e | ⟨v, y, e⟩
      · subst e
        exact hav.sub ⟨bl [c], [], rfl⟩
      · rw [List.concat_eq_append] at e
        subst e
        have e1 := h2 v y rfl
        rcases List.eq_nil_or_concat v with e | ⟨t, z, e⟩
        · subst e
          have e2 : c = y := by rw [← hg1]; simpa using e1
          subst e2
          exact hav
        · rw [List.concat_eq_append] at e
          subst e
          obtain ⟨e3, -⟩ := h4 t z y (by simp)
          subst e3
          have e4 : [z, y] ++ List.drop 1 [c, d] = [z, y, d] := rfl
          rw [e4] at hg2
          rw [show t ++ [z] ++ [y] ++ [d] = t ++ [z, y, d] by simp, bl_append]
          refine avo_snoc hF (x := _) (y := _) (z := _) hg2 ?_
          rw [show t ++ [z] ++ [y] = t ++ [z, y] by simp, bl_append] at h1
          exact h1
    · have := List.append_inj' e rfl
      simp at this
      simp
      exact this.2
    · have e2 := List.append_inj' (show u ++ [d] = (v ++ [z]) ++ [y] by simpa using e) rfl
      simp at e2
      obtain ⟨e3, e4⟩ := e2
      subst e4
      have e5 := h2 v z e3
      have e6 : c = z := by rw [← hg1]; simpa using e5
      subst e6
      refine ⟨rfl, ?_⟩
      rcases List.eq_nil_or_concat v with e | ⟨t, y, e⟩
      · subst e
        subst e3
        exact hqm
      · rw [List.concat_eq_append] at e
        subst e
        obtain ⟨-, e7⟩ := h4 t y c (by rw [e3]; simp)
        rw [List.take_append_of_le_length (by rw [e3]; simp)]
        exact e7
/-- All pairs of letters of a word in the language can be continued without end. -/
theorem lang_pairs {wd : List Nat} (hx : ∀ x, x ∈ wd → x < L) (ha : avoP F (bl wd)) (hb : wd.take 2 ∈ pairsM F L) (he : ∀ u y x, wd = u ++ [y, x] → [y, x] ∈ pairsM F L) {u v : List Nat} {a b : Nat} (e : wd = u ++ [a, b] ++ v) : [a, b] ∈ pairsM F L := by
  have _ := hF
  have _ := h3
  refine pairs_max (T := fun p => p ∈ pairsM F L ∨ ∃ u v a b, p = [a, b] ∧ wd = u ++ [a, b] ++ v) ?_ (Or.inr ⟨u, v, a, b, rfl, e⟩)
  clear e u v a b
  have inner : ∀ {u v : List Nat} {a b : Nat}, wd = u ++ [a, b] ++ v → [a, b] ∈ avoW F L := fun {u v a b} e => by
    refine (avoW_iff h0).2 ⟨⟨a, b, rfl, hx a (by rw [e]; simp), hx b (by rw [e]; simp)⟩, ha.sub ⟨bl u, bl v, ?_⟩⟩
    rw [e, bl_append, bl_append]
  have three : ∀ {u v : List Nat} {a b c : Nat}, wd = u ++ [a, b, c] ++ v → goesB F [a, b] [b, c] = true := fun {u v a b c} e => by
    refine goesB_iff.2 ⟨rfl, ?_⟩
    show avoP F (bl [a, b, c])
    exact ha.sub ⟨bl u, bl v, by rw [e, bl_append, bl_append]⟩
  rintro p (hp | ⟨u, v, a, b, rfl, e⟩)
  · obtain ⟨q, hq, h1⟩ := pairs_succ hp
    obtain ⟨r, hr, h2⟩ := pairs_pred hp
    exact ⟨pairs_sub hp, ⟨q, Or.inl hq, h1⟩, r, Or.inl hr, h2⟩
  · refine ⟨inner e, ?_, ?_⟩
    · cases v with
      | nil =>
        obtain ⟨q, hq, h1⟩ := pairs_succ (he u a b (by rw [e]; simp))
        exact ⟨q, Or.inl hq, h1⟩
      | cons c v =>
        exact ⟨[b, c], Or.inr ⟨u ++ [a], v, b, c, rfl, by rw [e]; simp⟩, three (u := u) (v := v) (by rw [e]; simp)⟩
    · rcases List.eq_nil_or_concat u with e2 | ⟨t, z, e2⟩
      · subst e2
        have : wd.take 2 = [a, b] := by rw [e]; rfl
        rw [this] at hb
        obtain ⟨q, hq, h1⟩ := pairs_pred hb
        exact ⟨q, Or.inl hq, h1⟩
      · rw [List.concat_eq_append] at e2
        subst e2
        exact ⟨[z, a], Or.inr ⟨t, [b] ++ v, z, a, rfl, by rw [e]; simp⟩, three (u := t) (v := v) (by rw [e]; simp)⟩
theorem idx_of {p : List Nat} (h : p ∈ pairsM F L) : ∃ j, (statesM F L)[j]? = some p ∧ j < (statesM F L).length := by
  have _ := hF
  obtain ⟨j, hj⟩ := List.getElem?_of_mem ((states_iff h0 h3).2 h)
  exact ⟨j, hj, (List.getElem?_eq_some_iff.1 hj).1⟩
/-- A state is reached by its last letter. -/
theorem read_one {p : List Nat} (h : p ∈ pairsM F L) {j : Nat} (hj : (statesM F L)[j]? = some p) : (rdN F (statesM F L) [p.getD 1 0]).testBit j = true := by
  obtain ⟨q, hq, hg⟩ := pairs_pred h
  obtain ⟨i, hi, hil⟩ := idx_of hF h0 h3 hq
  obtain ⟨⟨a, b, e, ha, hb⟩, -⟩ := (avoW_iff h0).1 (pairs_sub h)
  have hb2 : p.getD 1 0 = b := by rw [e]; rfl
  refine (rdN_snoc (wd := []) (by omega)).2 ⟨i, rdN_nil.2 hil, hil, (List.getElem?_eq_some_iff.1 hj).1, by rw [getD_of hi, getD_of hj]; exact hg, by rw [getD_of hj]⟩
/-- From a state that is reached on to a pair. -/
theorem read_next {wd : List Nat} {p q : List Nat} {i j : Nat} (hr : (rdN F (statesM F L) wd).testBit i = true) (hi : (statesM F L)[i]? = some p) (hj : (statesM F L)[j]? = some q) (hg : goesB F p q = true) : (rdN F (statesM F L) (wd ++ [q.getD 1 0])).testBit j = true := by
  have _ := hF
  obtain ⟨a, b, e, ha, hb⟩ := states_let h0 (List.mem_of_getElem? hj)
  have hb2 : q.getD 1 0 = b := by rw [e]; rfl
  exact (rdN_snoc (by omega)).2 ⟨i, hr, (List.getElem?_eq_some_iff.1 hi).1, (List.getElem?_eq_some_iff.1 hj).1, by rw [getD_of hi, getD_of hj]; exact hg, by rw [getD_of hj]⟩
theorem read_pre {wd : List Nat} (hx : ∀ x, x ∈ wd → x < L) (ha : avoP F (bl wd)) (hb : wd.take 2 ∈ pairsM F L) (he : ∀ u y x, wd = u ++ [y, x] → [y, x] ∈ pairsM F L) : ∀ (n : Nat) {u v : List Nat} {a b : Nat}, u.length = n → wd = u ++ [a, b] ++ v → ∃ j, (statesM F L)[j]? = some [a, b] ∧ (rdN F (statesM F L) (u ++ [a, b])).testBit j = true
  | 0, u, v, a, b, hl, e => by
    rw [List.length_eq_zero_iff] at hl
    subst hl
    have : wd.take 2 = [a, b] := by rw [e]; rfl
    rw [this] at hb
    obtain ⟨q, hq, hg⟩ := pairs_pred hb
    obtain ⟨i, hi, hil⟩ := idx_of hF h0 h3 hq
    obtain ⟨j, hj, hjl⟩ := idx_of hF h0 h3 hb
    have h1 := read_one hF h0 h3 hq hi
    have h2 : q.getD 1 0 = a := (goesB_iff.1 hg).1
    rw [h2] at h1
    have h9 := read_next hF h0 h3 h1 hi hj hg
    have e9 : [a] ++ [([a, b] : List Nat).getD 1 0] = [] ++ [a, b] := rfl
    rw [e9] at h9
    exact ⟨j, hj, h9⟩
  | n + 1, u, v, a, b, hl, e => by
    rcases List.eq_nil_or_concat u with e2 | ⟨t, z, e2⟩
    · subst e2; cases hl
    · rw [List.concat_eq_append] at e2
      subst e2
      obtain ⟨i, hi, hr⟩ := read_pre hx ha hb he n (u := t) (v := [b] ++ v) (a := z) (b := a) (by simpa using hl) (by rw [e]; simp)
      obtain ⟨j, hj, -⟩ := idx_of hF h0 h3 (lang_pairs hF h0 h3 hx ha hb he e)
      have hg : goesB F [z, a] [a, b] = true := goesB_iff.2 ⟨rfl, ha.sub (show bl [z, a, b] <:+: bl wd from ⟨bl t, bl v, by rw [e, show t ++ [z] ++ [a, b] ++ v = t ++ [z, a, b] ++ v by simp, bl_append, bl_append]⟩)⟩
      refine ⟨j, hj, ?_⟩
      have := read_next hF h0 h3 hr hi hj hg
      simpa using this
theorem nat_pos {s : Nat} : 0 < s ↔ ∃ i, s.testBit i = true := by
  have _ := hF
  have _ := h0
  have _ := h3
  constructor
  · intro h
    apply Classical.byContradiction
    intro hn
    have := nat_zero.2 (fun i hi => hn ⟨i, hi⟩ : ∀ i, ¬ s.testBit i = true)
    omega
  · rintro ⟨i, hi⟩
    apply Classical.byContradiction
    intro hn
    have : s = 0 := by omega
    rw [this] at hi
    simp at hi
/-- The graph reads the language. -/
theorem lang_law {wd : List Nat} (hx : ∀ x, x ∈ wd → x < L) (hne : (statesM F L).length ≠ 0) : decide (0 < rdN F (statesM F L) wd) = inM F ((pairsM F L).map wordT) (wordT wd) := by
  have hP : ∀ p, p ∈ pairsM F L → ∀ x, x ∈ p → x < L := fun p hp => pairs_let h0 hp
  have hsz : (wordT wd).size = wd.length := wordT_size wd
  have hne2 : ((pairsM F L).map wordT).length ≠ 0 := by
    intro h
    rw [List.length_map, List.length_eq_zero_iff] at h
    refine hne (List.length_eq_zero_iff.2 (List.eq_nil_iff_forall_not_mem.2 fun p hp => ?_))
    have := (states_iff h0 h3).1 hp
    rw [h] at this
    cases this
  have hext : ∀ i j, (wordT wd).extract i j = wordT ((wd.drop i).take (j - i)) := fun i j => by
    apply ByteArray.ext
    apply Array.toList_inj.1
    rw [extract_list, bl_data, bl_data]
    unfold bl
    rw [List.map_take, List.map_drop]
  rw [Bool.eq_iff_iff, decide_eq_true_eq, nat_pos hF h0 h3]
  unfold inM
  rw [Bool.and_eq_true, decide_eq_true_eq, Bool.and_eq_true, avoM_word]
  constructor
  · rintro ⟨j, hj⟩
    obtain ⟨p, hp, h1, h2, h4⟩ := read_inv hF h0 h3 _ rfl hx hj
    refine ⟨hne2, h1, ?_⟩
    have hpp := (states_iff h0 h3).1 (List.mem_of_getElem? hp)
    by_cases h5 : 2 ≤ wd.length
    · rw [if_pos (by omega), Bool.and_eq_true, hext, hext, hsz]
      obtain ⟨u, y, x, e⟩ : ∃ u y x, wd = u ++ [y, x] := by
        rcases List.eq_nil_or_concat wd with e | ⟨u, x, e⟩
        · rw [e] at h5; simp at h5
        · rcases List.eq_nil_or_concat u with e2 | ⟨t, y, e2⟩
          · rw [e, e2] at h5; simp at h5
          · exact ⟨t, y, x, by rw [e, e2]; simp⟩
      obtain ⟨e1, e2⟩ := h4 u y x e
      have e3 : (wd.drop 0).take (2 - 0) = wd.take 2 := rfl
      have e4 : (wd.drop (wd.length - 2)).take (wd.length - (wd.length - 2)) = [y, x] := by
        have : wd.length - 2 = u.length := by rw [e]; simp
        rw [this, e, List.drop_left]
        simp
      rw [e3, e4, has_iff h3 hP (fun x hx' => hx x (List.mem_of_mem_take hx')), has_iff h3 hP (fun z hz => hx z (by rw [e]; simp at hz ⊢; omega)), ← e1]
      exact ⟨(states_iff h0 h3).1 e2, hpp⟩
    · rw [if_neg (by omega), List.any_eq_true]
      refine ⟨wordT p, List.mem_map.2 ⟨p, hpp, rfl⟩, ?_⟩
      rw [occB_infix, bl_data, bl_data]
      match wd, h5 with
      | [], _ => exact ⟨[], bl p, rfl⟩
      | [x], _ =>
        have e1 := h2 [] x rfl
        obtain ⟨⟨a, b, e, -, -⟩, -⟩ := (avoW_iff h0).1 (pairs_sub hpp)
        subst e
        have e2 : b = x := e1
        subst e2
        exact ⟨bl [a], [], rfl⟩
      | _ :: _ :: _, h5 => simp at h5
  · rintro ⟨-, ha, h1⟩
    by_cases h5 : 2 ≤ wd.length
    · rw [if_pos (by omega), Bool.and_eq_true, hext, hext, hsz] at h1
      obtain ⟨u, y, x, e⟩ : ∃ u y x, wd = u ++ [y, x] := by
        rcases List.eq_nil_or_concat wd with e | ⟨u, x, e⟩
        · rw [e] at h5; simp at h5
        · rcases List.eq_nil_or_concat u with e2 | ⟨t, y, e2⟩
          · rw [e, e2] at h5; simp at h5
          · exact ⟨t, y, x, by rw [e, e2]; simp⟩
      have e3 : (wd.drop 0).take (2 - 0) = wd.take 2 := rfl
      have e4 : (wd.drop (wd.length - 2)).take (wd.length - (wd.length - 2)) = [y, x] := by
        have : wd.length - 2 = u.length := by rw [e]; simp
        rw [this, e, List.drop_left]
        simp
      rw [e3, e4, has_iff h3 hP (fun x hx' => hx x (List.mem_of_mem_take hx')), has_iff h3 hP (fun z hz => hx z (by rw [e]; simp at hz ⊢; omega))] at h1
      have he : ∀ u y x, wd = u ++ [y, x] → [y, x] ∈ pairsM F L := fun u' y' x' e' => by
        rw [e] at e'
        have := List.append_inj' e' rfl
        rw [← this.2]
        exact h1.2
      obtain ⟨j, hj, hr⟩ := read_pre hF h0 h3 hx ha h1.1 he _ (u := u) (v := []) (a := y) (b := x) rfl (by rw [e]; simp)
      rw [← e] at hr
      exact ⟨j, hr⟩
    · rw [if_neg (by omega), List.any_eq_true] at h1
      obtain ⟨t, ht, ho⟩ := h1
      obtain ⟨p, hp, rfl⟩ := List.mem_map.1 ht
      rw [occB_infix, bl_data, bl_data] at ho
      match wd, h5, hx, ho with
      | [], _, _, _ =>
        refine ⟨0, rdN_nil.2 (by omega)⟩
      | [x], _, hx, ho =>
        obtain ⟨⟨a, b, e, ha2, hb2⟩, -⟩ := (avoW_iff h0).1 (pairs_sub hp)
        have hxL := hx x (by simp)
        have hxab : x = a ∨ x = b := by
          have hm : UInt8.ofNat (97 + x) ∈ bl p := ho.subset (by simp [bl])
          rw [e] at hm
          simp only [bl, List.map_cons, List.map_nil, List.mem_cons, List.not_mem_nil, or_false] at hm
          rcases hm with hm | hm
          · exact Or.inl (bt_inj (by omega) (by omega) hm)
          · exact Or.inr (bt_inj (by omega) (by omega) hm)
        rcases hxab with rfl | rfl
        · obtain ⟨q, hq, hg⟩ := pairs_pred hp
          obtain ⟨j, hj, -⟩ := idx_of hF h0 h3 hq
          have h6 := read_one hF h0 h3 hq hj
          have h7 : q.getD 1 0 = p.getD 0 0 := (goesB_iff.1 hg).1
          rw [e] at h7
          have h8 : q.getD 1 0 = x := h7
          rw [h8] at h6
          exact ⟨j, h6⟩
        · obtain ⟨j, hj, -⟩ := idx_of hF h0 h3 hp
          have h6 := read_one hF h0 h3 hp hj
          have h8 : p.getD 1 0 = x := by rw [e]; rfl
          rw [h8] at h6
          exact ⟨j, h6⟩
      | _ :: _ :: _, h5, _, _ => simp at h5
end
end Go.Proofs.YtcilgihmaaobeaaGreatDoor
end

section
namespace Go.Proofs.YtcilgihmaaobeaaGreatDoor
open Go.RowKit Go.Deep Go.Sd
set_option linter.unusedSimpArgs false
/-- A shift of the call's own. -/
def OSh : OwnRel Sh := fun w v z F => ∃ va, v = .agg #[.int .i64 z.1, va] ∧ OStrs w va z.2 F
theorem OSh.held : Held OSh :=
  ⟨fun w w' v x F ⟨va, e, h⟩ hk => ⟨va, e, OStrs.held.keep _ _ _ _ _ h hk⟩, fun w v x F ⟨_, _, h⟩ b hb => OStrs.held.lt _ _ _ _ h b hb⟩
theorem OSh.reads {w : World} {v : Value} {z : Sh} {F : List Nat} (h : OSh w v z F) : ShR w v z := by
  obtain ⟨va, e, h⟩ := h
  exact ⟨va, e, OwnOf.reads (fun _ _ _ _ h => h.1) h⟩
theorem New.sh {lo : Nat} {w : World} {v : Value} {z : Sh} (h : New OSh lo w v z) : ShR w v z := by obtain ⟨F, h, _⟩ := h; exact h.reads
end Go.Proofs.YtcilgihmaaobeaaGreatDoor
end
