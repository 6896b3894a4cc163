/-
  Texts of this claim joined: laws for its walks, contracts of the functions that the law reaches.
-/
import Derived.Test.YtlkgkfgpnnahdaaGreatFnStepsM1
import Derived.Test.YtlkgkfgpnnahdaaGreatFnStepsM2
import Derived.Test.YtlkgkfgpnnahdaaGreatRows
import Derived.Laws.BitsLemmas
import Derived.Deep.DeepMust
section
/-
  Small laws for walks: two boxed graphs; slices of numbers side by side.
-/
namespace Go.Sd
open Go.RowKit Go.Deep

/-- Two boxes laid one behind the other. -/
theorem boxB3_ex (w : World) (t1 t2 : TypeId) (u0 u1 u2 v0 v1 v2 : Value) : ∃ w', w' = (w.alloc (.cells #[u0, u1, u2] t1)).alloc (.cells #[v0, v1, v2] t2) ∧ Below w.heap.size w w' ∧ w'.heap.size = w.heap.size + 1 + 1 ∧
    (w'.cell? ⟨w.heap.size, 0, none⟩ = some u0 ∧ w'.cell? ⟨w.heap.size, 1, none⟩ = some u1 ∧ w'.cell? ⟨w.heap.size, 2, none⟩ = some u2) ∧
    (w'.cell? ⟨w.heap.size + 1, 0, none⟩ = some v0 ∧ w'.cell? ⟨w.heap.size + 1, 1, none⟩ = some v1 ∧ w'.cell? ⟨w.heap.size + 1, 2, none⟩ = some v2) :=
  ⟨_, rfl, ((Below.refl _ _).alloc (Nat.le_refl _) _).alloc (by simp) _, by simp, by simp [go_sem], by simp [go_sem]⟩
/-- A box's three cells. -/
def Box3 (w : World) (b : Nat) (u0 u1 u2 : Value) : Prop := b < w.heap.size ∧ w.cell? ⟨b, 0, none⟩ = some u0 ∧ w.cell? ⟨b, 1, none⟩ = some u1 ∧ w.cell? ⟨b, 2, none⟩ = some u2
theorem Box3.below {w w' : World} {b : Nat} {u0 u1 u2 : Value} (h : Box3 w b u0 u1 u2) {B : Nat} (hb : Below B w w') (hB : b < B) : Box3 w' b u0 u1 u2 :=
  ⟨Nat.lt_of_lt_of_le h.1 hb.size, (hb.cell (p := ⟨b, 0, none⟩) hB).trans h.2.1, (hb.cell (p := ⟨b, 1, none⟩) hB).trans h.2.2.1, (hb.cell (p := ⟨b, 2, none⟩) hB).trans h.2.2.2⟩
theorem nodup_single {lo : Nat} (b : Nat) (h : lo ≤ b) : Fresh lo [b] := by simp [Fresh]; exact h
theorem New.oneG {α : Type} {e : TypeId} {R : OwnRel α} (hR : Kept R) {lo : Nat} {w : World} {u : Value} {x : α} (h : New R lo w u x) (hlo : lo ≤ w.heap.size) :
    New (OwnOf e R) lo (w.alloc (.cells #[u] e)) (.slice (some ⟨w.heap.size, 0, none⟩) 1 1) [x] := by
  obtain ⟨F, hF, hn, hge⟩ := h
  have hlt := hR.lt _ _ _ _ hF
  refine ⟨w.heap.size :: F, ⟨[u], [F], ⟨by simp, .inr ⟨w.heap.size, 1, #[u], rfl, Nat.zero_le _, heap_alloc_new w _, Nat.le_refl _, by simp [maxLen], by simp, by simp⟩⟩, rfl, ?_, by simp [Value.ownBlock]⟩, List.nodup_cons.2 ⟨fun hm => by have := hlt _ hm; omega, hn⟩, fun b hb => by
    rcases List.mem_cons.1 hb with rfl | hb
    · exact hlo
    · exact hge b hb⟩
  intro i u' x' G hu hx hG
  cases i with
  | zero =>
    simp at hu hx hG
    subst hu hx hG
    exact hR.keep _ _ _ _ _ hF fun b hb' => ((Below.refl w.heap.size w).alloc (Nat.le_refl _) _).block b (hR.lt _ _ _ _ hF b hb')
  | succ i => simp at hu
/-- A slice literal of one number. -/
theorem New.oneInt {e : TypeId} (w : World) (x : Int) : New (OInts e) w.heap.size (w.alloc (.cells #[.int .i64 x] e)) (.slice (some ⟨w.heap.size, 0, none⟩) 1 1) [x] :=
  New.oneG OIntR.kept ⟨[], ⟨rfl, rfl⟩, by simp [Fresh]⟩ (Nat.le_refl _)
abbrev Res.ints (e : TypeId) (v : Value) (xs : List Int) : Res := Res.of (OInts e) (OInts.kept e).held v xs
/-- Where the numbers lie. -/
theorem Sep.intsAt {lo : Nat} {w : World} {e : TypeId} {v : Value} {xs : List Int} {rs : List Res} (h : Sep lo w (Res.ints e v xs :: rs)) : ∃ a c, v = .slice a xs.length c ∧ xs.length ≤ c ∧ (0 < xs.length → ∃ b, a = some ⟨b, 0, none⟩ ∧ b < w.heap.size ∧ ∀ i x, xs[i]? = some x → w.cell? ⟨b, i, none⟩ = some (.int .i64 x)) := by
  have hn := h.headNew
  obtain ⟨a, c, rfl, hc, _, h1⟩ := (New.ints hn).shape
  refine ⟨a, c, rfl, hc, fun h0 => ?_⟩
  obtain ⟨b, o, rfl, hb, hx⟩ := h1 h0
  obtain ⟨x0, hx0, _⟩ := at_lt h0
  obtain ⟨b', c', hv, _⟩ := hn.int_at hx0
  have e1 : b = b' ∧ o = 0 := by simp at hv; exact ⟨hv.1.1, hv.1.2⟩
  obtain ⟨rfl, rfl⟩ := e1
  refine ⟨b, rfl, hb, fun i x hi => ?_⟩
  obtain ⟨u, hu, rfl⟩ := hx i x hi
  simpa using hu
/-- append of a number, laid in a block of its own. -/
theorem Sep.pushInt {P : Program} {lo : Nat} {w : World} {e : TypeId} {v : Value} {xs : List Int} {rs : List Res} (t ty : TypeId) (ht : P.underlying t = some (.slice e)) (hinfo : (P.info? e).map (fun i => (i.zero, i.size, i.bytes)) = some (some (.int .i64 0), 1, 8))
    (h : Sep lo w (Res.ints e v xs :: rs)) (hlo : lo ≤ w.heap.size) (x : Int) (hl : xs.length ≤ 16777216) (el : TypeId) :
    ∃ a c w', (Builtin.append_ #[t, t] ty #[v, .slice (some ⟨w.heap.size, 0, none⟩) 1 1]).run P (w.alloc (.cells #[.int .i64 x] el)) = .ok (.slice a (xs ++ [x]).length c) w' ∧ Sep lo w' (Res.ints e (.slice a (xs ++ [x]).length c) (xs ++ [x]) :: rs) ∧ Below lo w w' := by
  obtain ⟨v', w', hr, hs, hb⟩ := Sep.push (P := P) OIntR.kept t ty (.int .i64 0) 8 ht hinfo rfl h hlo ((Below.refl _ _).alloc (Nat.le_refl _) (.cells #[.int .i64 x] el)) (q := .int .i64 x) (x := x) ⟨[], ⟨rfl, rfl⟩, by simp [Fresh]⟩ (bb := w.heap.size) (c := 1) (World.cell?_alloc_at _ _ _ 0 rfl) (by omega) (by omega)
  obtain ⟨a, c, rfl, _⟩ := hs.intsAt
  exact ⟨a, c, w', hr, hs, hb⟩
/-- A slice literal of one element of sz cells. -/
theorem New.oneRow {α : Type} {e : TypeId} {sz : Nat} {f : α → List Value} (L : Lay sz f) (w : World) (x : α) (hs : sz ≤ maxLen) : New (RowG e sz f) w.heap.size (w.alloc (.cells (f x).toArray e)) (.slice (some ⟨w.heap.size, 0, none⟩) 1 1) [x] :=
  ⟨[w.heap.size], ⟨⟨by simp [L.len], .inr ⟨w.heap.size, 1, (f x).toArray, rfl, Nat.zero_le _, heap_alloc_new w _, Nat.le_refl _, by simp [maxLen], by simp [L.len], by simp; exact List.take_of_length_le (by rw [L.len]; omega)⟩⟩, by simp [Value.ownBlock]⟩, by simp [Fresh]⟩
abbrev Res.row {α : Type} (e : TypeId) (sz : Nat) (f : α → List Value) (v : Value) (xs : List α) : Res := Res.of (RowG e sz f) RowG.held v xs
theorem Sep.rowAt {α : Type} {e : TypeId} {sz : Nat} {f : α → List Value} (L : Lay sz f) {lo : Nat} {w : World} {v : Value} {xs : List α} {rs : List Res} (h : Sep lo w (Res.row e sz f v xs :: rs)) : ∃ a c, v = .slice a xs.length c ∧ (0 < xs.length → ∃ b, a = some ⟨b, 0, none⟩ ∧ lo ≤ b ∧ b < w.heap.size ∧ ∀ i x j u, xs[i]? = some x → (f x)[j]? = some u → w.cell? ⟨b, i * sz + j, none⟩ = some u) := by
  have hn := h.headNew
  obtain ⟨a, c, rfl⟩ := hn.rowSlice
  refine ⟨a, c, rfl, fun h0 => ?_⟩
  obtain ⟨g, c', hv, _, _, hlo, hg, hx⟩ := hn.rowAt L h0
  simp at hv
  exact ⟨g, hv.1, hlo, hg, fun i x j u h1 h2 => (hx i x j u h1 h2).1⟩
theorem Sep.congr {lo : Nat} {w : World} {rs ss : List Res} (h : Sep lo w rs) (e : rs = ss) : Sep lo w ss := e ▸ h
end Go.Sd
end

section
/-
  Several own things side by side, without labelled graphs: one comes to the front, goes back.
-/
namespace Go.Sd
open Go.RowKit Go.Deep
theorem Sep.one {α : Type} {R : OwnRel α} (hR : Held R) {lo : Nat} {w : World} {v : Value} {x : α} (h : New R lo w v x) : Sep lo w [Res.of R hR v x] := by
  obtain ⟨F, hF, hf⟩ := h
  exact ⟨F, ⟨F, [], by simp, hF, rfl⟩, hf⟩
theorem Sep.get {lo : Nat} {w : World} : ∀ {rs : List Res} {r : Res}, Sep lo w rs → r ∈ rs → ∃ G, r.p w G ∧ ∀ b, b ∈ G → lo ≤ b
  | [], r, _, hm => by cases hm
  | s :: rs, r, h, hm => by
    rcases List.mem_cons.1 hm with rfl | hm
    · obtain ⟨G, h1, h2, _⟩ := h.head
      exact ⟨G, h1, h2.2⟩
    · exact Sep.get h.tail hm
theorem Sep.getBox {lo : Nat} {w : World} {rs : List Res} {b : Nat} {vs : List Value} (h : Sep lo w rs) (hm : Res.box b vs ∈ rs) : lo ≤ b ∧ Cells w b vs := by
  obtain ⟨G, ⟨rfl, h1⟩, h2⟩ := h.get hm
  exact ⟨h2 b (by simp), h1⟩
theorem SepF.perm {w : World} {rs ss : List Res} (hp : rs.Perm ss) : ∀ {F : List Nat}, SepF w rs F → ∃ F', F'.Perm F ∧ SepF w ss F' := by
  induction hp with
  | nil => exact fun h => ⟨_, List.Perm.refl _, h⟩
  | cons r _ ih =>
    rintro F ⟨G, H, rfl, h1, h2⟩
    obtain ⟨H', hp, h3⟩ := ih h2
    exact ⟨G ++ H', hp.append_left G, G, H', rfl, h1, h3⟩
  | swap r s l =>
    rintro F ⟨G, H, rfl, h1, G2, H2, rfl, h2, h3⟩
    refine ⟨G2 ++ (G ++ H2), ?_, G2, _, rfl, h2, G, H2, rfl, h1, h3⟩
    rw [← List.append_assoc, ← List.append_assoc]
    exact List.Perm.append_right _ List.perm_append_comm
  | trans _ _ ih1 ih2 =>
    intro F h
    obtain ⟨F1, p1, h1⟩ := ih1 h
    obtain ⟨F2, p2, h2⟩ := ih2 h1
    exact ⟨F2, p2.trans p1, h2⟩
theorem Sep.perm {lo : Nat} {w : World} {rs ss : List Res} (h : Sep lo w rs) (hp : rs.Perm ss) : Sep lo w ss := by
  obtain ⟨F, h1, hn, hl⟩ := h
  obtain ⟨F', p, h2⟩ := h1.perm hp
  exact ⟨F', h2, p.nodup_iff.2 hn, fun b hb => hl b (p.mem_iff.1 hb)⟩
/-- A thing comes to the front; goes back. -/
theorem Sep.front {lo : Nat} {w : World} (a : List Res) {r : Res} {b : List Res} (h : Sep lo w (a ++ r :: b)) : Sep lo w (r :: (a ++ b)) := h.perm List.perm_middle
theorem Sep.back {lo : Nat} {w : World} (a : List Res) {r : Res} {b : List Res} (h : Sep lo w (r :: (a ++ b))) : Sep lo w (a ++ r :: b) := h.perm List.perm_middle.symm
theorem Sep.firstTwo {lo : Nat} {w : World} {r s : Res} {rs : List Res} (h : Sep lo w (r :: s :: rs)) : Sep lo w [r, s] := by
  obtain ⟨F, ⟨G, H, rfl, h1, G2, H2, rfl, h2, h3⟩, hn, hl⟩ := h
  have hnd := List.nodup_append.1 hn
  have hnd2 := List.nodup_append.1 hnd.2.1
  refine ⟨G ++ (G2 ++ []), ⟨G, _, rfl, h1, G2, [], rfl, h2, rfl⟩, ?_, fun b hb => hl b ?_⟩
  · rw [List.append_nil]
    exact List.nodup_append.2 ⟨hnd.1, hnd2.1, fun p hp q hq => hnd.2.2 p hp q (List.mem_append_left _ hq)⟩
  · rw [List.append_nil] at hb
    rcases List.mem_append.1 hb with h | h
    · exact List.mem_append_left _ h
    · exact List.mem_append_right _ (List.mem_append_left _ h)
/-- The first and another one share no block. -/
theorem Sep.headTwo {lo : Nat} {w : World} {r r' : Res} {rs : List Res} (h : Sep lo w (r :: rs)) (hm : r' ∈ rs) : ∃ G G', r.p w G ∧ r'.p w G' ∧ ∀ b, b ∈ G → b ∉ G' := by
  obtain ⟨F, ⟨G, H, rfl, h1, h2⟩, hn, hl⟩ := h
  have key : ∀ {ss : List Res} {H : List Nat}, SepF w ss H → r' ∈ ss → ∃ G', r'.p w G' ∧ ∀ b, b ∈ G' → b ∈ H := by
    intro ss
    induction ss with
    | nil => intro H _ hm; cases hm
    | cons s ss ih =>
      rintro H ⟨G1, H1, rfl, k1, k2⟩ hm
      rcases List.mem_cons.1 hm with rfl | hm
      · exact ⟨G1, k1, fun b hb => List.mem_append_left _ hb⟩
      · obtain ⟨G', k3, k4⟩ := ih k2 hm
        exact ⟨G', k3, fun b hb => List.mem_append_right _ (k4 b hb)⟩
  obtain ⟨G', k1, k2⟩ := key h2 hm
  exact ⟨G, G', h1, k1, fun b hb hb' => (List.nodup_append.1 hn).2.2 b hb b (k2 b hb') rfl⟩
end Go.Sd
end

section
/-
  A Bool holds of all numbers from one on.
-/
namespace Go.Proofs.YtlkgkfgpnnahdaaGreat
open Go.RowKit Go.Deep Go.Sd
/-- All of the next g numbers from k on. -/
def allF (h : Nat → Bool) : Nat → Nat → Bool
  | 0, _ => true
  | g + 1, k => if h k = true then allF h g (k + 1) else false
end Go.Proofs.YtlkgkfgpnnahdaaGreat
end

section
/-
  Which labelled graphs are valid: the model.
-/
namespace Go.Proofs.YtlkgkfgpnnahdaaGreat
open Go.RowKit Go.Deep Go.Sd

def at3 (xs : List Arc3) (k : Nat) : Arc3 := xs.getD k (0, 0, 0)
theorem at3_of {xs : List Arc3} {k : Nat} {x : Arc3} (h : xs[k]? = some x) : at3 xs k = x := by simp [at3, List.getD, h]
def arcOk (L S : Int) (x : Arc3) : Bool := decide (0 ≤ x.1 ∧ x.1 < S ∧ 0 ≤ x.2.1 ∧ x.2.1 < S ∧ 0 ≤ x.2.2 ∧ x.2.2 < L)
def arcB (L S : Int) (xs : List Arc3) (k : Nat) : Bool := arcOk L S (at3 xs k) && (decide (k = 0) || before (at3 xs (k - 1)) (at3 xs k))
def isLab (l : Lb) : Bool := decide (1 ≤ l.1 ∧ l.1 ≤ 3) && (decide (1 ≤ l.2.1 ∧ l.2.1 ≤ 12) && allF (arcB l.1 l.2.1 l.2.2) l.2.2.length 0)

end Go.Proofs.YtlkgkfgpnnahdaaGreat
end

section
/-
  Labelled graphs: the sets of states to which letters and words lead: the model.
-/
namespace Go.Proofs.YtlkgkfgpnnahdaaGreat
open Go.RowKit Go.Deep Go.Sd

theorem i64_and1 (n : Int) : bits .and .i64 n 1 = n % 2 := by
  have h1 : (BitVec.ofInt 64 1).toNat = 2 ^ 1 - 1 := by decide
  have key : (BitVec.ofInt 64 n &&& BitVec.ofInt 64 1).toNat = (n % ((2 ^ 64 : Nat) : Int)).toNat % 2 ^ 1 := by
    rw [BitVec.toNat_and, BitVec.toNat_ofInt, h1, Nat.and_two_pow_sub_one_eq_mod]
  show IntKind.i64.wrap ((BitVec.ofInt 64 n &&& BitVec.ofInt 64 1).toNat : Nat) = n % 2
  rw [key, IntKind.wrap_i64]
  omega
theorem ofInt_i64 (a : Nat) (ha : a < 9223372036854775808) : (BitVec.ofInt 64 (a : Int)).toNat = a := by
  rw [BitVec.ofInt_natCast, BitVec.toNat_ofNat]; exact Nat.mod_eq_of_lt (by omega)
theorem i64_or (a b : Nat) (ha : a < 9223372036854775808) (hb : b < 9223372036854775808) : bits .or .i64 (a : Int) (b : Int) = ((a ||| b : Nat) : Int) := by
  have hx : a ||| b < 2 ^ 63 := Nat.or_lt_two_pow (by omega) (by omega)
  show IntKind.i64.wrap ((BitVec.ofInt 64 (a : Int) ||| BitVec.ofInt 64 (b : Int)).toNat : Nat) = _
  rw [BitVec.toNat_or, ofInt_i64 a ha, ofInt_i64 b hb, IntKind.wrap_i64]
  omega

/-- An arc leads on from a set, with a letter. -/
def hit (s : Nat) (x : Int) (a : Arc3) : Bool := decide (a.2.2 = x) && s.testBit a.1.toNat
def stepL (s : Nat) (x : Int) : List Arc3 → Nat → Nat
  | [], out => out
  | a :: ys, out => stepL s x ys (if hit s x a = true then out ||| 2 ^ a.2.1.toNat else out)
def stepN (xs : List Arc3) (s : Nat) (x : Int) : Nat := stepL s x xs 0
def readL (xs : List Arc3) : List Int → Nat → Nat
  | [], s => s
  | x :: w, s => readL xs w (stepN xs s x)

def okArcs (S : Int) (xs : List Arc3) : Prop := ∀ a, a ∈ xs → 0 ≤ a.1 ∧ a.1 < S ∧ 0 ≤ a.2.1 ∧ a.2.1 < S
theorem allF_at {f : Nat → Bool} : ∀ {m k : Nat}, allF f m k = true → ∀ j, j < m → f (k + j) = true
  | 0, _, _, j, hj => by omega
  | m + 1, k, h, j, hj => by
    have h1 : (if f k = true then allF f m (k + 1) else false) = true := h
    by_cases hk : f k = true
    · rw [if_pos hk] at h1
      cases j with
      | zero => exact hk
      | succ j => rw [show k + (j + 1) = k + 1 + j by omega]; exact allF_at h1 j (by omega)
    · rw [if_neg hk] at h1; cases h1
theorem isLab_ok {l : Lb} (h : isLab l = true) : okArcs l.2.1 l.2.2 ∧ 1 ≤ l.2.1 ∧ l.2.1 ≤ 12 ∧ 1 ≤ l.1 ∧ l.1 ≤ 3 := by
  unfold isLab at h
  rw [Bool.and_eq_true, Bool.and_eq_true, decide_eq_true_eq, decide_eq_true_eq] at h
  refine ⟨fun a ha => ?_, h.2.1.1, h.2.1.2, h.1.1, h.1.2⟩
  obtain ⟨k, hk⟩ := List.getElem?_of_mem ha
  have h1 := allF_at h.2.2 k (List.getElem?_eq_some_iff.1 hk).1
  rw [Nat.zero_add] at h1
  unfold arcB at h1
  rw [Bool.and_eq_true, at3_of hk] at h1
  have h2 := h1.1
  unfold arcOk at h2
  rw [decide_eq_true_eq] at h2
  exact ⟨h2.1, h2.2.1, h2.2.2.1, h2.2.2.2.1⟩
theorem stepL_lt {S : Int} {N : Nat} (hN : S.toNat ≤ N) : ∀ {xs : List Arc3}, okArcs S xs → ∀ (s : Nat) (x : Int) (out : Nat), out < 2 ^ N → stepL s x xs out < 2 ^ N
  | [], _, _, _, _, h => h
  | a :: ys, ha, s, x, out, h => by
    unfold stepL
    refine stepL_lt hN (fun b hb => ha b (List.mem_cons_of_mem _ hb)) s x _ ?_
    split
    · have := ha a (by simp)
      exact Nat.or_lt_two_pow h (Nat.pow_lt_pow_right (by omega) (by omega))
    · exact h
theorem stepN_lt {S : Int} {xs : List Arc3} (h : okArcs S xs) (hS : S ≤ 12) (s : Nat) (x : Int) : stepN xs s x < 4096 :=
  stepL_lt (N := 12) (by omega) h s x 0 (by decide)
theorem readL_lt {S : Int} {xs : List Arc3} (h : okArcs S xs) (hS : S ≤ 12) : ∀ (w : List Int) (s : Nat), s < 4096 → readL xs w s < 4096
  | [], _, hs => hs
  | x :: w, s, _ => readL_lt h hS w _ (stepN_lt h hS s x)
theorem okArcs_at {S : Int} {xs : List Arc3} (h : okArcs S xs) {k : Nat} {x : Arc3} (hx : xs[k]? = some x) : 0 ≤ x.1 ∧ x.1 < S ∧ 0 ≤ x.2.1 ∧ x.2.1 < S := h x (List.mem_of_getElem? hx)

end Go.Proofs.YtlkgkfgpnnahdaaGreat
end

section
/-
  Tables by their entries: plain lists, no program in sight.
-/
namespace Go.Sd

def rowOf' (r : Nat) (f : Nat → Int) : List Int := (List.range r).map f
def tabOf (p r : Nat) (f : Nat → Nat → Int) : List (List Int) := (List.range p).map fun i => rowOf' r (f i)

theorem rowOf_len (r : Nat) (f : Nat → Int) : (rowOf' r f).length = r := by simp [rowOf']
theorem tabOf_len (p r : Nat) (f : Nat → Nat → Int) : (tabOf p r f).length = p := by simp [tabOf]
theorem rowOf_at {r : Nat} {f : Nat → Int} {j : Nat} (h : j < r) : (rowOf' r f)[j]? = some (f j) := by simp [rowOf', h]
theorem tabOf_at {p r : Nat} {f : Nat → Nat → Int} {i : Nat} (h : i < p) : (tabOf p r f)[i]? = some (rowOf' r (f i)) := by simp [tabOf, h]
theorem rowOf_congr {r : Nat} {f g : Nat → Int} (h : ∀ j, j < r → f j = g j) : rowOf' r f = rowOf' r g := List.map_congr_left fun j hj => h j (List.mem_range.1 hj)
theorem tabOf_congr {p r : Nat} {f g : Nat → Nat → Int} (h : ∀ i, i < p → ∀ j, j < r → f i j = g i j) : tabOf p r f = tabOf p r g := List.map_congr_left fun i hi => rowOf_congr fun j hj => h i (List.mem_range.1 hi) j hj
theorem rowOf_set (r : Nat) (f : Nat → Int) (j : Nat) (y : Int) : (rowOf' r f).set j y = rowOf' r (fun j' => if j' = j then y else f j') := by
  apply List.ext_getElem?
  intro k
  unfold rowOf'
  by_cases hk : k < r
  · by_cases hj : j = k
    · subst hj; simp [hk]
    · rw [List.getElem?_set_ne hj]; simp [hk, Ne.symm hj]
  · rw [List.getElem?_eq_none (by simp; omega), List.getElem?_eq_none (by simp; omega)]
theorem tabOf_set (p r : Nat) (f : Nat → Nat → Int) (i : Nat) (g : Nat → Int) : (tabOf p r f).set i (rowOf' r g) = tabOf p r (fun i' => if i' = i then g else f i') := by
  apply List.ext_getElem?
  intro k
  unfold tabOf
  by_cases hk : k < p
  · by_cases hj : i = k
    · subst hj; simp [hk]
    · rw [List.getElem?_set_ne hj]; simp [hk, Ne.symm hj]
  · rw [List.getElem?_eq_none (by simp; omega), List.getElem?_eq_none (by simp; omega)]
theorem tabOf_set2 (p r : Nat) (f : Nat → Nat → Int) (i j : Nat) (y : Int) : (tabOf p r f).set i ((rowOf' r (f i)).set j y) = tabOf p r (fun i' j' => if i' = i ∧ j' = j then y else f i' j') := by
  rw [rowOf_set, tabOf_set]
  refine tabOf_congr fun i' _ j' _ => ?_
  by_cases h : i' = i
  · subst h; by_cases h2 : j' = j <;> simp [h2]
  · simp [h]
theorem tabOf_take {p r : Nat} {f : Nat → Nat → Int} {i : Nat} (h : i < p) : (tabOf p r f).take i ++ [rowOf' r (f i)] = (tabOf p r f).take (i + 1) := by
  rw [List.take_add_one, tabOf_at h]; rfl
theorem take_snoc' {α : Type} {xs : List α} {i : Nat} {x : α} (h : xs[i]? = some x) : xs.take i ++ [x] = xs.take (i + 1) := by
  rw [List.take_add_one, h]; rfl
theorem rowOf_take {r : Nat} {f : Nat → Int} {i : Nat} (h : i < r) : (rowOf' r f).take i ++ [f i] = (rowOf' r f).take (i + 1) := take_snoc' (rowOf_at h)
theorem tabOf_full {p r : Nat} {f : Nat → Nat → Int} : (tabOf p r f).take p = tabOf p r f := List.take_of_length_le (by rw [tabOf_len]; exact Nat.le_refl _)
theorem rowOf_full {r : Nat} {f : Nat → Int} : (rowOf' r f).take r = rowOf' r f := List.take_of_length_le (by rw [rowOf_len]; exact Nat.le_refl _)
theorem rowOf_const (r : Nat) (c : Int) : rowOf' r (fun _ => c) = List.replicate r c := by
  unfold rowOf'
  apply List.ext_getElem?
  intro k
  by_cases hk : k < r <;> simp [hk]
theorem tabOf_const (p r : Nat) (c : Int) : tabOf p r (fun _ _ => c) = List.replicate p (List.replicate r c) := by
  unfold tabOf
  rw [show (fun (i : Nat) => rowOf' r ((fun _ _ => c) i)) = fun _ => List.replicate r c from funext fun _ => rowOf_const r c]
  apply List.ext_getElem?
  intro k
  by_cases hk : k < p <;> simp [hk]

/-- A row by its entries. -/
theorem row_eq (r : List Int) : r = rowOf' r.length (fun j => r.getD j 0) := by
  apply List.ext_getElem?
  intro k
  by_cases hk : k < r.length
  · rw [rowOf_at hk]; simp [List.getD, hk]
  · rw [List.getElem?_eq_none (by omega), List.getElem?_eq_none (by rw [rowOf_len]; omega)]
/-- A table with rows of one length by its entries. -/
theorem tab_eq {m : List (List Int)} {p r : Nat} (hp : m.length = p) (hr : ∀ x, x ∈ m → x.length = r) : m = tabOf p r (ent m) := by
  subst hp
  apply List.ext_getElem?
  intro k
  by_cases hk : k < m.length
  · rw [tabOf_at hk, List.getElem?_eq_getElem hk]
    have h1 := hr m[k] (List.getElem_mem hk)
    congr 1
    rw [row_eq m[k], h1]
    exact rowOf_congr fun j _ => by simp [ent, List.getD, hk]
  · rw [List.getElem?_eq_none (by omega), List.getElem?_eq_none (by rw [tabOf_len]; omega)]
theorem ent_tabOf {p r : Nat} {f : Nat → Nat → Int} {i j : Nat} (hi : i < p) (hj : j < r) : ent (tabOf p r f) i j = f i j := by
  simp [ent, List.getD, tabOf_at hi, rowOf_at hj]
theorem mem_tabOf {p r : Nat} {f : Nat → Nat → Int} {x : List Int} (h : x ∈ tabOf p r f) : x.length = r := by
  obtain ⟨i, _, rfl⟩ := List.mem_map.1 h
  exact rowOf_len _ _
theorem ent_mem {m : List (List Int)} {i j : Nat} {l : Nat} (hr : ∀ x, x ∈ m → x.length = l) (hi : i < m.length) (hj : j < l) : ∃ r, r ∈ m ∧ ent m i j ∈ r := by
  refine ⟨m[i], List.getElem_mem hi, ?_⟩
  have := hr m[i] (List.getElem_mem hi)
  simp [ent, List.getD, hi, show j < m[i].length by omega]


open Go.RowKit in
theorem EntAt.frame {w w' : World} {b o n l : Nat} {m : List (List Int)} (h : EntAt w b o n l m) (hb : b < w.heap.size) (hw : Below w.heap.size w w') : EntAt w' b o n l m := by
  intro i hi
  obtain ⟨a', c', h1, h2, h3⟩ := h i hi
  refine ⟨a', c', (hw.cell (p := ⟨b, o + i, none⟩) hb).trans h1, Ints.frame _ _ _ _ h2 hw, fun hl => ?_⟩
  obtain ⟨b', o', e, h4, h5⟩ := h3 hl
  exact ⟨b', o', e, Nat.lt_of_lt_of_le h4 hw.size, fun j hj => (hw.cell (p := ⟨b', o' + j, none⟩) h4).trans (h5 j hj)⟩

theorem mul_bd {x y B : Int} (hx : -B ≤ x ∧ x ≤ B) (hy : -B ≤ y ∧ y ≤ B) : -(B * B) ≤ x * y ∧ x * y ≤ B * B := by
  have h1 : x.natAbs ≤ B.natAbs := by omega
  have h2 : y.natAbs ≤ B.natAbs := by omega
  have h3 := Nat.mul_le_mul h1 h2
  rw [← Int.natAbs_mul, ← Int.natAbs_mul] at h3
  have h4 : 0 ≤ B * B := Int.mul_nonneg (by omega) (by omega)
  omega

/-- The sum of the first k products of row i and column j. -/
def dotU (a b : List (List Int)) (i j : Nat) : Nat → Int
  | 0 => 0
  | k + 1 => dotU a b i j k + ent a i k * ent b k j

def Bd (B : Int) (m : List (List Int)) : Prop := ∀ r, r ∈ m → ∀ x, x ∈ r → -B ≤ x ∧ x ≤ B

theorem Bd.ent {B : Int} {m : List (List Int)} (h : Bd B m) {l i j : Nat} (hr : ∀ x, x ∈ m → x.length = l) (hi : i < m.length) (hj : j < l) : -B ≤ ent m i j ∧ ent m i j ≤ B := by
  obtain ⟨r, h1, h2⟩ := ent_mem hr hi hj
  exact h r h1 _ h2

theorem dotU_bd {a b : List (List Int)} {p q r i j : Nat} (ha : Bd 1000000 a) (hb : Bd 1000000 b) (hap : a.length = p) (har : ∀ x, x ∈ a → x.length = q) (hbp : b.length = q) (hbr : ∀ x, x ∈ b → x.length = r) (hi : i < p) (hj : j < r) :
    ∀ k, k ≤ q → -(k * 1000000000000) ≤ dotU a b i j k ∧ dotU a b i j k ≤ k * 1000000000000 := by
  intro k
  induction k with
  | zero => intro _; simp [dotU]
  | succ k ih =>
    intro hk
    have h1 := ih (by omega)
    have h2 := mul_bd (ha.ent har (by omega : i < a.length) (by omega : k < q)) (hb.ent hbr (by omega : k < b.length) hj)
    unfold dotU
    omega

/-- A line of a product, its first j numbers one product further than the others. -/
def lineF (a b : List (List Int)) (i r k j : Nat) : List Int := rowOf' r (fun j' => dotU a b i j' (if j' < j then k + 1 else k))
theorem lineF_start (a b : List (List Int)) (i r : Nat) : lineF a b i r 0 0 = List.replicate r 0 := by
  rw [← rowOf_const]; exact rowOf_congr fun j _ => by simp [dotU]
theorem lineF_at {a b : List (List Int)} {i r k j : Nat} (hj : j < r) : (lineF a b i r k j)[j]? = some (dotU a b i j k) := by
  unfold lineF; rw [rowOf_at hj]; simp
theorem lineF_set {a b : List (List Int)} {i r k j : Nat} : (lineF a b i r k j).set j (dotU a b i j (k + 1)) = lineF a b i r k (j + 1) := by
  unfold lineF; rw [rowOf_set]
  refine rowOf_congr fun j' _ => ?_
  by_cases h : j' = j
  · subst h; simp
  · rw [if_neg h]
    by_cases h2 : j' < j
    · rw [if_pos h2, if_pos (by omega)]
    · rw [if_neg h2, if_neg (by omega)]
theorem lineF_end {a b : List (List Int)} {i r k : Nat} : lineF a b i r k r = lineF a b i r (k + 1) 0 := by
  unfold lineF
  exact rowOf_congr fun j hj => by rw [if_pos hj, if_neg (by omega)]
theorem lineF_full {a b : List (List Int)} {i r k : Nat} : lineF a b i r k 0 = rowOf' r (fun j => dotU a b i j k) := by
  unfold lineF
  exact rowOf_congr fun j hj => by rw [if_neg (by omega)]

/-- A product under way: entry (i, j) has its first k products, those before are whole, those behind are zero. -/
def prodF (a b : List (List Int)) (p q r i j k : Nat) : List (List Int) := tabOf p r (fun i' j' => dotU a b i' j' (if i' < i ∨ (i' = i ∧ j' < j) then q else if i' = i ∧ j' = j then k else 0))
def prodT (a b : List (List Int)) (p q r : Nat) : List (List Int) := tabOf p r (fun i j => dotU a b i j q)
theorem prodF_start (a b : List (List Int)) (p q r : Nat) : prodF a b p q r 0 0 0 = List.replicate p (List.replicate r 0) := by
  rw [← tabOf_const]
  exact tabOf_congr fun i _ j _ => by rw [if_neg (by omega)]; split <;> rfl
theorem prodF_row {a b : List (List Int)} {p q r i j k : Nat} (hi : i < p) : (prodF a b p q r i j k)[i]? = some (rowOf' r (fun j' => dotU a b i j' (if i < i ∨ (i = i ∧ j' < j) then q else if i = i ∧ j' = j then k else 0))) := by
  unfold prodF; rw [tabOf_at hi]
theorem prodF_at {a b : List (List Int)} {q r i j k : Nat} (hj : j < r) : (rowOf' r (fun j' => dotU a b i j' (if i < i ∨ (i = i ∧ j' < j) then q else if i = i ∧ j' = j then k else 0)))[j]? = some (dotU a b i j k) := by
  rw [rowOf_at hj]; simp
theorem prodF_set {a b : List (List Int)} {p q r i j k : Nat} :
    (prodF a b p q r i j k).set i ((rowOf' r (fun j' => dotU a b i j' (if i < i ∨ (i = i ∧ j' < j) then q else if i = i ∧ j' = j then k else 0))).set j (dotU a b i j (k + 1))) = prodF a b p q r i j (k + 1) := by
  unfold prodF
  rw [tabOf_set2 p r (fun i' j' => dotU a b i' j' (if i' < i ∨ (i' = i ∧ j' < j) then q else if i' = i ∧ j' = j then k else 0)) i j]
  refine tabOf_congr fun i' _ j' _ => ?_
  by_cases h : i' = i ∧ j' = j
  · obtain ⟨rfl, rfl⟩ := h; simp
  · rw [if_neg h]
    by_cases h2 : i' < i ∨ (i' = i ∧ j' < j)
    · rw [if_pos h2, if_pos h2]
    · rw [if_neg h2, if_neg h2, if_neg h, if_neg h]
theorem prodF_nextj {a b : List (List Int)} {p q r i j : Nat} : prodF a b p q r i j q = prodF a b p q r i (j + 1) 0 := by
  unfold prodF
  refine tabOf_congr fun i' _ j' _ => ?_
  congr 1
  by_cases h : i' = i ∧ j' = j
  · obtain ⟨rfl, rfl⟩ := h; simp
  · by_cases h2 : i' < i ∨ (i' = i ∧ j' < j)
    · rw [if_pos h2, if_pos (by omega)]
    · rw [if_neg h2, if_neg h, if_neg (by omega)]; split <;> rfl
theorem prodF_nexti {a b : List (List Int)} {p q r i : Nat} : prodF a b p q r i r 0 = prodF a b p q r (i + 1) 0 0 := by
  unfold prodF
  refine tabOf_congr fun i' _ j' hj' => ?_
  congr 1
  by_cases h2 : i' < i ∨ (i' = i ∧ j' < r)
  · rw [if_pos h2, if_pos (by omega)]
  · rw [if_neg h2, if_neg (show ¬ (i' < i + 1 ∨ (i' = i + 1 ∧ j' < 0)) from by omega)]; split <;> split <;> rfl
theorem prodF_end {a b : List (List Int)} {p q r : Nat} : prodF a b p q r p 0 0 = prodT a b p q r := by
  unfold prodF prodT
  exact tabOf_congr fun i' hi' j' _ => by rw [if_pos (by omega)]

theorem New.heap {α : Type} {R : OwnRel α} (hR : Kept R) {lo : Nat} {w w' : World} {v : Value} {x : α} (h : New R lo w v x) (e : w'.heap = w.heap) : New R lo w' v x := by
  obtain ⟨F, hF, hf⟩ := h
  exact ⟨F, hR.keep _ _ _ _ _ hF fun b _ => by rw [e], hf⟩

/-- A plain value of an own slice: its cell, and what a store leaves. -/
theorem New.val_at {α : Type} {f : α → Value} (hf : ∀ x, (f x).oneCell' = true) {e : TypeId} {lo : Nat} {w : World} {v : Value} {xs : List α} (h : New (OwnOf e (OValR f)) lo w v xs) {i : Nat} {x : α} (hx : xs[i]? = some x) :
    ∃ b c, v = .slice (some ⟨b, 0, none⟩) xs.length c ∧ xs.length ≤ c ∧ lo ≤ b ∧ b < w.heap.size ∧ w.cell? ⟨b, i, none⟩ = some (f x) ∧ w.frozen? ⟨b, i, none⟩ = false ∧
      ∀ y, New (OwnOf e (OValR f)) lo (w.setCell ⟨b, i, none⟩ (f y)) v (xs.set i y) := by
  have hK : Kept (OValR f) := ⟨fun _ _ _ _ _ h _ => h, fun _ _ _ _ h b hb => by rw [h.2] at hb; simp at hb, fun _ _ x _ h => by rw [h.1]; exact hf x⟩
  obtain ⟨F, hF, hn, hge⟩ := h
  obtain ⟨b, c, u, G, hv, hc, hbF, hbG, hcell, hfr, ⟨rfl, rfl⟩, _, _, _, hst⟩ := hF.focus hK hn hx
  refine ⟨b, c, hv, hc, hge b hbF, (OwnOf.kept hK).lt _ _ _ _ hF b hbF, hcell, hfr, fun y => ?_⟩
  obtain ⟨F', hF', hsub, hn', _⟩ := hst w (f y) y [] ⟨rfl, rfl⟩ (by simp) (fun _ _ _ => rfl)
  exact ⟨F', hF', hn' (by simp) (by simp), fun q hq => (hsub q hq).elim (hge q) (by simp)⟩

theorem OVal.kept {α : Type} {f : α → Value} (hf : ∀ x, (f x).oneCell' = true) : Kept (OValR f) :=
  ⟨fun _ _ _ _ _ h _ => h, fun _ _ _ _ h b hb => by rw [h.2] at hb; simp at hb, fun _ _ x _ h => by rw [h.1]; exact hf x⟩

/-- Which numbers below n are in a list. -/
def seenL (n : Nat) (seen : List Int) : List Bool := (List.range n).map fun (j : Nat) => seen.contains (j : Int)
theorem seenL_nil (n : Nat) : seenL n [] = List.replicate n false := by
  unfold seenL
  apply List.ext_getElem?
  intro k
  by_cases hk : k < n <;> simp [hk]
theorem seenL_at {n p : Nat} {seen : List Int} (h : p < n) : (seenL n seen)[p]? = some (seen.contains (p : Int)) := by simp [seenL, h]
theorem seenL_set {n p : Nat} {seen : List Int} : (seenL n seen).set p true = seenL n ((p : Int) :: seen) := by
  unfold seenL
  apply List.ext_getElem?
  intro k
  by_cases hk : k < n
  · by_cases hj : p = k
    · subst hj; simp [hk]
    · rw [List.getElem?_set_ne hj]
      simp [hk]
      omega
  · rw [List.getElem?_eq_none (by simp; omega), List.getElem?_eq_none (by simp; omega)]

/-- Each number from 0 to below n, none twice. -/
def namesL (n : Nat) : List Int → List Int → Bool
  | [], _ => true
  | x :: xs, seen => if 0 ≤ x ∧ x < n ∧ seen.contains x = false then namesL n xs (x :: seen) else false

theorem namesL_range {n : Nat} {xs seen : List Int} (h : namesL n xs seen = true) : ∀ x, x ∈ xs → 0 ≤ x ∧ x < n := by
  induction xs generalizing seen with
  | nil => simp
  | cons y ys ih =>
    unfold namesL at h
    split at h
    · rename_i hy
      intro x hx
      rcases List.mem_cons.1 hx with rfl | hx
      · exact ⟨hy.1, hy.2.1⟩
      · exact ih h x hx
    · cases h

theorem Sq.set {n : Nat} {m : List (List Int)} (h : Sq n m) {i : Nat} (hi : i < n) (j : Nat) (y : Int) : Sq n (m.set i ((m.getD i []).set j y)) := by
  refine ⟨by rw [List.length_set]; exact h.1, fun r hr => ?_⟩
  rcases List.mem_or_eq_of_mem_set hr with hr | hr
  · exact h.2 r hr
  · rw [hr, List.length_set]
    exact h.2 _ (by simp [List.getD, show i < m.length by have := h.1; omega])
theorem Sq.row {n : Nat} {m : List (List Int)} (h : Sq n m) {i : Nat} (hi : i < n) : m[i]? = some (m.getD i []) ∧ (m.getD i []).length = n := by
  have h1 : i < m.length := by have := h.1; omega
  have h2 : m[i]? = some (m.getD i []) := by simp [List.getD, h1]
  exact ⟨h2, h.2 _ (List.mem_of_getElem? h2)⟩
theorem Sq.entry {n : Nat} {m : List (List Int)} (h : Sq n m) {i j : Nat} (hi : i < n) (hj : j < n) : (m.getD i [])[j]? = some (ent m i j) := by
  have h1 := (h.row hi).2
  unfold ent
  generalize m.getD i [] = r at h1 ⊢
  simp [List.getD, show j < r.length by omega]
theorem Sq.zeros (n : Nat) : Sq n (List.replicate n (List.replicate n 0)) := ⟨by simp, fun r hr => by rw [(List.mem_replicate.1 hr).2]; simp⟩

/-- The table of zeros with its rows and columns filled by their new names, up to row i, column j. -/
def renJ (m : List (List Int)) (ps : List Nat) (out : List (List Int)) (i : Nat) : Nat → List (List Int)
  | 0 => out
  | j + 1 => (renJ m ps out i j).set (ps.getD i 0) (((renJ m ps out i j).getD (ps.getD i 0) []).set (ps.getD j 0) (ent m i j))
def renI (m : List (List Int)) (ps : List Nat) (n : Nat) : Nat → List (List Int)
  | 0 => List.replicate n (List.replicate n 0)
  | i + 1 => renJ m ps (renI m ps n i) i n

theorem renJ_sq {m : List (List Int)} {ps : List Nat} {n : Nat} {out : List (List Int)} (h : Sq n out) {i : Nat} (hp : ps.getD i 0 < n) (j : Nat) : Sq n (renJ m ps out i j) := by
  induction j with
  | zero => exact h
  | succ j ih => exact ih.set hp _ _
theorem renI_sq {m : List (List Int)} {ps : List Nat} {n : Nat} (hp : ∀ i, i < n → ps.getD i 0 < n) : ∀ i, i ≤ n → Sq n (renI m ps n i) := by
  intro i
  induction i with
  | zero => intro _; exact Sq.zeros n
  | succ i ih => intro hi; exact renJ_sq (ih (by omega)) (hp i (by omega)) n

end Go.Sd
end

section
/-
  What a matrix is, by the program's IsMatrix and by the reference's.
-/
namespace Go.Proofs.YtlkgkfgpnnahdaaGreat
open Go.RowKit Go.Deep Go.Sd

def entOk (x : Int) : Bool := decide (0 ≤ x ∧ x ≤ 1000000)
def rowOk (n : Nat) (r : List Int) : Bool := decide (r.length = n) && r.all entOk
def isMat (m : List (List Int)) : Bool := decide (1 ≤ m.length ∧ m.length ≤ 9) && m.all (rowOk m.length)

theorem rowOk_no {n : Nat} {r : List Int} (h : r.length ≠ n) : rowOk n r = false := by unfold rowOk; simp [h]
theorem rowOk_yes {n : Nat} {r : List Int} (h : r.length = n) : rowOk n r = r.all entOk := by unfold rowOk; simp [h]

set_option maxHeartbeats 400000 in
theorem impl_IsMatrix_c {w : World} {v : Value} {m : List (List Int)} (h : Tab w v m) :
    Calls Tryz.prog 43 #[v] w fun e w' => e = .returned (.bool (isMat m)) ∧ w = w' := by
  have hlen := h.len
  obtain ⟨a, c, rfl, _, _, hcell⟩ := h.shape
  clear h
  by_cases hs : 1 ≤ m.length ∧ m.length ≤ 9
  · obtain ⟨hs1, hs2⟩ := hs
    have H0 := Lib.hid (show isMat m = (m.drop 0).all (rowOk m.length) from by unfold isMat; simp [hs1, hs2])
    go_enter Tryz.func43, Tryz.ntmps43
    go_wp2
    go_loopg [17] (m.length) (fun g i wr => ∃ (k : Nat), i = .int .i64 k ∧ k + g = m.length ∧ Hid (isMat m = (m.drop k).all (rowOk m.length)) ∧ w = wr)
    case atStart => exact ⟨0, rfl, by omega, H0, rfl⟩
    case round =>
      obtain ⟨k, rfl, hk, H, rfl⟩ := hrel
      by_cases hlt : k < m.length
      · obtain ⟨b, o, rfl, hb, hx0⟩ := hcell (by omega)
        obtain ⟨r, hr, hd⟩ := at_lt hlt
        obtain ⟨u, hu, hru⟩ := hx0 k r hr
        have hrl := hru.len
        obtain ⟨ra, rc, rfl, _, _, hrc⟩ := hru.shape
        have H1 := Lib.hid (show isMat m = (rowOk m.length r && (m.drop (k + 1)).all (rowOk m.length)) from by rw [H.out, hd]; rfl)
        clear H hr hd hx0 hcell hru H0
        by_cases hl : r.length = m.length
        · have H2 := Lib.hid (show isMat m = ((r.drop 0).all entOk && (m.drop (k + 1)).all (rowOk m.length)) from by rw [H1.out, rowOk_yes hl]; rfl)
          have t1 : ((r.length : Int) != (m.length : Int)) = false := by simp [hl]
          clear H1 hl
          go_wp2
          go_loopg [28] (r.length) (fun g i wr => ∃ (j : Nat), i = .int .i64 j ∧ j + g = r.length ∧ Hid (isMat m = ((r.drop j).all entOk && (m.drop (k + 1)).all (rowOk m.length))) ∧ w = wr)
          case atStart => exact ⟨0, rfl, by omega, H2, rfl⟩
          case round =>
            obtain ⟨j, rfl, hj, H, rfl⟩ := hrel
            clear H2
            by_cases hlt2 : j < r.length
            · obtain ⟨b2, o2, rfl, hb2, hx2⟩ := hrc (by omega)
              obtain ⟨x, hx, hdx⟩ := at_lt hlt2
              obtain ⟨u2, hu2, rfl⟩ := hx2 j x hx
              have H1 := Lib.hid (show isMat m = (entOk x && (r.drop (j + 1)).all entOk && (m.drop (k + 1)).all (rowOk m.length)) from by rw [H.out, hdx]; rfl)
              clear H hx hdx hx2 hrc
              by_cases hx1 : x < 0
              · have H3 := Lib.hid (show isMat m = false from by rw [H1.out, show entOk x = false from by unfold entOk; simp; omega]; rfl)
                clear H1
                go_wp2
                go_ret
                exact ⟨by rw [H3.out]; rfl, rfl⟩
              by_cases hx2 : 1000000 < x
              · have H3 := Lib.hid (show isMat m = false from by rw [H1.out, show entOk x = false from by unfold entOk; simp; omega]; rfl)
                clear H1
                go_wp2
                go_ret
                exact ⟨by rw [H3.out]; rfl, rfl⟩
              have H3 := Lib.hid (show isMat m = ((r.drop (j + 1)).all entOk && (m.drop (k + 1)).all (rowOk m.length)) from by rw [H1.out, show entOk x = true from by unfold entOk; simp; omega]; rfl)
              clear H1
              go_wp2
              go_roundg (r.length - (j + 1))
              case measure => omega
              case rel => exact ⟨j + 1, by go_num, by omega, H3, rfl⟩
            · have H1 := Lib.hid (show isMat m = (m.drop (k + 1)).all (rowOk m.length) from by rw [H.out, drop_len hlt2]; rfl)
              clear H
              go_wp2
              go_roundg (m.length - (k + 1))
              case measure => omega
              case rel => exact ⟨k + 1, by go_num, by omega, H1, rfl⟩
        · have H2 := Lib.hid (show isMat m = false from by rw [H1.out, rowOk_no hl]; rfl)
          have t1 : ((r.length : Int) != (m.length : Int)) = true := by simp; omega
          clear H1
          go_wp2
          go_ret
          exact ⟨by rw [H2.out]; rfl, rfl⟩
      · have H1 := Lib.hid (show isMat m = true from by rw [H.out, drop_len hlt]; rfl)
        clear H
        go_wp2
        go_ret
        exact ⟨by rw [H1.out]; rfl, rfl⟩
  · have H := Lib.hid (show isMat m = false from by unfold isMat; simp [hs])
    by_cases h1 : m.length < 1
    · go_enter Tryz.func43, Tryz.ntmps43
      go_wp2
      go_ret
      exact ⟨by rw [H.out]; rfl, rfl⟩
    · have h2 : 9 < m.length := by omega
      go_enter Tryz.func43, Tryz.ntmps43
      go_wp2
      go_ret
      exact ⟨by rw [H.out]; rfl, rfl⟩

set_option maxHeartbeats 800000 in
theorem spec_IsMatrix_c {w : World} {v : Value} {m : List (List Int)} (h : Tab w v m) :
    Calls Tryz.prog 37 #[v] w fun e w' => e = .returned (.bool (isMat m)) ∧ w = w' := by
  have hlen := h.len
  obtain ⟨a, c, rfl, _, _, hcell⟩ := h.shape
  clear h
  have H0 := Lib.hid (show isMat m = (decide (1 ≤ m.length ∧ m.length ≤ 9) && (m.drop 0).all (rowOk m.length)) from rfl)
  go_enter Tryz.func37, Tryz.ntmps37
  go_wp2
  go_loopg [3] (m.length) (fun g i wr => ∃ (k : Nat), i = .int .i64 k ∧ k + g = m.length ∧ Hid (isMat m = (decide (1 ≤ m.length ∧ m.length ≤ 9) && (m.drop k).all (rowOk m.length))) ∧ w = wr)
  case atStart => exact ⟨0, rfl, by omega, H0, rfl⟩
  case round =>
    obtain ⟨k, rfl, hk, H, rfl⟩ := hrel
    by_cases hlt : k < m.length
    · obtain ⟨b, o, rfl, hb, hx0⟩ := hcell (by omega)
      obtain ⟨r, hr, hd⟩ := at_lt hlt
      obtain ⟨u, hu, hru⟩ := hx0 k r hr
      have hrl := hru.len
      obtain ⟨ra, rc, rfl, _, _, hrc⟩ := hru.shape
      have H1 := Lib.hid (show isMat m = (decide (1 ≤ m.length ∧ m.length ≤ 9) && (rowOk m.length r && (m.drop (k + 1)).all (rowOk m.length))) from by rw [H.out, hd]; rfl)
      clear H hr hd hx0 hcell hru H0
      by_cases hl : r.length = m.length
      · have H2 := Lib.hid (show isMat m = (decide (1 ≤ m.length ∧ m.length ≤ 9) && ((r.drop 0).all entOk && (m.drop (k + 1)).all (rowOk m.length))) from by rw [H1.out, rowOk_yes hl]; rfl)
        have t1 : ((r.length : Int) != (m.length : Int)) = false := by simp [hl]
        have Hl := Lib.hid hl
        have hle : m.length ≤ r.length := by omega
        clear H1 hl
        go_wp2
        go_loopg [4] (m.length) (fun g i wr => ∃ (j : Nat), i = .int .i64 j ∧ j + g = m.length ∧ Hid (isMat m = (decide (1 ≤ m.length ∧ m.length ≤ 9) && ((r.drop j).all entOk && (m.drop (k + 1)).all (rowOk m.length)))) ∧ w = wr)
        case atStart => exact ⟨0, rfl, by omega, H2, rfl⟩
        case round =>
          obtain ⟨j, rfl, hj, H, rfl⟩ := hrel
          clear H2
          by_cases hlt2 : j < m.length
          · obtain ⟨b2, o2, rfl, hb2, hx2⟩ := hrc (by omega)
            obtain ⟨x, hx, hdx⟩ := at_lt (xs := r) (k := j) (by omega)
            obtain ⟨u2, hu2, rfl⟩ := hx2 j x hx
            have H1 := Lib.hid (show isMat m = (decide (1 ≤ m.length ∧ m.length ≤ 9) && (entOk x && (r.drop (j + 1)).all entOk && (m.drop (k + 1)).all (rowOk m.length))) from by rw [H.out, hdx]; rfl)
            clear H hx hdx hx2 hrc
            by_cases hx1 : 0 ≤ x ∧ x ≤ 1000000
            · have H3 := Lib.hid (show isMat m = (decide (1 ≤ m.length ∧ m.length ≤ 9) && ((r.drop (j + 1)).all entOk && (m.drop (k + 1)).all (rowOk m.length))) from by rw [H1.out, show entOk x = true from by unfold entOk; simp [hx1]]; rfl)
              have Hc := Lib.hid (l1In_yes w hx1.1 hx1.2)
              clear H1 hx1
              go_wp2_with (go_at_call 58; refine Hc.out.mono ?_; rintro e w' ⟨rfl, rfl⟩)
              go_roundg (m.length - (j + 1))
              case measure => omega
              case rel => exact ⟨j + 1, by go_num, by omega, H3, rfl⟩
            · have H3 := Lib.hid (show isMat m = false from by rw [H1.out, show entOk x = false from by unfold entOk; simp [hx1]]; simp)
              have Hc := Lib.hid (l1In_no (a := x) (b := 0) (c := 1000000) w (by omega))
              clear H1 hx1
              go_wp2_with (go_at_call 58; refine Hc.out.mono ?_; rintro e w' ⟨rfl, rfl⟩)
              go_ret
              exact ⟨by rw [H3.out]; rfl, rfl⟩
          · have H1 := Lib.hid (show isMat m = (decide (1 ≤ m.length ∧ m.length ≤ 9) && (m.drop (k + 1)).all (rowOk m.length)) from by rw [H.out, drop_len (by have := Hl.out; omega)]; rfl)
            clear H
            go_wp2
            go_roundg (m.length - (k + 1))
            case measure => omega
            case rel => exact ⟨k + 1, by go_num, by omega, H1, rfl⟩
      · have H2 := Lib.hid (show isMat m = false from by rw [H1.out, rowOk_no hl]; simp)
        have t1 : ((r.length : Int) != (m.length : Int)) = true := by simp; omega
        clear H1
        go_wp2
        go_ret
        exact ⟨by rw [H2.out]; rfl, rfl⟩
    · have H1 := Lib.hid (show isMat m = (decide (1 ≤ (m.length : Int)) && decide ((m.length : Int) ≤ 9)) from by rw [H.out, drop_len hlt]; simp; by_cases h1 : 1 ≤ m.length <;> by_cases h2 : m.length ≤ 9 <;> simp [h1, h2] <;> omega)
      have Hc := Lib.hid (l1In_c (m.length : Int) 1 9 w)
      clear H
      go_wp2_with (go_at_call 58; refine Hc.out.mono ?_; rintro e w' ⟨rfl, rfl⟩)
      go_ret
      exact ⟨by rw [H1.out]; rfl, rfl⟩
end Go.Proofs.YtlkgkfgpnnahdaaGreat
end

section
/-
  Two matrices that are alike: the program's search for places and the reference's answer alike.
-/
namespace Go.Proofs.YtlkgkfgpnnahdaaGreat
open Go.RowKit Go.Deep Go.Sd

/-- The places that are given fit with p as the next one. -/
def okL (a b : List (List Int)) (k p : Nat) : List Nat → Nat → Bool
  | [], _ => true
  | q :: qs, i => (decide (q ≠ p) && decide (ent a k i = ent b p q) && decide (ent a i k = ent b q p)) && okL a b k p qs (i + 1)
def okAt (a b : List (List Int)) (ps : List Nat) (p : Nat) : Bool := decide (ent a ps.length ps.length = ent b p p) && okL a b ps.length p ps 0

/-- Some number from p on, of the next g ones. -/
def anyF (h : Nat → Bool) : Nat → Nat → Bool
  | 0, _ => false
  | g + 1, p => if h p then true else anyF h g (p + 1)

def fitM (a b : List (List Int)) (n : Nat) : Nat → List Nat → Bool
  | 0, _ => true
  | f + 1, ps => anyF (fun p => okAt a b ps p && fitM a b n f (ps ++ [p])) n 0

def alikeM (a b : List (List Int)) : Bool := isMat a && isMat b && decide (a.length = b.length) && decide (a.length ≤ 6) && fitM a b a.length a.length []

def nats (ps : List Nat) : List Int := ps.map fun (q : Nat) => (q : Int)
theorem nats_at {ps : List Nat} {i q : Nat} (h : ps[i]? = some q) : (nats ps)[i]? = some (q : Int) := by simp [nats, h]

theorem isMat_sq {m : List (List Int)} (h : isMat m = true) : Sq m.length m ∧ 1 ≤ m.length ∧ m.length ≤ 9 := by
  unfold isMat at h
  simp only [Bool.and_eq_true, decide_eq_true_eq, List.all_eq_true] at h
  refine ⟨⟨rfl, fun r hr => ?_⟩, h.1.1, h.1.2⟩
  have := h.2 r hr
  unfold rowOk at this
  simp at this
  exact this.1

set_option maxHeartbeats 4000000 in
set_option maxRecDepth 100000 in
theorem fits_c (a b : List (List Int)) (n : Nat) (ha : Sq n a) (hb : Sq n b) (hn0 : 0 < n) (hn : n ≤ 9) : ∀ (f : Nat) (ps : List Nat) (w : World) (va vb vp : Value), ps.length + f = n → (∀ q, q ∈ ps → q < n) → Tab w va a → Tab w vb b → Ints w vp (nats ps) →
    Calls Tryz.prog 96 #[va, vb, vp] w fun e w' => e = .returned (.bool (fitM a b n f ps)) ∧ Below w.heap.size w w' := by
  intro f
  induction f with
  | zero =>
    intro ps w va vb vp hf hq h1 h2 h3
    obtain ⟨ab, ao, ac, rfl, _⟩ := h1.entAt ha.1 ha.2 hn0
    have h3l : (nats ps).length = n := by unfold nats; simp; omega
    obtain ⟨pa, pc, rfl, _, _, _⟩ := h3.shape
    rw [h3l]
    go_enter Tryz.func96, Tryz.ntmps96
    go_wp2
    go_ret
    exact ⟨rfl, Below.refl _ _⟩
  | succ f ih =>
    intro ps w va vb vp hf hq h1 h2 h3
    have h1' := h1
    have h2' := h2
    have h3' := h3
    obtain ⟨ab, ao, ac, rfl, hab, hae⟩ := h1.entAt ha.1 ha.2 hn0
    obtain ⟨bb, bo, bc, rfl, hbb, hbe⟩ := h2.entAt hb.1 hb.2 hn0
    obtain ⟨pa, pc, rfl, hp1, _, hpc⟩ := h3.shape
    have h3l : (nats ps).length = ps.length := by unfold nats; simp
    rw [h3l] at hp1 hpc h3' ⊢
    have H0 := Lib.hid (show fitM a b n (f + 1) ps = anyF (fun p => okAt a b ps p && fitM a b n f (ps ++ [p])) n 0 from rfl)
    obtain ⟨G, hG⟩ : ∃ G : Nat → Bool, G = (fun p => okAt a b ps p && fitM a b n f (ps ++ [p])) := ⟨_, rfl⟩
    rw [← hG] at H0
    have HG := Lib.hid hG
    have Ih := Lib.hid ih
    have Hq := Lib.hid hq
    have t0 : ((ps.length : Int) == (n : Int)) = false := by simp; omega
    have hk1 : ps.length < n := by omega
    generalize fitM a b n (f + 1) ps = R at H0
    have Hf := Lib.hid hf
    clear hG ih hq h1 h2 h3 hf
    go_enter Tryz.func96, Tryz.ntmps96
    go_wp2
    go_loopg [20] n (fun g i wr => ∃ (p : Nat), i = .int .i64 p ∧ p + g = n ∧ Hid (R = anyF G g p) ∧ Below w.heap.size w wr)
    case atStart => exact ⟨0, rfl, by omega, H0, Below.refl _ _⟩
    case round =>
      obtain ⟨p, rfl, hp, H, hbel⟩ := hrel
      obtain ⟨wo, rfl⟩ : ∃ wo : World, wo = wr := ⟨_, rfl⟩
      obtain ⟨g, hg⟩ : ∃ g, g = gk := ⟨_, rfl⟩
      rw [← hg] at H hp
      by_cases hlt : p < n
      · obtain ⟨g', rfl⟩ : ∃ q, g = q + 1 := ⟨g - 1, by omega⟩
        have H1 := Lib.hid (show R = if G p then true else anyF G g' (p + 1) from H.out)
        obtain ⟨ab1, ao1, ac1, hA1, hab1, _, hA2⟩ := hae.at hk1 hn0
        obtain ⟨bb1, bo1, bc1, hB1, hbb1, _, hB2⟩ := hbe.at hlt hn0
        have hA3 := hA2 ps.length hk1
        have hB3 := hB2 p hlt
        have hrule := hbel.rule
        have hi1 : (ps.length : Int) < (n : Int) := by omega
        have hi2 : (p : Int) < (n : Int) := by omega
        clear H H0
        obtain ⟨e0, he0⟩ : ∃ e0 : Bool, e0 = (ent a ps.length ps.length == ent b p p) := ⟨_, rfl⟩
        have He0 := Lib.hid he0
        rw [eq_comm] at he0
        go_wp2
        go_quiet (fail)
        go_wp2
        clear he0
        go_loopg [9, 40] (ps.length) (fun g okv i w2 => ∃ (j : Nat) (fl : Bool), i = .int .i64 j ∧ okv = .bool fl ∧ j + g = ps.length ∧ Hid (okAt a b ps p = (fl && okL a b ps.length p (ps.drop j) j)) ∧ Drawn wo w2)
        case atStart => exact ⟨0, e0, rfl, rfl, by omega, Lib.hid (by rw [He0.out]; rfl), (Drawn.refl _).drewN _⟩
        case round =>
          obtain ⟨j, fl, rfl, rfl, hj, H, hdr⟩ := hrel
          have hrule2 := hdr.cell
          by_cases hlt2 : j < ps.length
          · obtain ⟨q, hqj, hqd⟩ := at_lt hlt2
            have hqn := Hq.out q (List.mem_of_getElem? hqj)
            obtain ⟨pb, po, rfl, hpb, hpx⟩ := hpc (by omega)
            obtain ⟨u, hu, rfl⟩ := hpx j (q : Int) (nats_at hqj)
            obtain ⟨ab2, ao2, ac2, hA4, hab2, _, hA5⟩ := hae.at (i := j) (by omega) hn0
            obtain ⟨bb2, bo2, bc2, hB4, hbb2, _, hB5⟩ := hbe.at hqn hn0
            have H2 := Lib.hid (show okAt a b ps p = (fl && ((decide (q ≠ p) && decide (ent a ps.length j = ent b p q) && decide (ent a j ps.length = ent b q p)) && okL a b ps.length p (ps.drop (j + 1)) (j + 1))) from by rw [H.out, hqd]; rfl)
            have hA6 := hA2 j (by omega)
            have hA7 := hA5 ps.length hk1
            have hB6 := hB2 q hqn
            have hB7 := hB5 p hlt
            have hi3 : (j : Int) < (n : Int) := by omega
            have hi4 : (q : Int) < (n : Int) := by omega
            have hi5 : (j : Int) < (ps.length : Int) := by omega
            clear H hqj hqd hpx hpc hA2 hA5 hB2 hB5 hA3 hB3 hae hbe
            cases fl with
            | false =>
              have H3 := Lib.hid (show okAt a b ps p = (false && okL a b ps.length p (ps.drop (j + 1)) (j + 1)) from by rw [H2.out]; rfl)
              clear H2
              go_wp2
              go_quiet (fail)
              go_wp2
              go_roundg (ps.length - (j + 1))
              case measure => omega
              case rel => exact ⟨j + 1, false, by go_num, rfl, by omega, H3, hdr.drewN _⟩
            | true =>
              by_cases hqp : q = p
              · have H3 := Lib.hid (show okAt a b ps p = (false && okL a b ps.length p (ps.drop (j + 1)) (j + 1)) from by rw [H2.out]; simp [hqp])
                have t1 : ((q : Int) != (p : Int)) = false := by simp [hqp]
                clear H2 hqp
                go_wp2
                go_quiet (fail)
                go_wp2
                go_roundg (ps.length - (j + 1))
                case measure => omega
                case rel => exact ⟨j + 1, false, by go_num, rfl, by omega, H3, hdr.drewN _⟩
              have t1 : ((q : Int) != (p : Int)) = true := by simp; omega
              by_cases hq1 : ent a ps.length j = ent b p q
              · have t2 : (ent a ps.length j == ent b p q) = true := by simp [hq1]
                by_cases hq2 : ent a j ps.length = ent b q p
                · have t3 : (ent a j ps.length == ent b q p) = true := by simp [hq2]
                  have H3 := Lib.hid (show okAt a b ps p = (true && okL a b ps.length p (ps.drop (j + 1)) (j + 1)) from by rw [H2.out]; simp [hqp, hq1, hq2])
                  clear H2 hqp hq1 hq2
                  go_wp2
                  go_quiet (fail)
                  go_wp2
                  go_roundg (ps.length - (j + 1))
                  case measure => omega
                  case rel => exact ⟨j + 1, true, by go_num, rfl, by omega, H3, hdr.drewN _⟩
                · have t3 : (ent a j ps.length == ent b q p) = false := by simp [hq2]
                  have H3 := Lib.hid (show okAt a b ps p = (false && okL a b ps.length p (ps.drop (j + 1)) (j + 1)) from by rw [H2.out]; simp [hq2])
                  clear H2 hqp hq1 hq2
                  go_wp2
                  go_quiet (fail)
                  go_wp2
                  go_roundg (ps.length - (j + 1))
                  case measure => omega
                  case rel => exact ⟨j + 1, false, by go_num, rfl, by omega, H3, hdr.drewN _⟩
              · have t2 : (ent a ps.length j == ent b p q) = false := by simp [hq1]
                have H3 := Lib.hid (show okAt a b ps p = (false && okL a b ps.length p (ps.drop (j + 1)) (j + 1)) from by rw [H2.out]; simp [hq1])
                clear H2 hqp hq1
                go_wp2
                go_quiet (fail)
                go_wp2
                go_roundg (ps.length - (j + 1))
                case measure => omega
                case rel => exact ⟨j + 1, false, by go_num, rfl, by omega, H3, hdr.drewN _⟩
          · have H2 := Lib.hid (show okAt a b ps p = fl from by rw [H.out, drop_len hlt2]; simp [okL])
            clear H hA3 hB3 hA2 hB2 hA1 hB1 hae hbe hpc
            cases fl with
            | false =>
              have H3 := Lib.hid (show R = anyF G g' (p + 1) from by rw [H1.out, HG.out]; simp [H2.out])
              clear H1 H2
              go_wp2
              go_roundg g'
              case measure => omega
              case rel => exact ⟨p + 1, by go_num, by omega, H3, hbel.trans (hdr.below _)⟩
            | true =>
              have H3 := Lib.hid (show R = if fitM a b n f (ps ++ [p]) then true else anyF G g' (p + 1) from by rw [H1.out, HG.out]; simp [H2.out])
              have hb2 : Below w.heap.size w wr := hbel.trans (hdr.below _)
              have Hsrc := Lib.hid (show SlOf (ValR (Value.int .i64)) (wr.alloc (.cells #[] 3)) (.slice pa ps.length pc) (nats ps) from Ints.frame _ _ _ _ h3' (hb2.alloc hb2.size _))
              have hle2 : w.heap.size ≤ wr.heap.size := hb2.size
              clear H1 H2 hrule hrule2 hbel hdr t0 h3'
              have Hb2 := Lib.hid hb2
              have H1t := Lib.hid h1'
              have H2t := Lib.hid h2'
              clear hb2 h1' h2'
              have Hl3 := Lib.hid h3l
              clear h3l
              go_wp2_with (first
                | (at_builtin; refine wpl_append_vals (f := Value.int .i64) (fun _ => rfl) rfl (.tmp 90) (.tmp 91) 46 rfl 3 (.int .i64 0) 8 Tryz.underlying46 infoI rfl (New.empty (R := OValR (Value.int .i64)) (lo := wr.heap.size) wr (Nat.le_refl _)) (by simp) Hsrc.out rfl rfl (by rw [Hl3.out]; simp; omega) (by rw [Hl3.out]; simp; omega) ?_; intro v1 w3 hn1 hg1 hv1 hb3; have Hn1 := Lib.hid hn1; have Hb3 := Lib.hid hb3; clear hn1 hg1 hv1 hb3)
                | (at_builtin; refine wpl_push (w0 := w3) (lo := wr.heap.size) (y := (p : Int)) OIntR.kept rfl (.tmp 92) (.tmp 94) 46 rfl 3 (.int .i64 0) 8 Tryz.underlying46 infoI rfl Hn1.out (by have := Hb3.out.size; simp at this; omega) ((Below.refl _ _).alloc (Nat.le_refl _) _) ⟨[], ⟨rfl, rfl⟩, by simp [Fresh]⟩ (bb := w3.heap.size) (c := 1) (by simp) rfl rfl (by simp [Hl3.out]; omega) (by simp [Hl3.out]; omega) ?_; intro v2 w4 hn2 hg2 hv2 hb4; have Hn2 := Lib.hid hn2; have Hb4 := Lib.hid hb4; clear hn2 hg2 hv2 hb4))
              have hb4 : Below w.heap.size w w4 := ((Hb2.out.alloc hle2 _).trans (Hb3.out.mono hle2)).trans (Hb4.out.mono hle2)
              have hnats : nats (ps ++ [p]) = [] ++ nats ps ++ [(p : Int)] := by simp [nats]
              refine (Ih.out (ps ++ [p]) w4 _ _ _ (by have := Hf.out; simp; omega) (by intro q hq; rcases List.mem_append.1 hq with hq | hq; exact Hq.out q hq; simp at hq; omega) (Tab.frame _ _ _ _ H1t.out hb4) (Tab.frame _ _ _ _ H2t.out hb4) (by rw [hnats]; exact New.ints Hn2.out)).mono ?_
              rintro e w5 ⟨rfl, hb5⟩
              clear hnats
              have Hb5 := Lib.hid (hb4.trans (hb5.mono hb4.size))
              clear hb4 hb5
              generalize fitM a b n f (ps ++ [p]) = fm at H3 ⊢
              cases fm with
              | true =>
                have H4 := Lib.hid (show R = true from H3.out)
                clear H3
                go_wp2
                go_ret
                exact ⟨by rw [H4.out]; rfl, Hb5.out⟩
              | false =>
                have H4 := Lib.hid (show R = anyF G g' (p + 1) from H3.out)
                clear H3
                go_wp2
                go_roundg g'
                case measure => omega
                case rel => exact ⟨p + 1, by go_num, by omega, H4, Hb5.out⟩
      · have : g = 0 := by omega
        subst this
        have H1 := Lib.hid (show R = false from H.out)
        clear H
        go_wp2
        go_ret
        exact ⟨by rw [H1.out]; rfl, hbel⟩

set_option maxHeartbeats 4000000 in
set_option maxRecDepth 100000 in
theorem l18Match_c (a b : List (List Int)) (n : Nat) (ha : Sq n a) (hb : Sq n b) (hn0 : 0 < n) (hn : n ≤ 9) : ∀ (f : Nat) (ps : List Nat) (w : World) (va vb vp : Value), ps.length + f = n → (∀ q, q ∈ ps → q < n) → Tab w va a → Tab w vb b → Ints w vp (nats ps) →
    Calls Tryz.prog 97 #[va, vb, vp] w fun e w' => e = .returned (.bool (fitM a b n f ps)) ∧ Below w.heap.size w w' := by
  intro f
  induction f with
  | zero =>
    intro ps w va vb vp hf hq h1 h2 h3
    obtain ⟨ab, ao, ac, rfl, _⟩ := h1.entAt ha.1 ha.2 hn0
    have h3l : (nats ps).length = n := by unfold nats; simp; omega
    obtain ⟨pa, pc, rfl, _, _, _⟩ := h3.shape
    rw [h3l]
    go_enter Tryz.func97, Tryz.ntmps97
    go_wp2
    go_ret
    exact ⟨rfl, Below.refl _ _⟩
  | succ f ih =>
    intro ps w va vb vp hf hq h1 h2 h3
    have h1' := h1
    have h2' := h2
    have h3' := h3
    obtain ⟨ab, ao, ac, rfl, hab, hae⟩ := h1.entAt ha.1 ha.2 hn0
    obtain ⟨bb, bo, bc, rfl, hbb, hbe⟩ := h2.entAt hb.1 hb.2 hn0
    obtain ⟨pa, pc, rfl, hp1, _, hpc⟩ := h3.shape
    have h3l : (nats ps).length = ps.length := by unfold nats; simp
    rw [h3l] at hp1 hpc h3' ⊢
    have H0 := Lib.hid (show fitM a b n (f + 1) ps = anyF (fun p => okAt a b ps p && fitM a b n f (ps ++ [p])) n 0 from rfl)
    obtain ⟨G, hG⟩ : ∃ G : Nat → Bool, G = (fun p => okAt a b ps p && fitM a b n f (ps ++ [p])) := ⟨_, rfl⟩
    rw [← hG] at H0
    have HG := Lib.hid hG
    have Ih := Lib.hid ih
    have Hq := Lib.hid hq
    have t0 : ((ps.length : Int) == (n : Int)) = false := by simp; omega
    have hk1 : ps.length < n := by omega
    generalize fitM a b n (f + 1) ps = R at H0
    have Hf := Lib.hid hf
    clear hG ih hq h1 h2 h3 hf
    go_enter Tryz.func97, Tryz.ntmps97
    go_wp2
    go_loopg [8] n (fun g i wr => ∃ (p : Nat), i = .int .i64 p ∧ p + g = n ∧ Hid (R = anyF G g p) ∧ Below w.heap.size w wr)
    case atStart => exact ⟨0, rfl, by omega, H0, Below.refl _ _⟩
    case round =>
      obtain ⟨p, rfl, hp, H, hbel⟩ := hrel
      obtain ⟨wo, rfl⟩ : ∃ wo : World, wo = wr := ⟨_, rfl⟩
      obtain ⟨g, hg⟩ : ∃ g, g = gk := ⟨_, rfl⟩
      rw [← hg] at H hp
      by_cases hlt : p < n
      · obtain ⟨g', rfl⟩ : ∃ q, g = q + 1 := ⟨g - 1, by omega⟩
        have H1 := Lib.hid (show R = if G p then true else anyF G g' (p + 1) from H.out)
        obtain ⟨ab1, ao1, ac1, hA1, hab1, _, hA2⟩ := hae.at hk1 hn0
        obtain ⟨bb1, bo1, bc1, hB1, hbb1, _, hB2⟩ := hbe.at hlt hn0
        have hA3 := hA2 ps.length hk1
        have hB3 := hB2 p hlt
        have hrule := hbel.rule
        have hi1 : (ps.length : Int) < (n : Int) := by omega
        have hi2 : (p : Int) < (n : Int) := by omega
        clear H H0
        obtain ⟨e0, he0⟩ : ∃ e0 : Bool, e0 = (ent a ps.length ps.length == ent b p p) := ⟨_, rfl⟩
        have He0 := Lib.hid he0
        rw [eq_comm] at he0
        go_wp2
        go_quiet (fail)
        go_wp2
        clear he0
        go_loopg [9, 10] (ps.length) (fun g okv i w2 => ∃ (j : Nat) (fl : Bool), i = .int .i64 j ∧ okv = .bool fl ∧ j + g = ps.length ∧ Hid (okAt a b ps p = (fl && okL a b ps.length p (ps.drop j) j)) ∧ Drawn wo w2)
        case atStart => exact ⟨0, e0, rfl, rfl, by omega, Lib.hid (by rw [He0.out]; rfl), (Drawn.refl _).drewN _⟩
        case round =>
          obtain ⟨j, fl, rfl, rfl, hj, H, hdr⟩ := hrel
          have hrule2 := hdr.cell
          cases fl with
          | false =>
            have H2 := Lib.hid (show okAt a b ps p = false from by rw [H.out]; rfl)
            clear H hA3 hB3 hA2 hB2 hA1 hB1 hae hbe hpc
            have H3 := Lib.hid (show R = anyF G g' (p + 1) from by rw [H1.out, HG.out]; simp [H2.out])
            clear H1 H2
            by_cases hlt2 : j < ps.length
            all_goals
              go_wp2
              go_roundg g'
              case measure => omega
              case rel => exact ⟨p + 1, by go_num, by omega, H3, hbel.trans (hdr.below _)⟩
          | true =>
            by_cases hlt2 : j < ps.length
            · obtain ⟨q, hqj, hqd⟩ := at_lt hlt2
              have hqn := Hq.out q (List.mem_of_getElem? hqj)
              obtain ⟨pb, po, rfl, hpb, hpx⟩ := hpc (by omega)
              obtain ⟨u, hu, rfl⟩ := hpx j (q : Int) (nats_at hqj)
              obtain ⟨ab2, ao2, ac2, hA4, hab2, _, hA5⟩ := hae.at (i := j) (by omega) hn0
              obtain ⟨bb2, bo2, bc2, hB4, hbb2, _, hB5⟩ := hbe.at hqn hn0
              have H2 := Lib.hid (show okAt a b ps p = (true && ((decide (q ≠ p) && decide (ent a ps.length j = ent b p q) && decide (ent a j ps.length = ent b q p)) && okL a b ps.length p (ps.drop (j + 1)) (j + 1))) from by rw [H.out, hqd]; rfl)
              have hA6 := hA2 j (by omega)
              have hA7 := hA5 ps.length hk1
              have hB6 := hB2 q hqn
              have hB7 := hB5 p hlt
              have hi3 : (j : Int) < (n : Int) := by omega
              have hi4 : (q : Int) < (n : Int) := by omega
              have hi5 : (j : Int) < (ps.length : Int) := by omega
              clear H hqj hqd hpx hpc hA2 hA5 hB2 hB5 hA3 hB3 hae hbe
              by_cases hqp : q = p
              · have H3 := Lib.hid (show okAt a b ps p = (false && okL a b ps.length p (ps.drop (j + 1)) (j + 1)) from by rw [H2.out]; simp [hqp])
                have t1 : ((q : Int) != (p : Int)) = false := by simp [hqp]
                clear H2 hqp
                go_wp2
                go_quiet (fail)
                go_wp2
                go_roundg (ps.length - (j + 1))
                case measure => omega
                case rel => exact ⟨j + 1, false, by go_num, rfl, by omega, H3, hdr.drewN _⟩
              have t1 : ((q : Int) != (p : Int)) = true := by simp; omega
              by_cases hq1 : ent a ps.length j = ent b p q
              · have t2 : (ent a ps.length j == ent b p q) = true := by simp [hq1]
                by_cases hq2 : ent a j ps.length = ent b q p
                · have t3 : (ent a j ps.length == ent b q p) = true := by simp [hq2]
                  have H3 := Lib.hid (show okAt a b ps p = (true && okL a b ps.length p (ps.drop (j + 1)) (j + 1)) from by rw [H2.out]; simp [hqp, hq1, hq2])
                  clear H2 hqp hq1 hq2
                  go_wp2
                  go_quiet (fail)
                  go_wp2
                  go_roundg (ps.length - (j + 1))
                  case measure => omega
                  case rel => exact ⟨j + 1, true, by go_num, rfl, by omega, H3, hdr.drewN _⟩
                · have t3 : (ent a j ps.length == ent b q p) = false := by simp [hq2]
                  have H3 := Lib.hid (show okAt a b ps p = (false && okL a b ps.length p (ps.drop (j + 1)) (j + 1)) from by rw [H2.out]; simp [hq2])
                  clear H2 hqp hq1 hq2
                  go_wp2
                  go_quiet (fail)
                  go_wp2
                  go_roundg (ps.length - (j + 1))
                  case measure => omega
                  case rel => exact ⟨j + 1, false, by go_num, rfl, by omega, H3, hdr.drewN _⟩
              · have t2 : (ent a ps.length j == ent b p q) = false := by simp [hq1]
                have H3 := Lib.hid (show okAt a b ps p = (false && okL a b ps.length p (ps.drop (j + 1)) (j + 1)) from by rw [H2.out]; simp [hq1])
                clear H2 hqp hq1
                go_wp2
                go_quiet (fail)
                go_wp2
                go_roundg (ps.length - (j + 1))
                case measure => omega
                case rel => exact ⟨j + 1, false, by go_num, rfl, by omega, H3, hdr.drewN _⟩
            · have H2 := Lib.hid (show okAt a b ps p = true from by rw [H.out, drop_len hlt2]; rfl)
              clear H hA3 hB3 hA2 hB2 hA1 hB1 hae hbe hpc
              have H3 := Lib.hid (show R = if fitM a b n f (ps ++ [p]) then true else anyF G g' (p + 1) from by rw [H1.out, HG.out]; simp [H2.out])
              have hb2 : Below w.heap.size w wr := hbel.trans (hdr.below _)
              have Hsrc := Lib.hid (show SlOf (ValR (Value.int .i64)) (wr.alloc (.cells #[] 3)) (.slice pa ps.length pc) (nats ps) from Ints.frame _ _ _ _ h3' (hb2.alloc hb2.size _))
              have hle2 : w.heap.size ≤ wr.heap.size := hb2.size
              clear H1 H2 hrule hrule2 hbel hdr t0 h3'
              have Hb2 := Lib.hid hb2
              have H1t := Lib.hid h1'
              have H2t := Lib.hid h2'
              clear hb2 h1' h2'
              have Hl3 := Lib.hid h3l
              clear h3l
              go_wp2_with (first
                | (at_builtin; refine wpl_append_vals (f := Value.int .i64) (fun _ => rfl) rfl (.tmp 96) (.tmp 97) 46 rfl 3 (.int .i64 0) 8 Tryz.underlying46 infoI rfl (New.empty (R := OValR (Value.int .i64)) (lo := wr.heap.size) wr (Nat.le_refl _)) (by simp) Hsrc.out rfl rfl (by rw [Hl3.out]; simp; omega) (by rw [Hl3.out]; simp; omega) ?_; intro v1 w3 hn1 hg1 hv1 hb3; have Hn1 := Lib.hid hn1; have Hb3 := Lib.hid hb3; clear hn1 hg1 hv1 hb3)
                | (at_builtin; refine wpl_push (w0 := w3) (lo := wr.heap.size) (y := (p : Int)) OIntR.kept rfl (.tmp 98) (.tmp 100) 46 rfl 3 (.int .i64 0) 8 Tryz.underlying46 infoI rfl Hn1.out (by have := Hb3.out.size; simp at this; omega) ((Below.refl _ _).alloc (Nat.le_refl _) _) ⟨[], ⟨rfl, rfl⟩, by simp [Fresh]⟩ (bb := w3.heap.size) (c := 1) (by simp) rfl rfl (by simp [Hl3.out]; omega) (by simp [Hl3.out]; omega) ?_; intro v2 w4 hn2 hg2 hv2 hb4; have Hn2 := Lib.hid hn2; have Hb4 := Lib.hid hb4; clear hn2 hg2 hv2 hb4))
              have hb4 : Below w.heap.size w w4 := ((Hb2.out.alloc hle2 _).trans (Hb3.out.mono hle2)).trans (Hb4.out.mono hle2)
              have hnats : nats (ps ++ [p]) = [] ++ nats ps ++ [(p : Int)] := by simp [nats]
              refine (Ih.out (ps ++ [p]) w4 _ _ _ (by have := Hf.out; simp; omega) (by intro q hq; rcases List.mem_append.1 hq with hq | hq; exact Hq.out q hq; simp at hq; omega) (Tab.frame _ _ _ _ H1t.out hb4) (Tab.frame _ _ _ _ H2t.out hb4) (by rw [hnats]; exact New.ints Hn2.out)).mono ?_
              rintro e w5 ⟨rfl, hb5⟩
              clear hnats
              have Hb5 := Lib.hid (hb4.trans (hb5.mono hb4.size))
              clear hb4 hb5
              generalize fitM a b n f (ps ++ [p]) = fm at H3 ⊢
              cases fm with
              | true =>
                have H4 := Lib.hid (show R = true from H3.out)
                clear H3
                go_wp2
                go_ret
                exact ⟨by rw [H4.out]; rfl, Hb5.out⟩
              | false =>
                have H4 := Lib.hid (show R = anyF G g' (p + 1) from H3.out)
                clear H3
                go_wp2
                go_roundg g'
                case measure => omega
                case rel => exact ⟨p + 1, by go_num, by omega, H4, Hb5.out⟩
      · have : g = 0 := by omega
        subst this
        have H1 := Lib.hid (show R = false from H.out)
        clear H
        go_wp2
        go_ret
        exact ⟨by rw [H1.out]; rfl, hbel⟩
end Go.Proofs.YtlkgkfgpnnahdaaGreat
end
