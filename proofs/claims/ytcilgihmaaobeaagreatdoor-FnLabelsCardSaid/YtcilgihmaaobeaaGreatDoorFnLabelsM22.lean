/-
  Laws for this claim's walks, contracts of the functions that it reaches.
-/
import Derived.Test.YtcilgihmaaobeaaGreatDoorFnLabelsM19
import Derived.Test.YtcilgihmaaobeaaGreatDoorFnLabelsM21
import Derived.Test.YtcilgihmaaobeaaGreatDoorFnLabelsM20
import Derived.Laws.BytesArg
set_option linter.unusedVariables false
set_option linter.unusedSimpArgs false
section
namespace Go.Proofs.YtcilgihmaaobeaaGreatDoor
open Go.RowKit Go.Deep Go.Sd

def nxRow (xs : List Arc3) (i : Nat) : List Int := (xs.filter fun a => decide (a.1 = (i : Int))).map (·.2.1)
def nxt (p : Nat) (xs : List Arc3) : List (List Int) := (List.range p).map fun i => nxRow xs i
theorem nxt_len (p : Nat) (xs : List Arc3) : (nxt p xs).length = p := by simp [nxt]
theorem nxt_at {p i : Nat} {xs : List Arc3} (h : i < p) : (nxt p xs)[i]? = some (nxRow xs i) := by
  unfold nxt; rw [List.getElem?_map, List.getElem?_range h]; rfl
theorem nxt_nil (p : Nat) : nxt p [] = List.replicate p [] := by
  apply List.ext_getElem?
  intro i
  by_cases h : i < p
  · rw [nxt_at h, List.getElem?_replicate, if_pos h]; rfl
  · rw [List.getElem?_eq_none (by rw [nxt_len]; omega), List.getElem?_eq_none (by simp; omega)]
theorem nxRow_snoc (xs : List Arc3) (a : Arc3) (i : Nat) : nxRow (xs ++ [a]) i = if a.1 = (i : Int) then nxRow xs i ++ [a.2.1] else nxRow xs i := by
  unfold nxRow
  rw [List.filter_append, List.map_append]
  by_cases h : a.1 = (i : Int)
  · rw [if_pos h]; simp [h]
  · rw [if_neg h]; simp [h]
theorem nxt_snoc {p p0 : Nat} (xs : List Arc3) (a : Arc3) (h0 : p0 < p) (ha : a.1 = (p0 : Int)) : nxt p (xs ++ [a]) = (nxt p xs).set p0 (nxRow xs p0 ++ [a.2.1]) := by
  apply List.ext_getElem?
  intro i
  by_cases h : i < p
  · rw [nxt_at h, nxRow_snoc, ha]
    by_cases e : p0 = i
    · subst e
      rw [if_pos rfl, List.getElem?_set_self (by rw [nxt_len]; exact h)]
    · rw [if_neg (by omega), List.getElem?_set_ne e, nxt_at h]
  · rw [List.getElem?_eq_none (by rw [nxt_len]; omega), List.getElem?_eq_none (by rw [List.length_set, nxt_len]; omega)]
theorem nxRow_mem {xs : List Arc3} {i : Nat} {x : Int} : x ∈ nxRow xs i ↔ ∃ a, a ∈ xs ∧ a.1 = (i : Int) ∧ a.2.1 = x := by
  unfold nxRow
  simp only [List.mem_map, List.mem_filter, decide_eq_true_eq]
  constructor
  · rintro ⟨a, ⟨h1, h2⟩, h3⟩; exact ⟨a, h1, h2, h3⟩
  · rintro ⟨a, h1, h2, h3⟩; exact ⟨a, ⟨h1, h2⟩, h3⟩
theorem nxRow_len (xs : List Arc3) (i : Nat) : (nxRow xs i).length ≤ xs.length := by
  unfold nxRow; rw [List.length_map]; exact List.length_filter_le _ _
theorem nxt_ent {p i j : Nat} {xs : List Arc3} (h : i < p) : EntN (nxt p xs) i j ↔ ArcP xs i j := by
  unfold EntN ArcP
  rw [List.getD_eq_getElem?_getD, nxt_at h]
  simp only [Option.getD_some]
  exact nxRow_mem
theorem nxt_live (p : Nat) (xs : List Arc3) : liveL (EntN (nxt p xs)) p = liveL (ArcP xs) p :=
  liveL_congr fun i j hi _ => nxt_ent hi
theorem nxt_in {p : Nat} {xs : List Arc3} (ho : okArcs (p : Int) xs) : ∀ r, r ∈ nxt p xs → ∀ x, x ∈ r → 0 ≤ x ∧ x < (p : Int) := by
  intro r hr x hx
  obtain ⟨i, _, rfl⟩ := List.mem_map.1 hr
  obtain ⟨a, ha, _, rfl⟩ := nxRow_mem.1 hx
  have := ho a ha
  exact ⟨this.2.2.1, this.2.2.2⟩

/-! Names. -/
def nm (l : List Bool) (i : Nat) : Nat := cntT (l.take i)
theorem nm_zero (l : List Bool) : nm l 0 = 0 := by simp [nm, cntT]
theorem nm_succ {l : List Bool} {i : Nat} {b : Bool} (h : l[i]? = some b) : nm l (i + 1) = nm l i + (if b = true then 1 else 0) := by
  unfold nm cntT
  rw [List.take_add_one, h, List.countP_append]
  cases b <;> simp
theorem nm_le (l : List Bool) (i : Nat) : nm l i ≤ cntT l := by
  unfold nm cntT
  exact List.Sublist.countP_le (List.take_sublist _ _)
theorem nm_all (l : List Bool) : nm l l.length = cntT l := by unfold nm; rw [List.take_length]
/-! Arcs kept. -/
def kept (l : List Bool) (a : Arc3) : Bool := l.getD a.1.toNat false && l.getD a.2.1.toNat false
def renA (l : List Bool) (a : Arc3) : Arc3 := ((nm l a.1.toNat : Int), (nm l a.2.1.toNat : Int), a.2.2)
def trimA (l : List Bool) (xs : List Arc3) : List Arc3 := (xs.filter (kept l)).map (renA l)
theorem trimA_len (l : List Bool) (xs : List Arc3) : (trimA l xs).length ≤ xs.length := by
  unfold trimA; rw [List.length_map]; exact List.length_filter_le _ _
theorem trimA_snoc (l : List Bool) (xs : List Arc3) (a : Arc3) : trimA l (xs ++ [a]) = if kept l a = true then trimA l xs ++ [renA l a] else trimA l xs := by
  unfold trimA
  rw [List.filter_append, List.map_append]
  by_cases h : kept l a = true
  · rw [if_pos h]; simp [h]
  · rw [if_neg h]; simp [h]
noncomputable def liveO (l : Lb) : List Bool := liveL (ArcP l.2.2) l.2.1.toNat
theorem liveO_len (l : Lb) : (liveO l).length = l.2.1.toNat := liveL_len
open Classical in
noncomputable def trimOk (l : Lb) : Bool := isLab l && decide (cntT (liveO l) ≠ 0)
noncomputable def keepV (l : Lb) (b : List Bool) : Lb := (l.1, (cntT b : Int), trimA b l.2.2)
noncomputable def trimV (l : Lb) : Lb := if trimOk l = true then keepV l (liveO l) else (0, 0, [])
theorem trimV_len (l : Lb) : (trimV l).2.2.length ≤ l.2.2.length := by
  unfold trimV
  split
  · exact trimA_len _ _
  · simp
end Go.Proofs.YtcilgihmaaobeaaGreatDoor
end

section
namespace Go.Proofs.YtcilgihmaaobeaaGreatDoor
open Go.RowKit Go.Deep Go.Sd
set_option linter.unusedSimpArgs false
/-- A word as a text. -/
def wordT (wd : List Nat) : ByteArray := ⟨(wd.map fun x => UInt8.ofNat (97 + x)).toArray⟩
theorem conv_word {w : World} {src dst e : TypeId} (hs : Tryz.prog.underlying src = some (.slice e)) (he : Tryz.prog.underlying e = some (.int .u8)) (hd : Tryz.prog.underlying dst = some .string) {a : Option Addr} {n c : Nat} {wd : List Nat} (h : SlOf (ValR letV) w (.slice a n c) wd) (hw : ∀ x, x ∈ wd → x < 3) :
    (convert src dst (.slice a n c)).run Tryz.prog w = .ok (.string (wordT wd)) w := by
  obtain ⟨a', c', hv, _, _, hx⟩ := h.shape
  simp at hv
  obtain ⟨rfl, rfl, rfl⟩ := hv
  cases a with
  | none =>
    have h0 : wd = [] := by
      cases wd with
      | nil => rfl
      | cons x t => obtain ⟨b, o, h1, _⟩ := hx (by simp); cases h1
    subst h0
    exact run_convert_bytes_nil w src e hs he _ _ dst hd
  | some ad =>
    have h1 := run_convert_bytes_back (P := Tryz.prog) w src dst e ad c (wd.map fun x => UInt8.ofNat (97 + x)) hs he hd (fun j hj => by
      have hjl : j < wd.length := by simpa using hj
      obtain ⟨b, o, e1, _, hc⟩ := hx (by omega)
      cases e1
      obtain ⟨x, hxj, _⟩ := at_lt hjl
      obtain ⟨u, hu, rfl⟩ := hc j x hxj
      have e2 : (⟨b, o, none⟩ : Addr).add j = ⟨b, o + j, none⟩ := by unfold Addr.add; split <;> simp_all
      have hx3 := hw x (List.mem_of_getElem? hxj)
      have e3 : wd[j] = x := by rw [List.getElem?_eq_getElem hjl] at hxj; exact Option.some.inj hxj
      rw [e2, hu]
      simp only [List.getElem_map, e3, letV]
      have e4 : (UInt8.ofNat (97 + x)).toNat = 97 + x := by simp; omega
      rw [e4]
      rfl)
    rw [List.length_map] at h1
    exact h1
end Go.Proofs.YtcilgihmaaobeaaGreatDoor
end

section
namespace Go.Proofs.YtcilgihmaaobeaaGreatDoor
open Go.RowKit Go.Deep Go.Sd

def akey (a : Arc3) : Int := a.1 * 4 + a.2.2
def SortK (xs : List Arc3) : Prop := xs.Pairwise fun a b => akey a < akey b
def okArc (L n : Nat) (a : Arc3) : Prop := 0 ≤ a.1 ∧ a.1 < (n : Int) ∧ 0 ≤ a.2.1 ∧ a.2.1 < (n : Int) ∧ 0 ≤ a.2.2 ∧ a.2.2 < (L : Int)
section
variable (R : Nat → Nat → Bool)
end
/-! Out of the graph's own tests. -/
theorem allF_get {f : Nat → Bool} {m : Nat} (h : allF f m 0 = true) {j : Nat} (hj : j < m) : f j = true := by have := allF_at h j hj; rwa [Nat.zero_add] at this
theorem isLab_arcs {l : Lb} (h : isLab l = true) : ∀ a, a ∈ l.2.2 → okArc l.1.toNat l.2.1.toNat a := by
  have h0 := isLab_ok h
  unfold isLab at h
  rw [Bool.and_eq_true, Bool.and_eq_true] at h
  intro a ha
  obtain ⟨k, hk⟩ := List.getElem?_of_mem ha
  have h1 := allF_get h.2.2 (List.getElem?_eq_some_iff.1 hk).1
  unfold arcB at h1
  rw [Bool.and_eq_true, at3_of hk] at h1
  have h2 := h1.1
  unfold arcOk at h2
  rw [decide_eq_true_eq] at h2
  unfold okArc
  omega
end Go.Proofs.YtcilgihmaaobeaaGreatDoor
end

section
namespace Go.Proofs.YtcilgihmaaobeaaGreatDoor
open Go.RowKit Go.Deep Go.Sd
theorem stepL_bit {s : Nat} {x : Int} {j : Nat} : ∀ {xs : List Arc3} {out : Nat}, (stepL s x xs out).testBit j = true ↔ out.testBit j = true ∨ ∃ a, a ∈ xs ∧ a.2.2 = x ∧ s.testBit a.1.toNat = true ∧ a.2.1.toNat = j
  | [], out => by simp [stepL]
  | a :: ys, out => by
    unfold stepL
    rw [stepL_bit]
    have key : (if hit s x a = true then out ||| 2 ^ a.2.1.toNat else out).testBit j = true ↔ out.testBit j = true ∨ (a.2.2 = x ∧ s.testBit a.1.toNat = true ∧ a.2.1.toNat = j) := by
      unfold hit
      by_cases h : a.2.2 = x ∧ s.testBit a.1.toNat = true
      · rw [if_pos (by simp [h]), Nat.testBit_or, Bool.or_eq_true, Nat.testBit_two_pow, decide_eq_true_eq]
        simp [h]
      · rw [if_neg (by simpa using h)]
        constructor
        · exact Or.inl
        · rintro (h1 | h1)
          · exact h1
          · exact absurd ⟨h1.1, h1.2.1⟩ h
    rw [key]
    constructor
    · rintro ((h | h) | ⟨b, hb, h⟩)
      · exact Or.inl h
      · exact Or.inr ⟨a, by simp, h⟩
      · exact Or.inr ⟨b, by simp [hb], h⟩
    · rintro (h | ⟨b, hb, h⟩)
      · exact Or.inl (Or.inl h)
      · rcases List.mem_cons.1 hb with e | hb
        · subst e; exact Or.inl (Or.inr h)
        · exact Or.inr ⟨b, hb, h⟩
theorem stepN_bit {xs : List Arc3} {s : Nat} {x : Int} {j : Nat} : (stepN xs s x).testBit j = true ↔ ∃ a, a ∈ xs ∧ a.2.2 = x ∧ s.testBit a.1.toNat = true ∧ a.2.1.toNat = j := by
  unfold stepN
  rw [stepL_bit]
  simp
theorem allN_bit (S : Int) (i : Nat) : (allN S).testBit i = true ↔ i < S.toNat := by
  unfold allN
  rw [Nat.testBit_two_pow_sub_one, decide_eq_true_eq]
theorem nat_zero {s : Nat} : s = 0 ↔ ∀ i, ¬ s.testBit i = true := by
  constructor
  · rintro rfl i
    simp
  · intro h
    refine Nat.eq_of_testBit_eq fun i => ?_
    have := h i
    simp at this ⊢
    exact this
/-- A part of a set. -/
def Sub (s t : Nat) : Prop := ∀ i, s.testBit i = true → t.testBit i = true
theorem Sub.step {s t : Nat} (h : Sub s t) (xs : List Arc3) (x : Int) : Sub (stepN xs s x) (stepN xs t x) := fun i hi => by
  obtain ⟨a, ha, hx, hs, hj⟩ := stepN_bit.1 hi
  exact stepN_bit.2 ⟨a, ha, hx, h _ hs, hj⟩
theorem Sub.read {xs : List Arc3} : ∀ (w : List UInt8) {s t : Nat}, Sub s t → Sub (readB xs w s) (readB xs w t)
  | [], _, _, h => h
  | c :: w, _, _, h => Sub.read w (h.step xs _)
/-- What is reached lies among the states. -/
theorem step_all {S L : Nat} {xs : List Arc3} (ho : ∀ a, a ∈ xs → okArc L S a) (s : Nat) (x : Int) (i : Nat) (h : (stepN xs s x).testBit i = true) : i < S := by
  obtain ⟨a, ha, -, -, hj⟩ := stepN_bit.1 h
  have := ho a ha
  unfold okArc at this
  omega
theorem readB_append (xs : List Arc3) : ∀ (u w : List UInt8) (s : Nat), readB xs (u ++ w) s = readB xs w (readB xs u s)
  | [], _, _ => rfl
  | _ :: u, w, _ => readB_append xs u w _
/-! Graphs made of sorted arcs. -/
theorem akey_lt {L S : Nat} (hL : L ≤ 4) {a b : Arc3} (ha : okArc L S a) (hb : okArc L S b) : akey a < akey b ↔ a.1 < b.1 ∨ (a.1 = b.1 ∧ a.2.2 < b.2.2) := by
  unfold okArc at ha hb
  unfold akey
  omega
theorem resolv_of {l : Lb} (h1 : 1 ≤ l.1 ∧ l.1 ≤ 3) (h2 : 1 ≤ l.2.1 ∧ l.2.1 ≤ 12) (ho : ∀ a, a ∈ l.2.2 → okArc l.1.toNat l.2.1.toNat a) (hs : SortK l.2.2) : resolvM l = true := by
  have allOf : ∀ {f : Nat → Bool} {m k : Nat}, (∀ j, j < m → f (k + j) = true) → allF f m k = true := by
    intro f m
    induction m with
    | zero => intro k _; rfl
    | succ m ih =>
      intro k h
      show (if f k = true then allF f m (k + 1) else false) = true
      rw [if_pos (by simpa using h 0 (by omega))]
      exact ih fun j hj => by rw [show k + 1 + j = k + (j + 1) by omega]; exact h (j + 1) (by omega)
  have hlt : ∀ k, k + 1 < l.2.2.length → akey (at3 l.2.2 k) < akey (at3 l.2.2 (k + 1)) ∧ okArc l.1.toNat l.2.1.toNat (at3 l.2.2 k) := fun k hk => by
    unfold SortK at hs
    have := List.pairwise_iff_getElem.1 hs k (k + 1) (by omega) hk (by omega)
    rw [at3_of (List.getElem?_eq_getElem (show k < l.2.2.length by omega)), at3_of (List.getElem?_eq_getElem hk)]
    exact ⟨this, ho _ (List.getElem_mem _)⟩
  have hat : ∀ k, k < l.2.2.length → okArc l.1.toNat l.2.1.toNat (at3 l.2.2 k) := fun k hk => by
    rw [at3_of (List.getElem?_eq_getElem hk)]
    exact ho _ (List.getElem_mem _)
  unfold resolvM isLab
  rw [Bool.and_eq_true, Bool.and_eq_true, Bool.and_eq_true]
  refine ⟨⟨decide_eq_true h1, decide_eq_true h2, allOf fun j hj => ?_⟩, allOf fun j hj => ?_⟩
  · rw [Nat.zero_add]
    unfold arcB arcOk
    have h3 := hat j hj
    rw [Bool.and_eq_true]
    refine ⟨decide_eq_true ?_, ?_⟩
    · unfold okArc at h3; omega
    · cases j with
      | zero => simp
      | succ j =>
        rw [Nat.add_sub_cancel]
        obtain ⟨h4, h5⟩ := hlt j hj
        have h6 := (akey_lt (by omega) h5 h3).1 h4
        unfold before
        rw [Bool.or_eq_true]
        right
        by_cases e : (at3 l.2.2 j).1 = (at3 l.2.2 (j + 1)).1
        · rw [if_neg (by simp [e])]
          rw [if_pos (by omega)]
          exact decide_eq_true (by omega)
        · rw [if_pos e]
          exact decide_eq_true (by omega)
  · rw [Nat.zero_add]
    unfold resB
    cases j with
    | zero => simp
    | succ j =>
      rw [Nat.add_sub_cancel]
      obtain ⟨h4, h5⟩ := hlt j hj
      have h6 := (akey_lt (by omega) h5 (hat _ hj)).1 h4
      rw [Bool.or_eq_true]
      right
      rw [Bool.not_eq_true', Bool.and_eq_false_iff, decide_eq_false_iff_not, decide_eq_false_iff_not]
      by_cases e : (at3 l.2.2 j).1 = (at3 l.2.2 (j + 1)).1
      · exact Or.inr (by omega)
      · exact Or.inl e
end Go.Proofs.YtcilgihmaaobeaaGreatDoor
end

section
namespace Go.Sd
open Go.RowKit Go.Deep
theorem OInts.nil0 {e : TypeId} : ∀ w : World, OInts e w (.slice none 0 0) [] [] := fun _ => ⟨[], [], World.ownsRow_nil _ _ _ _, rfl, by simp, by simp [Value.ownBlock]⟩
/-- The same where a block has been laid since: it stays. -/
theorem New.row_push0A {P : Program} {eI eR : TypeId} {lo : Nat} {w0 w : World} {v : Value} {m : List (List Int)} (h : New (OTab eI eR) lo w0 v m) (hb0 : Below w0.heap.size w0 w) {i : Nat} {r : List Int} (hr : m[i]? = some r)
    (t ty : TypeId) (z : Value) (bytes : Nat) (ht : P.underlying t = some (.slice eI)) (hinfo : (P.info? eI).map (fun i => (i.zero, i.size, i.bytes)) = some (some z, 1, bytes)) (hz1 : z.cells = #[z])
    (hbytes : (r.length + 1) * bytes ≤ 140737488355328) (h63 : r.length + 1 ≤ 9223372036854775807) :
    ∃ b c ra rc, v = .slice (some ⟨b, 0, none⟩) m.length c ∧ m.length ≤ c ∧ lo ≤ b ∧ b < w.heap.size ∧ w.cell? ⟨b, i, none⟩ = some (.slice ra r.length rc) ∧
      ∀ (w1 : World) (bb c1 : Nat) (y : Int), Below w.heap.size w w1 → w1.cell? ⟨bb, 0, none⟩ = some (.int .i64 y) →
        ∃ a' n' c' w2, (Builtin.append_ #[t, t] ty #[.slice ra r.length rc, .slice (some ⟨bb, 0, none⟩) 1 c1]).run P w1 = .ok (.slice a' n' c') w2 ∧
          w2.cell? ⟨b, i, none⟩ = some (.slice ra r.length rc) ∧ w2.frozen? ⟨b, i, none⟩ = false ∧ Below lo w (w2.setCell ⟨b, i, none⟩ (.slice a' n' c')) ∧
          New (OTab eI eR) lo (w2.setCell ⟨b, i, none⟩ (.slice a' n' c')) v (m.set i (r ++ [y])) ∧ (∀ (o : Nat) u, w.cell? ⟨w0.heap.size, o, none⟩ = some u → w2.cell? ⟨w0.heap.size, o, none⟩ = some u) := by
  obtain ⟨F, hF, hn, hge⟩ := h
  have hlt := (OTab.kept eI eR).lt _ _ _ _ hF
  obtain ⟨b, c, u, G, hv, hc, hbF, hbG, hcell, hfr, hu, hGF, hGn, _, hst⟩ := hF.focus (OInts.kept eI) hn hr
  obtain ⟨ra, rc, rfl, _⟩ := (OInts.reads hu).shape
  have hlob := hge b hbF
  have hltb := hlt b hbF
  have hz0 := hb0.size
  refine ⟨b, c, ra, rc, hv, hc, hlob, Nat.lt_of_lt_of_le hltb hz0, (hb0.cell (p := ⟨b, i, none⟩) hltb).trans hcell, fun w1 bb c1 y hb hy => ?_⟩
  have hbw := hb0.trans (hb.mono hz0)
  have hz := hb.size
  have hu1 : OInts eI w1 _ r G := (OInts.kept eI).keep _ _ _ _ _ hu fun q hq => hbw.block q (hlt q (hGF q hq))
  obtain ⟨v', w2, G', hrun, hG', hn', hs, hg, hvG⟩ := push_run OIntR.kept t ty eI z bytes ht hinfo hz1 hu1 hGn (y := y) (G := []) ⟨rfl, rfl⟩ (by simp) (by simp) (c := c1) hy hbytes h63
  obtain ⟨a', c', hv', _⟩ := (OInts.reads hG').shape
  subst hv'
  have hoff : ∀ q, q ∈ F → q ∉ G → w2.heap[q]? = w0.heap[q]? := fun q hq hqG => (hg.block q (by have := hlt q hq; omega) fun e => hqG (hvG q e.symm)).trans (hbw.block q (hlt q hq))
  have hbb := hoff b hbF hbG
  have hbG' : b ∉ G' := fun hm => by
    rcases hs b hm with h1 | h1 | h1
    · exact hbG h1
    · simp at h1
    · omega
  obtain ⟨F', hF', hsub, hnd, _⟩ := hst w2 _ (r ++ [y]) G' hG' hbG' hoff
  have hbl : Below lo w w2 := (hb.mono (by omega)).grown hg (by omega) fun k hk => hge k (hGF k (hvG k hk))
  refine ⟨a', _, c', w2, hrun, ?_, ?_, hbl.setCell (p := ⟨b, i, none⟩) hlob _, ⟨F', hF', hnd hn' (fun q hq hqF => ?_), fun q hq => (hsub q hq).elim (hge q) fun hm => ?_⟩, fun o u hu0 => ?_⟩
  · rw [← hcell]
    simp only [World.cell?, hbb]
  · rw [← hfr]
    simp only [World.frozen?, hbb]
  · rcases hs q hq with h1 | h1 | h1
    · exact h1
    · simp at h1
    · have := hlt q hqF; omega
  · rcases hs q hm with h1 | h1 | h1
    · exact hge q (hGF q h1)
    · simp at h1
    · omega
  · have hl : w0.heap.size < w.heap.size := World.block_lt_of_cell? w ⟨w0.heap.size, o, none⟩ hu0
    have h1 := (hg.block w0.heap.size (by omega) fun e => by have := hlt _ (hGF _ (hvG _ e.symm)); omega).trans (hb.block w0.heap.size hl)
    rw [← hu0]
    simp only [World.cell?, h1]
/-- 'append(v, y)' where y has sz plain cells, as a run of the builtin. -/
theorem New.rowRun {P : Program} {α : Type} {e : TypeId} {sz : Nat} {f : α → List Value} (L : Lay sz f) (t ty : TypeId)
    (z : Value) (bytes : Nat) (ht : P.underlying t = some (.slice e)) (hinfo : (P.info? e).map (fun i => (i.zero, i.size, i.bytes)) = some (some z, sz, bytes)) (hz1 : z.cells.size = sz)
    {lo : Nat} {w : World} {v : Value} {xs : List α} (h0 : New (RowG e sz f) lo w v xs) (hlo : lo ≤ w.heap.size) (y : α) {bb : Nat} (c : Nat) (hcell : ∀ j u, (f y)[j]? = some u → w.cell? ⟨bb, j, none⟩ = some u)
    (hbytes : (xs.length + 1) * bytes ≤ 140737488355328) (h63 : xs.length + 1 ≤ 9223372036854775807) :
    ∃ a' n' c' w', (Builtin.append_ #[t, t] ty #[v, .slice (some ⟨bb, 0, none⟩) 1 c]).run P w = .ok (.slice a' n' c') w' ∧ New (RowG e sz f) lo w' (.slice a' n' c') (xs ++ [y]) ∧ Below lo w w' ∧ (∀ b, b < w.heap.size → b ∉ v.ownBlock.toList → w'.heap[b]? = w.heap[b]?) := by
  obtain ⟨i, hi, hzz⟩ := Option.map_eq_some_iff.1 hinfo
  simp only [Prod.mk.injEq] at hzz
  obtain ⟨hz, hsz, hby⟩ := hzz
  obtain ⟨F, ⟨how, rfl⟩, hnd, hge⟩ := h0
  have hvlt : ∀ k, v.ownBlock = some k → lo ≤ k ∧ k < w.heap.size := fun k hk => ⟨hge k (by simp [hk]), (how.lt k hk).2⟩
  obtain ⟨v', w', hrun, how', hg, _, hat⟩ := run_append_own_at (P := P) w 0 t ty e i z sz bytes ht hi hz hsz hby hz1 L.pos v xs.length (xs.flatMap f) how ⟨bb, 0, none⟩ 1 c (f y) (by rw [L.len]; omega)
    (by
      intro j u' hj
      have e : (⟨bb, 0, none⟩ : Addr).add j = ⟨bb, j, none⟩ := by unfold Addr.add; split <;> simp_all
      rw [e]
      exact hcell j u' hj)
    (fun u hu => L.one y u hu) h63 hbytes (Nat.zero_le _)
  have hR : RowG e sz f w' v' (xs ++ [y]) v'.ownBlock.toList := ⟨by simpa [List.flatMap_append] using how', rfl⟩
  obtain ⟨a', c', rfl⟩ := hR.slice
  refine ⟨a', _, c', w', hrun, ⟨_, hR, by cases (Value.slice a' (xs ++ [y]).length c').ownBlock <;> simp, ?_⟩, Below.of_grown hg hlo (fun k hk => (hvlt k hk).1), fun b hb hn => hg.block b hb (fun e => hn (by rw [← e]; simp))⟩
  intro b hb
  have hb2 : (Value.slice a' (xs ++ [y]).length c').ownBlock = some b := by simpa using hb
  rcases hat with hat | hat
  · rw [hat] at hb2; exact (hvlt b hb2).1
  · rw [hat] at hb2; simp at hb2; omega
theorem New.storeLow {α : Type} {R : OwnRel α} (hR : Held R) {lo : Nat} {w : World} {v : Value} {x : α} (h : New R lo w v x) {p : Addr} (hp : p.block < lo) (u : Value) : New R lo (w.setCell p u) v x := by
  obtain ⟨F, hF, hn, hge⟩ := h
  exact ⟨F, hR.keep _ _ _ _ _ hF fun b hb => Below.heap_setCell _ _ _ _ (fun e => by have := hge b hb; omega), hn, hge⟩
theorem CellsI.other {w : World} {B m : Nat} {f : Nat → Int} (h : CellsI w B m f) {p : Addr} (hp : p.block ≠ B) (u : Value) : CellsI (w.setCell p u) B m f := fun j hj =>
  ⟨(World.cell?_setCell_other _ _ _ _ (by intro e; exact hp (by rw [e]))).trans (h j hj).1, (World.frozen?_setCell _ _ _ _).trans (h j hj).2⟩
/-- An own slice of bools by its cells. -/
theorem New.bl {e : TypeId} {lo : Nat} {w : World} {v : Value} {l : List Bool} (h : New (OwnOf e (OValR Value.bool)) lo w v l) (h0 : 0 < l.length) : ∃ b c, v = .slice (some ⟨b, 0, none⟩) l.length c ∧ l.length ≤ c ∧ lo ≤ b ∧ Bl w b l := by
  obtain ⟨b, c, hv, hc, hlo, hlt, _, _, _⟩ := h.val_at (fun _ => rfl) (List.getElem?_eq_getElem h0)
  refine ⟨b, c, hv, hc, hlo, hlt, fun i x hx => ?_⟩
  obtain ⟨b', c', hv', _, _, _, hcl, hfr, _⟩ := h.val_at (fun _ => rfl) hx
  have e : b' = b := by rw [hv] at hv'; simp at hv'; exact hv'.1.symm
  rw [e] at hcl hfr
  exact ⟨hcl, hfr⟩
/-- An own slice of numbers by its cells. -/
theorem New.cellsI {e : TypeId} {lo : Nat} {w : World} {v : Value} {xs : List Int} (h : New (OInts e) lo w v xs) (h0 : 0 < xs.length) : ∃ b c, v = .slice (some ⟨b, 0, none⟩) xs.length c ∧ xs.length ≤ c ∧ lo ≤ b ∧ b < w.heap.size ∧ CellsI w b xs.length (fun i => xs.getD i 0) := by
  obtain ⟨b, c, hv, hc, hlo, hlt, _, _, _⟩ := h.int_at (List.getElem?_eq_getElem h0)
  refine ⟨b, c, hv, hc, hlo, hlt, fun i hi => ?_⟩
  obtain ⟨b', c', hv', _, _, _, hcl, hfr, _⟩ := h.int_at (List.getElem?_eq_getElem hi)
  have e : b' = b := by rw [hv] at hv'; simp at hv'; exact hv'.1.symm
  rw [e] at hcl hfr
  refine ⟨?_, hfr⟩
  show _ = some (Value.int .i64 (xs.getD i 0))
  rw [hcl]
  simp [List.getD, List.getElem?_eq_getElem hi]
end Go.Sd
namespace Go.Proofs.YtcilgihmaaobeaaGreatDoor
open Go.RowKit Go.Deep Go.Sd
def lkey (a : Arc3) : Int := a.1 * 64 + a.2.2 * 16 + a.2.1
/-- A valid graph has few arcs. -/
theorem isLab_len {l : Lb} (h : isLab l = true) : l.2.2.length ≤ 768 := by
  have ho := isLab_arcs h
  have hb := isLab_ok h
  unfold isLab at h
  rw [Bool.and_eq_true, Bool.and_eq_true] at h
  have hL : l.1.toNat ≤ 3 := by omega
  have hS : l.2.1.toNat ≤ 12 := by omega
  have step : ∀ k a b, l.2.2[k]? = some a → l.2.2[k + 1]? = some b → lkey a < lkey b := by
    intro k a b ha hb
    have e1 := allF_get h.2.2 (List.getElem?_eq_some_iff.1 hb).1
    unfold arcB at e1
    rw [Nat.add_sub_cancel, at3_of ha, at3_of hb] at e1
    simp only [Bool.and_eq_true, Bool.or_eq_true, decide_eq_true_eq, Nat.add_one_ne_zero, false_or] at e1
    have hb1 := e1.2
    unfold before at hb1
    have o1 := ho a (List.mem_of_getElem? ha)
    have o2 := ho b (List.mem_of_getElem? hb)
    unfold okArc at o1 o2
    unfold lkey
    by_cases c1 : a.1 = b.1
    · rw [if_neg (by simp [c1])] at hb1
      by_cases c2 : a.2.2 = b.2.2
      · rw [if_neg (by simp [c2]), decide_eq_true_eq] at hb1; omega
      · rw [if_pos c2, decide_eq_true_eq] at hb1; omega
    · rw [if_pos c1, decide_eq_true_eq] at hb1; omega
  have key : ∀ (k : Nat) (a : Arc3), l.2.2[k]? = some a → (k : Int) ≤ lkey a := by
    intro k
    induction k with
    | zero =>
      intro a ha
      have o1 := ho a (List.mem_of_getElem? ha)
      unfold okArc at o1
      unfold lkey
      omega
    | succ k ih =>
      intro a ha
      have hk := (List.getElem?_eq_some_iff.1 ha).1
      have h1 := ih _ (List.getElem?_eq_getElem (show k < l.2.2.length by omega))
      have h2 := step k _ a (List.getElem?_eq_getElem (show k < l.2.2.length by omega)) ha
      omega
  by_cases h0 : l.2.2.length = 0
  · omega
  · have hk : l.2.2.length - 1 < l.2.2.length := by omega
    have h1 := key (l.2.2.length - 1) _ (List.getElem?_eq_getElem hk)
    have o1 := ho _ (List.getElem_mem hk)
    unfold okArc at o1
    unfold lkey at h1
    omega
end Go.Proofs.YtcilgihmaaobeaaGreatDoor
end

section
namespace Go.Proofs.YtcilgihmaaobeaaGreatDoor
open Go.RowKit Go.Deep Go.Sd
set_option linter.unusedSimpArgs false
def txt : Option (List Nat) → ByteArray
  | none => ⟨#[]⟩
  | some wd => wordT wd
abbrev Res.strs (e : TypeId) (v : Value) (xs : List ByteArray) : Res := Res.of (OwnOf e (OValR Value.string)) (OwnOf.kept (⟨fun _ _ _ _ _ h _ => h, fun _ _ _ _ h b hb => by rw [h.2] at hb; simp at hb, fun _ _ _ _ h => by rw [h.1]; rfl⟩ : Kept (OValR Value.string))).held v xs
theorem OStr.kept : Kept (OValR Value.string) := ⟨fun _ _ _ _ _ h _ => h, fun _ _ _ _ h b hb => by rw [h.2] at hb; simp at hb, fun _ _ _ _ h => by rw [h.1]; rfl⟩
theorem _root_.Go.Sd.Sep.strsAt {lo : Nat} {w : World} {e : TypeId} {v : Value} {xs : List ByteArray} {rs : List Res} (h : Sep lo w (Res.strs e v xs :: rs)) : ∃ a c, v = .slice a xs.length c ∧ (0 < xs.length → ∃ b, a = some ⟨b, 0, none⟩ ∧ b < w.heap.size ∧ ∀ i x, xs[i]? = some x → w.cell? ⟨b, i, none⟩ = some (.string x)) := by
  obtain ⟨G, hG, hf, _⟩ := h.head
  have hG' : OwnOf e (OValR Value.string) w v xs G := hG
  have hrd : SlOf (ValR Value.string) w v xs := OwnOf.reads (fun _ _ _ _ h => h.1) hG'
  obtain ⟨a, c, rfl, _, _, h1⟩ := hrd.shape
  refine ⟨a, c, rfl, fun h0 => ?_⟩
  obtain ⟨b, o, rfl, hb, hx⟩ := h1 h0
  obtain ⟨x0, hx0, _⟩ := at_lt h0
  obtain ⟨b', c', u, G2, hv, _⟩ := hG'.focus OStr.kept hf.1 hx0
  have e1 : b = b' ∧ o = 0 := by simp at hv; exact ⟨hv.1.1, hv.1.2⟩
  obtain ⟨rfl, rfl⟩ := e1
  refine ⟨b, rfl, hb, fun i x hi => ?_⟩
  obtain ⟨u, hu, rfl⟩ := hx i x hi
  simpa using hu
theorem infoStr : (Tryz.prog.info? 9).map (fun i => (i.zero, i.size, i.bytes)) = some (some (.string ⟨#[]⟩), 1, 16) := by kernel_rfl
theorem wordT_snoc (wd : List Nat) (x : Nat) : wordT wd ++ wordT [x] = wordT (wd ++ [x]) := by
  apply ByteArray.ext
  simp [wordT, ByteArray.data_append]
theorem abc_slice {x : Nat} (h : x < 3) (w : World) : (Instr.slice 9 (.string ⟨#[97, 98, 99]⟩) (some (.int .i64 (x : Int))) (some (.int .i64 ((x : Int) + 1))) none).run Tryz.prog w = .ok (.string (wordT [x])) w := by
  obtain rfl | rfl | rfl : x = 0 ∨ x = 1 ∨ x = 2 := by omega
  · exact show (Instr.slice 9 (.string ⟨#[97, 98, 99]⟩) (some (.int .i64 0)) (some (.int .i64 1)) none).run Tryz.prog w = .ok (.string ⟨#[97]⟩) w by kernel_rfl
  · exact show (Instr.slice 9 (.string ⟨#[97, 98, 99]⟩) (some (.int .i64 1)) (some (.int .i64 2)) none).run Tryz.prog w = .ok (.string ⟨#[98]⟩) w by kernel_rfl
  · exact show (Instr.slice 9 (.string ⟨#[97, 98, 99]⟩) (some (.int .i64 2)) (some (.int .i64 3)) none).run Tryz.prog w = .ok (.string ⟨#[99]⟩) w by kernel_rfl
end Go.Proofs.YtcilgihmaaobeaaGreatDoor
end

section
namespace Go.Proofs.YtcilgihmaaobeaaGreatDoor
open Go.RowKit Go.Deep Go.Sd
def wordD (L : Nat) : Nat → Nat → List Nat
  | 0, _ => []
  | n + 1, i => wordD L n (i / L) ++ [i % L]
def allW (L : Nat) : Nat → List (List Nat)
  | 0 => [[]]
  | n + 1 => (allW L n).flatMap fun w => (List.range L).map fun x => w ++ [x]
theorem range_mul (b : Nat) : ∀ a : Nat, List.range (a * b) = (List.range a).flatMap fun j => (List.range b).map fun x => j * b + x
  | 0 => by simp
  | a + 1 => by
    rw [Nat.add_mul, Nat.one_mul, List.range_add, range_mul b a, List.range_succ, List.flatMap_append]
    simp
theorem allW_eq {L : Nat} (hL : 0 < L) : ∀ n : Nat, allW L n = (List.range (L ^ n)).map (wordD L n)
  | 0 => by simp [allW, wordD]
  | n + 1 => by
    unfold allW
    rw [allW_eq hL n, Nat.pow_succ, range_mul, List.map_flatMap, List.flatMap_map]
    congr 1
    funext j
    rw [List.map_map]
    apply List.map_congr_left
    intro x hx
    have hx' : x < L := List.mem_range.1 hx
    simp only [Function.comp, wordD]
    rw [Nat.mul_comm j L, Nat.mul_add_div hL, Nat.mul_add_mod, Nat.div_eq_of_lt hx', Nat.mod_eq_of_lt hx', Nat.add_zero]
theorem allW_len {L : Nat} (hL : 0 < L) (n : Nat) : (allW L n).length = L ^ n := by rw [allW_eq hL]; simp
theorem wordD_len (L : Nat) : ∀ n i : Nat, (wordD L n i).length = n
  | 0, _ => rfl
  | n + 1, i => by simp [wordD, wordD_len L n]
theorem wordD_lt {L : Nat} (hL : 0 < L) : ∀ (n i x : Nat), x ∈ wordD L n i → x < L
  | 0, _, _, h => by cases h
  | n + 1, i, x, h => by
    rcases List.mem_append.1 h with h | h
    · exact wordD_lt hL n _ x h
    · simp at h; subst h; exact Nat.mod_lt _ hL
theorem allW_mem {L : Nat} (hL : 0 < L) {n : Nat} {w : List Nat} (h : w ∈ allW L n) : w.length = n ∧ ∀ x, x ∈ w → x < L := by
  rw [allW_eq hL] at h
  obtain ⟨i, _, rfl⟩ := List.mem_map.1 h
  exact ⟨wordD_len L n i, wordD_lt hL n i⟩
theorem wordT_size (w : List Nat) : (wordT w).size = w.length := by simp [wordT, ByteArray.size]
theorem pow_le {L n : Nat} (hL : L ≤ 3) (hn : n ≤ 6) : L ^ n ≤ 729 :=
  Nat.le_trans (Nat.pow_le_pow_left hL n) (Nat.pow_le_pow_right (by decide) hn)
end Go.Proofs.YtcilgihmaaobeaaGreatDoor
end
