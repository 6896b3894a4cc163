/-
  Laws for this claim's walks, contracts of the functions that it reaches.
-/
import Derived.Test.YtcilgihmaaobeaaGreatDoorFnLabelsM23
import Derived.Laws.StructEq
set_option linter.unusedVariables false
set_option linter.unusedSimpArgs false
section
namespace Go.Proofs.YtcilgihmaaobeaaGreatDoor
open Go.RowKit Go.Deep Go.Sd
/-! Valid graphs. -/
def bkey (a : Arc3) : Int := a.1 * 64 + a.2.2 * 16 + a.2.1
def SortB (xs : List Arc3) : Prop := xs.Pairwise fun a b => bkey a < bkey b
theorem bkey_before {L S : Nat} (hL : L ≤ 3) (hS : S ≤ 12) {a b : Arc3} (ha : okArc L S a) (hb : okArc L S b) : before a b = true ↔ bkey a < bkey b := by
  unfold okArc at ha hb
  unfold before bkey
  by_cases e : a.1 = b.1
  · rw [if_neg (by simp [e])]
    by_cases e2 : a.2.2 = b.2.2
    · rw [if_neg (by simp [e2]), decide_eq_true_eq]; omega
    · rw [if_pos e2, decide_eq_true_eq]; omega
  · rw [if_pos e, decide_eq_true_eq]; omega
theorem isLab_of {l : Lb} (h1 : 1 ≤ l.1 ∧ l.1 ≤ 3) (h2 : 1 ≤ l.2.1 ∧ l.2.1 ≤ 12) (ho : ∀ a, a ∈ l.2.2 → okArc l.1.toNat l.2.1.toNat a) (hs : SortB l.2.2) : isLab l = true := by
  unfold isLab
  rw [Bool.and_eq_true, Bool.and_eq_true]
  refine ⟨decide_eq_true h1, decide_eq_true h2, allF_of fun j hj => ?_⟩
  rw [Nat.zero_add]
  unfold arcB arcOk
  have hat : ∀ k, k < l.2.2.length → okArc l.1.toNat l.2.1.toNat (at3 l.2.2 k) := fun k hk => by
    rw [at3_of (List.getElem?_eq_getElem hk)]
    exact ho _ (List.getElem_mem _)
  have h3 := hat j hj
  rw [Bool.and_eq_true]
  refine ⟨decide_eq_true (by unfold okArc at h3; omega), ?_⟩
  cases j with
  | zero => simp
  | succ j =>
    rw [Nat.add_sub_cancel, Bool.or_eq_true]
    right
    rw [bkey_before (by omega) (by omega) (hat j (by omega)) h3, at3_of (List.getElem?_eq_getElem (show j < l.2.2.length by omega)), at3_of (List.getElem?_eq_getElem hj)]
    exact List.pairwise_iff_getElem.1 hs j (j + 1) (by omega) hj (by omega)
theorem isLab_sort {l : Lb} (h : isLab l = true) : SortB l.2.2 := by
  have ho := isLab_arcs h
  have h0 := isLab_ok h
  unfold isLab at h
  rw [Bool.and_eq_true, Bool.and_eq_true] at h
  have step : ∀ k (hk : k + 1 < l.2.2.length), bkey l.2.2[k] < bkey l.2.2[k + 1] := by
    intro k hk
    have h1 := allF_at h.2.2 (k + 1) hk
    rw [Nat.zero_add] at h1
    unfold arcB at h1
    rw [Nat.add_sub_cancel, at3_of (List.getElem?_eq_getElem hk), at3_of (List.getElem?_eq_getElem (show k < l.2.2.length by omega)), Bool.and_eq_true, Bool.or_eq_true] at h1
    rcases h1.2 with h2 | h2
    · simp at h2
    · exact (bkey_before (by omega) (by omega) (ho _ (List.getElem_mem _)) (ho _ (List.getElem_mem _))).1 h2
  unfold SortB
  rw [List.pairwise_iff_getElem]
  have key : ∀ d i (hi : i < l.2.2.length) (hj : i + (d + 1) < l.2.2.length), bkey l.2.2[i] < bkey l.2.2[i + (d + 1)] := by
    intro d
    induction d with
    | zero => intro i hi hj; exact step i hj
    | succ d ih =>
      intro i hi hj
      have h2 := ih i hi (by omega)
      have h3 := step (i + (d + 1)) hj
      exact Int.lt_trans h2 h3
  intro i j hi hj hij
  obtain ⟨d, rfl⟩ : ∃ d, j = i + (d + 1) := ⟨j - i - 1, by omega⟩
  exact key d i hi hj
/-! Names of the places that are kept. -/
theorem nm_mono (b : List Bool) {i j : Nat} (h : i ≤ j) : nm b i ≤ nm b j := by
  unfold nm cntT
  exact List.Sublist.countP_le (List.take_sublist_take_left h)
theorem on_getD {b : List Bool} {i : Nat} : b.getD i false = true ↔ On b i := by
  unfold On
  cases h : b[i]? with
  | none => simp [List.getD, h]
  | some x => simp [List.getD, h]
theorem nm_lt2 {b : List Bool} {i j : Nat} (h : On b i) (hij : i < j) : nm b i < nm b j := by
  have h1 := nm_succ h
  have h2 := nm_mono b (show i + 1 ≤ j from hij)
  simp at h1
  omega
theorem nm_inj {b : List Bool} {i j : Nat} (hi : On b i) (hj : On b j) (h : nm b i = nm b j) : i = j := by
  rcases Nat.lt_trichotomy i j with h1 | h1 | h1
  · have := nm_lt2 hi h1; omega
  · exact h1
  · have := nm_lt2 hj h1; omega
theorem nm_surj {b : List Bool} : ∀ {k j : Nat}, k ≤ b.length → j < nm b k → ∃ i, On b i ∧ nm b i = j
  | 0, j, _, h => by rw [nm_zero] at h; omega
  | k + 1, j, hk, h => by
    have h1 := nm_succ (List.getElem?_eq_getElem (show k < b.length by omega))
    by_cases h2 : j < nm b k
    · exact nm_surj (by omega) h2
    · by_cases hb : b[k] = true
      · rw [if_pos hb] at h1
        exact ⟨k, by unfold On; rw [List.getElem?_eq_getElem (show k < b.length by omega), hb], by omega⟩
      · rw [if_neg hb] at h1
        omega
theorem trimA_mem {b : List Bool} {xs : List Arc3} {c : Arc3} : c ∈ trimA b xs ↔ ∃ a, a ∈ xs ∧ On b a.1.toNat ∧ On b a.2.1.toNat ∧ c = renA b a := by
  unfold trimA
  rw [List.mem_map]
  constructor
  · rintro ⟨a, ha, rfl⟩
    obtain ⟨h1, h2⟩ := List.mem_filter.1 ha
    unfold kept at h2
    rw [Bool.and_eq_true, on_getD, on_getD] at h2
    exact ⟨a, h1, h2.1, h2.2, rfl⟩
  · rintro ⟨a, ha, h1, h2, rfl⟩
    refine ⟨a, List.mem_filter.2 ⟨ha, ?_⟩, rfl⟩
    unfold kept
    rw [Bool.and_eq_true, on_getD, on_getD]
    exact ⟨h1, h2⟩
section
variable {l : Lb}
theorem trim_eq (h : trimOk l = true) : trimV l = (l.1, (cntT (liveO l) : Int), trimA (liveO l) l.2.2) := by unfold trimV keepV; rw [if_pos h]
theorem trim_isLab (h : trimOk l = true) : isLab l = true := by
  unfold trimOk at h
  rw [Bool.and_eq_true] at h
  exact h.1
theorem trim_lab (h : trimOk l = true) : isLab (trimV l) = true := by
  have hl := trim_isLab h
  have ho := isLab_arcs hl
  have hs := isLab_sort hl
  obtain ⟨-, k1, k2, k3, k4, -, -⟩ := trim_ok h
  have h0 := isLab_ok hl
  have hc : cntT (liveO l) ≤ 12 := by
    have h3 : cntT (liveO l) ≤ (liveO l).length := cntT_le
    rw [liveO_len] at h3
    omega
  refine isLab_of ⟨k3, k4⟩ ⟨k1, k2⟩ ?_ ?_
  · rw [trim_eq h]
    intro a ha
    obtain ⟨c, hc, h1, h2, rfl⟩ := trimA_mem.1 ha
    have q1 := nm_lt (on_getD.2 h1)
    have q2 := nm_lt (on_getD.2 h2)
    have oc := ho c hc
    unfold okArc at oc ⊢
    simp only [renA, Int.toNat_natCast]
    omega
  · rw [trim_eq h]
    unfold SortB trimA
    rw [List.pairwise_map]
    refine List.Pairwise.imp_of_mem (fun {a b} ha hb hab => ?_) (hs.filter _)
    obtain ⟨ha1, ha2⟩ := List.mem_filter.1 ha
    obtain ⟨hb1, hb2⟩ := List.mem_filter.1 hb
    unfold kept at ha2 hb2
    rw [Bool.and_eq_true, on_getD, on_getD] at ha2 hb2
    have oa := ho a ha1
    have ob := ho b hb1
    have ma := nm_le (liveO l) a.2.1.toNat
    have mb := nm_le (liveO l) b.2.1.toNat
    have e := (bkey_before (by omega) (by omega) oa ob).2 hab
    unfold before at e
    unfold okArc at oa ob
    simp only [bkey, renA]
    by_cases e1 : a.1 = b.1
    · rw [if_neg (by simp [e1])] at e
      rw [e1]
      by_cases e2 : a.2.2 = b.2.2
      · rw [if_neg (by simp [e2]), decide_eq_true_eq] at e
        have := nm_lt2 (j := b.2.1.toNat) ha2.2 (by omega)
        omega
      · rw [if_pos e2, decide_eq_true_eq] at e
        omega
    · rw [if_pos e1, decide_eq_true_eq] at e
      have := nm_lt2 (j := b.1.toNat) ha2.1 (by omega)
      omega
/-- What the trimmed graph reads, the graph reads. -/
theorem trim_reads (h : trimOk l = true) (wd : List Nat) : Lets l.1.toNat wd → ∀ j, (readB (trimV l).2.2 (bl wd) (allN (trimV l).2.1)).testBit j = true → ∃ i, On (liveO l) i ∧ nm (liveO l) i = j ∧ (readB l.2.2 (bl wd) (allN l.2.1)).testBit i = true := by
  have h0 := isLab_ok (trim_isLab h)
  rw [trim_eq h]
  simp only
  induction wd using snoc_rec with
  | h0 =>
    intro _ j hj
    have hj2 : (allN (cntT (liveO l) : Int)).testBit j = true := hj
    rw [allN_bit, Int.toNat_natCast, ← nm_all] at hj2
    obtain ⟨i, hi, e⟩ := nm_surj (Nat.le_refl _) hj2
    refine ⟨i, hi, e, ?_⟩
    show (allN l.2.1).testBit i = true
    rw [allN_bit, ← liveO_len]
    exact hi.lt
  | h1 u x ih =>
    intro hl j hj
    have hx := hl.last
    rw [bl_snoc (by omega)] at hj
    obtain ⟨c, hc, h1, h2, h3⟩ := stepN_bit.1 hj
    obtain ⟨a, ha, a1, a2, rfl⟩ := trimA_mem.1 hc
    simp only [renA, Int.toNat_natCast] at h1 h2 h3
    obtain ⟨i, hi, e, hb⟩ := ih hl.pre _ h2
    have e2 := nm_inj hi a1 e
    subst e2
    refine ⟨a.2.1.toNat, a2, h3, ?_⟩
    rw [bl_snoc (by omega)]
    exact stepN_bit.2 ⟨a, ha, h1, hb, rfl⟩
/-- From each state an arc leads on. -/
theorem trim_on (h : trimOk l = true) {j : Nat} (hj : j < (trimV l).2.1.toNat) : ∃ a, a ∈ (trimV l).2.2 ∧ a.1 = (j : Int) := by
  rw [trim_eq h] at hj ⊢
  simp only [Int.toNat_natCast] at hj ⊢
  rw [← nm_all] at hj
  obtain ⟨i, hi, e⟩ := nm_surj (Nat.le_refl _) hj
  have on_of : ∀ {i : Nat}, On (liveO l) i ↔ Gr (ArcP l.2.2) l.2.1.toNat i := fun {i} => by
    unfold liveO
    constructor
    · intro h
      have hi : i < l.2.1.toNat := by have := h.lt; rw [liveL_len] at this; exact this
      unfold On liveL at h
      simp [hi] at h
      exact h
    · intro h
      have hi := h.both.1
      unfold On liveL
      simp [hi, h]
  obtain ⟨-, ⟨k, hk, a, ha, a1, a2⟩, -⟩ := (on_of.1 hi).both
  refine ⟨renA (liveO l) a, trimA_mem.2 ⟨a, ha, ?_, ?_, rfl⟩, ?_⟩
  · rw [a1]; simpa using hi
  · rw [a2]; simpa using on_of.2 hk
  · simp only [renA]
    rw [a1, Int.toNat_natCast, e]
theorem trim_more (h : trimOk l = true) {wd : List Nat} (hl : Lets l.1.toNat wd) (hr : readB (trimV l).2.2 (bl wd) (allN (trimV l).2.1) ≠ 0) : ∃ x, x < l.1.toNat ∧ readB (trimV l).2.2 (bl (wd ++ [x])) (allN (trimV l).2.1) ≠ 0 := by
  have hlab := trim_lab h
  have ho := isLab_arcs hlab
  have h0 := isLab_ok hlab
  have e1 : (trimV l).1 = l.1 := by rw [trim_eq h]
  obtain ⟨j, hj⟩ : ∃ j, (readB (trimV l).2.2 (bl wd) (allN (trimV l).2.1)).testBit j = true := by
    apply Classical.byContradiction
    intro hn
    exact hr (nat_zero.2 fun i hi => hn ⟨i, hi⟩)
  have hjl : j < (trimV l).2.1.toNat := by
    rcases List.eq_nil_or_concat wd with e | ⟨u, x, e⟩
    · subst e
      exact (allN_bit _ _).1 hj
    · rw [List.concat_eq_append] at e
      subst e
      have hx := hl.last
      rw [bl_snoc (by omega)] at hj
      exact step_all ho _ _ _ hj
  obtain ⟨a, ha, ea⟩ := trim_on h hjl
  have oa := ho a ha
  unfold okArc at oa
  refine ⟨a.2.2.toNat, by omega, fun hz => ?_⟩
  rw [bl_snoc (by omega)] at hz
  have := nat_zero.1 hz a.2.1.toNat
  exact this (stepN_bit.2 ⟨a, ha, by omega, by rw [ea]; simpa using hj, rfl⟩)
end
end Go.Proofs.YtcilgihmaaobeaaGreatDoor
end

section
namespace Go.Proofs.YtcilgihmaaobeaaGreatDoor
open Go.RowKit Go.Deep Go.Sd
set_option linter.unusedSimpArgs false
set_option maxHeartbeats 1000000 in
theorem sameTexts_same {w : World} {v1 v2 : Value} {xs : List ByteArray} (h1 : StrsR w v1 xs) (h2 : StrsR w v2 xs) :
    Calls Tryz.prog 18 #[v1, v2] w (Reads w (.bool true)) := by
  have hlen1 := h1.len
  obtain ⟨a1, c1, rfl, _, _, hc1⟩ := h1.shape
  obtain ⟨a2, c2, rfl, _, _, hc2⟩ := h2.shape
  clear h1 h2
  have hl1 : ((xs.length : Int) != xs.length) = false := by simp
  have Hc1 := Lib.hid hc1
  have Hc2 := Lib.hid hc2
  clear hc1 hc2
  go_enter Tryz.func18, Tryz.ntmps18
  go_wp2
  go_loopg [5] xs.length (fun g i wr => ∃ (k : Nat), i = .int .i64 k ∧ k + g = xs.length ∧ Drawn w wr)
  case atStart => exact ⟨0, rfl, by omega, Drawn.refl _⟩
  case round =>
    obtain ⟨k, rfl, hk, hdr⟩ := hrel
    by_cases hlt : k < xs.length
    · obtain ⟨b1, o1, rfl, _, hx1⟩ := Hc1.out (by omega)
      obtain ⟨b2, o2, rfl, _, hx2⟩ := Hc2.out (by omega)
      obtain ⟨x, hx, _⟩ := at_lt hlt
      obtain ⟨u1, hu1, rfl⟩ := hx1 k x hx
      obtain ⟨u2, hu2, rfl⟩ := hx2 k x hx
      rw [← hdr.cell] at hu1 hu2
      have hi1 : (k : Int) < (xs.length : Int) := by omega
      have hne : (x.toList != x.toList) = false := by simp
      clear hx1 hx2 hx
      go_wp2
      go_quiet (fail)
      go_wp2
      go_roundg (xs.length - (k + 1))
      case measure => omega
      case rel => exact ⟨k + 1, by go_num, by omega, hdr.drewN _⟩
    · go_wp2
      go_ret
      exact ⟨rfl, hdr⟩
set_option maxHeartbeats 2000000 in
set_option maxRecDepth 100000 in
theorem sameLabels_same {w : World} {v1 v2 : Value} {z : Lb} (h1 : LabR w v1 z) (h2 : LabR w v2 z) :
    Calls Tryz.prog 22 #[v1, v2] w fun e w' => e = .returned (.bool true) ∧ Below w.heap.size w w' := by
  obtain ⟨L, S, xs⟩ := z
  obtain ⟨va, rfl, ha⟩ := h1
  obtain ⟨vb, rfl, hb⟩ := h2
  obtain ⟨hlen, a1, c1, rfl, _, _, _, hc1⟩ := ha
  obtain ⟨_, a2, c2, rfl, _, _, _, hc2⟩ := hb
  simp only at hc1 hc2 hlen ⊢
  obtain ⟨n, hn⟩ : ∃ n, n = xs.length := ⟨_, rfl⟩
  rw [← hn] at hc1 hc2 hlen ⊢
  have Hn := Lib.hid hn
  have Hc1 := Lib.hid hc1
  have Hc2 := Lib.hid hc2
  have t1 : (L != L) = false := by simp
  have t2 : (S != S) = false := by simp
  have t3 : ((n : Int) != (n : Int)) = false := by simp
  obtain ⟨wA, eA, hA, l0, l1, l2, r0, r1, r2, zA⟩ : ∃ wA, wA = (w.alloc (.cells #[.int .i64 L, .int .i64 S, .slice a1 n c1] 26)).alloc (.cells #[.int .i64 L, .int .i64 S, .slice a2 n c2] 26) ∧ Below w.heap.size w wA ∧ wA.cell? ⟨w.heap.size, 0, none⟩ = some (.int .i64 L) ∧ wA.cell? ⟨w.heap.size, 1, none⟩ = some (.int .i64 S) ∧ wA.cell? ⟨w.heap.size, 2, none⟩ = some (.slice a1 n c1) ∧ wA.cell? ⟨w.heap.size + 1, 0, none⟩ = some (.int .i64 L) ∧ wA.cell? ⟨w.heap.size + 1, 1, none⟩ = some (.int .i64 S) ∧ wA.cell? ⟨w.heap.size + 1, 2, none⟩ = some (.slice a2 n c2) ∧ w.heap.size + 1 < wA.heap.size :=
    ⟨_, rfl, ((Below.refl _ _).alloc (Nat.le_refl _) _).alloc (by simp) _, by simp [go_sem], by simp [go_sem], by simp [go_sem], by simp [go_sem], by simp [go_sem], by simp [go_sem], by simp⟩
  have eAs := eA.symm
  have HA := Lib.hid hA
  clear hn hc1 hc2 eA hA
  go_enter Tryz.func22, Tryz.ntmps22
  go_wp2
  go_loopg [5] n (fun g i wr => ∃ (k : Nat), i = .int .i64 k ∧ k + g = n ∧ Drawn wA wr)
  case atStart => exact ⟨0, rfl, by omega, Drawn.refl _⟩
  case round =>
    obtain ⟨k, rfl, hk, hdr⟩ := hrel
    rw [← hdr.cell] at l2 r2
    by_cases hlt : k < n
    · obtain ⟨b1, o1, rfl, hb1, hx1⟩ := Hc1.out (by omega)
      obtain ⟨b2, o2, rfl, hb2, hx2⟩ := Hc2.out (by omega)
      obtain ⟨x, hx, _⟩ := at_lt (xs := xs) (k := k) (by have := Hn.out; omega)
      obtain ⟨f0, f1, f2⟩ := hx1 k x hx
      obtain ⟨g0, g1, g2⟩ := hx2 k x hx
      replace f0 := (HA.out.cell (p := ⟨b1, o1 + k * 3, none⟩) hb1).trans f0
      replace f1 := (HA.out.cell (p := ⟨b1, o1 + k * 3 + 1, none⟩) hb1).trans f1
      replace f2 := (HA.out.cell (p := ⟨b1, o1 + k * 3 + 2, none⟩) hb1).trans f2
      replace g0 := (HA.out.cell (p := ⟨b2, o2 + k * 3, none⟩) hb2).trans g0
      replace g1 := (HA.out.cell (p := ⟨b2, o2 + k * 3 + 1, none⟩) hb2).trans g1
      replace g2 := (HA.out.cell (p := ⟨b2, o2 + k * 3 + 2, none⟩) hb2).trans g2
      rw [← hdr.cell] at f0 f1 f2 g0 g1 g2
      obtain ⟨x0, x1, x2⟩ := x
      simp only at f0 f1 f2 g0 g1 g2
      have hi1 : (k : Int) < (n : Int) := by omega
      have s0 : (x0 == x0) = true := by simp
      have s1 : (x1 == x1) = true := by simp
      have s2 : (x2 == x2) = true := by simp
      clear hx1 hx2 hx
      go_wp2
      go_quiet (fail)
      go_wp2
      go_roundg (n - (k + 1))
      case measure => omega
      case rel => exact ⟨k + 1, by go_num, by omega, hdr.drewN _⟩
    · go_wp2
      go_ret
      exact ⟨rfl, HA.out.trans (hdr.below _)⟩
end Go.Proofs.YtcilgihmaaobeaaGreatDoor
end
