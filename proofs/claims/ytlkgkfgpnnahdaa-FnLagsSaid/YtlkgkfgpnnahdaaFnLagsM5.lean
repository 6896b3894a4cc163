/-
  Texts of this claim joined: laws for its walks, contracts of the functions that the law reaches.
-/
import Derived.Test.YtlkgkfgpnnahdaaRows
import Derived.Test.YtlkgkfgpnnahdaaFnLagsM1
import Derived.Test.YtlkgkfgpnnahdaaFnLagsM3
import Derived.Test.YtlkgkfgpnnahdaaFnLagsM4
section
/-
  Products, powers and traces of matrices, the program's and the reference's.
-/
namespace Go.Proofs.Ytlkgkfgpnnahdaa
open Go.RowKit Go.Deep Go.Sd

def mulOk (a b : List (List Int)) : Bool := isMat a && isMat b && decide (a.length = b.length) && isMat (prodT a b a.length a.length a.length)
def mulV (a b : List (List Int)) : List (List Int) := if mulOk a b = true then prodT a b a.length a.length a.length else []
def unitF (n k : Nat) : List (List Int) := tabOf n n (fun i j => if i = j ∧ i < k then 1 else 0)
def unitT (n : Nat) : List (List Int) := unitF n n
/-- What is left of a power: k factors. -/
def powR (m : List (List Int)) : Nat → List (List Int) → List (List Int) × Bool
  | 0, o => (o, true)
  | k + 1, o => if mulOk o m = true then powR m k (mulV o m) else ([], false)
def pwOk (m : List (List Int)) (n : Int) : Bool := isMat m && decide (0 ≤ n ∧ n ≤ 30) && (powR m n.toNat (unitT m.length)).2
def pwV (m : List (List Int)) (n : Int) : List (List Int) := if pwOk m n = true then (powR m n.toNat (unitT m.length)).1 else []
/-- The first k numbers of the diagonal, added up. -/
def trF (m : List (List Int)) : Nat → Int
  | 0 => 0
  | k + 1 => trF m k + ent m k k
def closedM (m : List (List Int)) (n : Int) : Int := if 1 ≤ n ∧ pwOk m n = true then trF (pwV m n) (pwV m n).length else -1

theorem isMat_bd {m : List (List Int)} (h : isMat m = true) : ∀ r, r ∈ m → ∀ x, x ∈ r → 0 ≤ x ∧ x ≤ 1000000 := by
  unfold isMat at h
  simp only [Bool.and_eq_true, decide_eq_true_eq, List.all_eq_true] at h
  intro r hr x hx
  have := h.2 r hr
  unfold rowOk at this
  simp at this
  have := this.2 x hx
  unfold entOk at this
  simpa using this
theorem isMat_Bd {m : List (List Int)} (h : isMat m = true) : Bd 1000000 m := fun r hr x hx => by have := isMat_bd h r hr x hx; omega
theorem isMat_mk {n : Nat} {f : Nat → Nat → Int} (h1 : 1 ≤ n) (h2 : n ≤ 9) (h : ∀ i, i < n → ∀ j, j < n → 0 ≤ f i j ∧ f i j ≤ 1000000) : isMat (tabOf n n f) = true := by
  unfold isMat
  simp only [Bool.and_eq_true, decide_eq_true_eq, List.all_eq_true, tabOf_len]
  refine ⟨⟨h1, h2⟩, fun r hr => ?_⟩
  obtain ⟨i, hi, rfl⟩ := List.mem_map.1 hr
  unfold rowOk
  simp only [rowOf_len, Bool.and_eq_true, decide_eq_true_eq, List.all_eq_true, true_and]
  intro x hx
  obtain ⟨j, hj, rfl⟩ := List.mem_map.1 hx
  unfold entOk
  simp
  exact h i (List.mem_range.1 hi) j (List.mem_range.1 hj)
theorem unit_isMat {n : Nat} (h1 : 1 ≤ n) (h2 : n ≤ 9) : isMat (unitT n) = true := isMat_mk h1 h2 fun i _ j _ => by split <;> omega
theorem mulV_isMat {a b : List (List Int)} (h : mulOk a b = true) : isMat (mulV a b) = true ∧ (mulV a b).length = a.length := by
  have e : mulV a b = prodT a b a.length a.length a.length := by unfold mulV; rw [if_pos h]
  rw [e]
  unfold mulOk at h
  simp only [Bool.and_eq_true] at h
  exact ⟨h.2, tabOf_len _ _ _⟩
theorem powR_isMat {m : List (List Int)} : ∀ (k : Nat) (o : List (List Int)), isMat o = true → (powR m k o).2 = true → isMat (powR m k o).1 = true := by
  intro k
  induction k with
  | zero => intro o h _; exact h
  | succ k ih =>
    intro o h h2
    unfold powR at h2 ⊢
    by_cases hm : mulOk o m = true
    · rw [if_pos hm] at h2 ⊢
      exact ih _ (mulV_isMat hm).1 h2
    · rw [if_neg hm] at h2; cases h2
theorem pwV_isMat {m : List (List Int)} {n : Int} (h : pwOk m n = true) : isMat (pwV m n) = true := by
  have e : pwV m n = (powR m n.toNat (unitT m.length)).1 := by unfold pwV; rw [if_pos h]
  rw [e]
  unfold pwOk at h
  simp only [Bool.and_eq_true] at h
  have := isMat_sq h.1.1
  exact powR_isMat _ _ (unit_isMat this.2.1 this.2.2) h.2
theorem trF_bd {m : List (List Int)} (h : isMat m = true) : ∀ k, k ≤ m.length → 0 ≤ trF m k ∧ trF m k ≤ k * 1000000 := by
  intro k
  induction k with
  | zero => intro _; simp [trF]
  | succ k ih =>
    intro hk
    have h1 := ih (by omega)
    obtain ⟨r, hr, hx⟩ := ent_mem (isMat_sq h).1.2 (show k < m.length by omega) (show k < m.length by omega)
    have := isMat_bd h r hr _ hx
    unfold trF
    omega
theorem unitF_start (n : Nat) : unitF n 0 = List.replicate n (List.replicate n 0) := by
  rw [← tabOf_const]; exact tabOf_congr fun i _ j _ => by simp
theorem unitF_set {n k : Nat} : (unitF n k).set k ((rowOf' n (fun j => if k = j ∧ k < k then 1 else 0)).set k 1) = unitF n (k + 1) := by
  unfold unitF
  rw [tabOf_set2 n n (fun i j => if i = j ∧ i < k then 1 else 0) k k 1]
  refine tabOf_congr fun i _ j _ => ?_
  by_cases h : i = k ∧ j = k
  · obtain ⟨rfl, rfl⟩ := h; simp
  · rw [if_neg h]
    by_cases h2 : i = j ∧ i < k
    · rw [if_pos h2, if_pos (by omega)]
    · rw [if_neg h2, if_neg (by omega)]

theorem checked_yes {w : World} {v : Value} {m : List (List Int)} (h : Tab w v m) (hm : isMat m = true) :
    Calls Try.prog 79 #[v] w fun e w' => e = .returned (.tuple #[v, .bool true]) ∧ w = w' := by
  have Hc := Lib.hid (impl_IsMatrix_c h)
  rw [hm] at Hc
  obtain ⟨a, c, rfl, _, _, _⟩ := h.shape
  clear h hm
  go_enter Try.func79, Try.ntmps79
  go_wp2_with fail
  refine Hc.out.mono ?_
  rintro e w' ⟨rfl, rfl⟩
  go_wp2
  go_ret2
  exact ⟨rfl, rfl⟩
theorem checked_no {w : World} {v : Value} {m : List (List Int)} (h : Tab w v m) (hm : isMat m = false) :
    Calls Try.prog 79 #[v] w fun e w' => e = .returned (.tuple #[.slice none 0 0, .bool false]) ∧ w = w' := by
  have Hc := Lib.hid (impl_IsMatrix_c h)
  rw [hm] at Hc
  obtain ⟨a, c, rfl, _, _, _⟩ := h.shape
  clear h hm
  go_enter Try.func79, Try.ntmps79
  go_wp2_with fail
  refine Hc.out.mono ?_
  rintro e w' ⟨rfl, rfl⟩
  go_wp2
  go_ret2
  exact ⟨rfl, rfl⟩

set_option maxHeartbeats 1000000 in
theorem impl_MultiplyMatrices_c {w : World} {va vb : Value} {a b : List (List Int)} (h1 : Tab w va a) (h2 : Tab w vb b) :
    Calls Try.prog 168 #[va, vb] w (Makes2 (OTab 3 33) w (mulV a b) (mulOk a b)) := by
  have hsa := h1.shape
  obtain ⟨aa, ac, rfl, _, _, _⟩ := hsa
  have hsb := h2.shape
  obtain ⟨ba, bc, rfl, _, _, _⟩ := hsb
  have Hc := Lib.hid (impl_IsMatrix_c h1)
  have Hd := Lib.hid (impl_IsMatrix_c h2)
  cases ha : isMat a with
  | false =>
    have HK := Lib.hid (show mulOk a b = false from by unfold mulOk; rw [ha]; rfl)
    have HV := Lib.hid (show mulV a b = [] from by unfold mulV; rw [HK.out]; rfl)
    rw [ha] at Hc
    rw [HK.out]
    clear h1 h2 ha Hd
    go_enter Try.func168, Try.ntmps168
    go_wp2_with fail
    refine Hc.out.mono ?_
    rintro e w' ⟨rfl, rfl⟩
    go_wp2
    go_ret2
    exact ⟨_, rfl, by rw [HV.out]; exact New.nil _ _, Below.refl _ _⟩
  | true =>
    rw [ha] at Hc
    cases hb : isMat b with
    | false =>
      have HK := Lib.hid (show mulOk a b = false from by unfold mulOk; rw [hb]; simp)
      have HV := Lib.hid (show mulV a b = [] from by unfold mulV; rw [HK.out]; rfl)
      rw [hb] at Hd
      rw [HK.out]
      clear h1 h2 ha hb
      go_enter Try.func168, Try.ntmps168
      go_wp2_with fail
      refine Hc.out.mono ?_
      rintro e w' ⟨rfl, rfl⟩
      go_wp2_with fail
      refine Hd.out.mono ?_
      rintro e w' ⟨rfl, rfl⟩
      go_wp2
      go_ret2
      exact ⟨_, rfl, by rw [HV.out]; exact New.nil _ _, Below.refl _ _⟩
    | true =>
      rw [hb] at Hd
      have sa := isMat_sq ha
      have sb := isMat_sq hb
      by_cases hl : a.length = b.length
      · have Hm := Lib.hid (times_c h1 h2 (p := a.length) (q := a.length) (r := a.length) rfl sa.1.2 hl.symm (by rw [hl]; exact sb.1.2) (by omega) (by omega) (by omega) (by omega) (by omega) (by omega) (isMat_Bd ha) (isMat_Bd hb))
        have t1 : ((a.length : Int) != (b.length : Int)) = false := by simp [hl]
        skip
        cases hp : isMat (prodT a b a.length a.length a.length) with
        | false =>
          have HK := Lib.hid (show mulOk a b = false from by unfold mulOk; rw [hp]; simp)
          have HV := Lib.hid (show mulV a b = [] from by unfold mulV; rw [HK.out]; rfl)
          have Hch := Lib.hid (fun w1 v1 (h : Tab w1 v1 (prodT a b a.length a.length a.length)) => checked_no h hp)
          rw [HK.out]
          clear h1 h2 ha hb hl hp sa sb
          go_enter Try.func168, Try.ntmps168
          go_wp2_with fail
          refine Hc.out.mono ?_
          rintro e w' ⟨rfl, rfl⟩
          go_wp2_with fail
          refine Hd.out.mono ?_
          rintro e w' ⟨rfl, rfl⟩
          go_wp2_with fail
          refine Hm.out.mono ?_
          rintro e w1 ⟨v1, rfl, hn1, hb1⟩
          go_wp2_with fail
          refine (Hch.out _ _ hn1.tab).mono ?_
          rintro e w' ⟨rfl, rfl⟩
          have Hb1 := Lib.hid hb1
          clear hb1 hn1
          go_wp2
          go_ret2
          exact ⟨_, rfl, by rw [HV.out]; exact New.nil _ _, Hb1.out⟩
        | true =>
          have HK := Lib.hid (show mulOk a b = true from by unfold mulOk; rw [ha, hb, hp]; simp [hl])
          have HV := Lib.hid (show mulV a b = prodT a b a.length a.length a.length from by unfold mulV; rw [HK.out]; rfl)
          have Hch := Lib.hid (fun w1 v1 (h : Tab w1 v1 (prodT a b a.length a.length a.length)) => checked_yes h hp)
          rw [HK.out]
          clear h1 h2 ha hb hl hp sa sb
          go_enter Try.func168, Try.ntmps168
          go_wp2_with fail
          refine Hc.out.mono ?_
          rintro e w' ⟨rfl, rfl⟩
          go_wp2_with fail
          refine Hd.out.mono ?_
          rintro e w' ⟨rfl, rfl⟩
          go_wp2_with fail
          refine Hm.out.mono ?_
          rintro e w1 ⟨v1, rfl, hn1, hb1⟩
          go_wp2_with fail
          refine (Hch.out _ _ hn1.tab).mono ?_
          rintro e w' ⟨rfl, rfl⟩
          have Hb1 := Lib.hid hb1
          have Hn1 := Lib.hid hn1
          clear hb1 hn1
          go_wp2
          go_ret2
          exact ⟨_, rfl, by rw [HV.out]; exact Hn1.out, Hb1.out⟩
      · have HK := Lib.hid (show mulOk a b = false from by unfold mulOk; simp [hl])
        have HV := Lib.hid (show mulV a b = [] from by unfold mulV; rw [HK.out]; rfl)
        have t1 : ((a.length : Int) != (b.length : Int)) = true := by simp; omega
        rw [HK.out]
        clear h1 h2 ha hb sa sb
        go_enter Try.func168, Try.ntmps168
        go_wp2_with fail
        refine Hc.out.mono ?_
        rintro e w' ⟨rfl, rfl⟩
        go_wp2_with fail
        refine Hd.out.mono ?_
        rintro e w' ⟨rfl, rfl⟩
        go_wp2
        go_ret2
        exact ⟨_, rfl, by rw [HV.out]; exact New.nil _ _, Below.refl _ _⟩

set_option maxHeartbeats 400000 in
theorem unit_c {w : World} {n : Nat} (hn0 : 0 < n) (hn : n ≤ 9) : Calls Try.prog 167 #[.int .i64 n] w (Makes (OTab 3 33) w (unitT n)) := by
  have Hz := Lib.hid (zeros_c (w := w) (p := n) (by omega))
  go_enter Try.func167, Try.ntmps167
  go_wp2_with fail
  refine Hz.out.mono ?_
  rintro e w1 ⟨v1, rfl, hn1, hb1⟩
  obtain ⟨gb, gc, _, _, rfl, _, hgb, hgb2, _⟩ := hn1.tab_at (i := 0) (j := 0) ((Sq.zeros n).row hn0).1 ((Sq.zeros n).entry hn0 hn0)
  rw [(Sq.zeros n).1] at hn1 ⊢
  rw [← unitF_start] at hn1
  have Hn1 := Lib.hid hn1
  have Hb1 := Lib.hid hb1
  clear hn1 hb1 Hz
  go_wp2
  go_loopg [9] n (fun g ii wr => ∃ (k : Nat), ii = .int .i64 k ∧ k + g = n ∧ New (OTab 3 33) w.heap.size wr (.slice (some ⟨gb, 0, none⟩) n gc) (unitF n k) ∧ Below w.heap.size w wr)
  case atStart => exact ⟨0, rfl, by omega, Hn1.out, Hb1.out⟩
  case round =>
    obtain ⟨k, rfl, hk, hnew, hbel⟩ := hrel
    by_cases hlt : k < n
    · obtain ⟨b', c', sb, sc, hv, _, _, _, hcl1, _, hsb, _, hcl2, hfr, hst⟩ := hnew.tab_at (tabOf_at hlt) (rowOf_at hlt)
      obtain rfl : b' = gb := by simp at hv; exact hv.1.symm
      rw [rowOf_len] at hcl1
      have Hst := Lib.hid (by have := hst 1; rw [unitF_set] at this; exact this)
      have Hb3 := Lib.hid (hbel.setCell (p := ⟨sb, k, none⟩) hsb (.int .i64 1))
      simp at hcl2
      clear hv hst hnew hbel
      go_wp2
      go_roundg (n - (k + 1))
      case measure => omega
      case rel => exact ⟨k + 1, by go_num, by omega, Hst.out, Hb3.out⟩
    · have e : k = n := by omega
      subst e
      go_wp2
      go_ret
      exact ⟨_, rfl, hnew, hbel⟩

set_option maxHeartbeats 1000000 in
theorem spec_MultiplyMatrices_c {w : World} {va vb : Value} {a b : List (List Int)} (h1 : Tab w va a) (h2 : Tab w vb b) :
    Calls Try.prog 126 #[va, vb] w (Makes2 (OTab 3 33) w (mulV a b) (mulOk a b)) := by
  have hsa := h1.shape
  obtain ⟨aa, ac, rfl, _, _, _⟩ := hsa
  have hsb := h2.shape
  obtain ⟨ba, bc, rfl, _, _, _⟩ := hsb
  have Hc := Lib.hid (spec_IsMatrix_c h1)
  have Hd := Lib.hid (spec_IsMatrix_c h2)
  cases ha : isMat a with
  | false =>
    have HK := Lib.hid (show mulOk a b = false from by unfold mulOk; rw [ha]; rfl)
    have HV := Lib.hid (show mulV a b = [] from by unfold mulV; rw [HK.out]; rfl)
    rw [ha] at Hc
    rw [HK.out]
    clear h1 h2 ha Hd
    go_enter Try.func126, Try.ntmps126
    go_wp2_with fail
    refine Hc.out.mono ?_
    rintro e w' ⟨rfl, rfl⟩
    go_wp2
    go_ret2
    exact ⟨_, rfl, by rw [HV.out]; exact New.empty w (Nat.le_refl _), (Below.refl _ _).alloc (Nat.le_refl _) _⟩
  | true =>
    rw [ha] at Hc
    cases hb : isMat b with
    | false =>
      have HK := Lib.hid (show mulOk a b = false from by unfold mulOk; rw [hb]; simp)
      have HV := Lib.hid (show mulV a b = [] from by unfold mulV; rw [HK.out]; rfl)
      rw [hb] at Hd
      rw [HK.out]
      clear h1 h2 ha hb
      go_enter Try.func126, Try.ntmps126
      go_wp2_with fail
      refine Hc.out.mono ?_
      rintro e w' ⟨rfl, rfl⟩
      go_wp2_with fail
      refine Hd.out.mono ?_
      rintro e w' ⟨rfl, rfl⟩
      go_wp2
      go_ret2
      exact ⟨_, rfl, by rw [HV.out]; exact New.empty w (Nat.le_refl _), (Below.refl _ _).alloc (Nat.le_refl _) _⟩
    | true =>
      rw [hb] at Hd
      have sa := isMat_sq ha
      have sb := isMat_sq hb
      by_cases hl : a.length = b.length
      · have Hm := Lib.hid (l4Times_c h1 h2 (p := a.length) (q := a.length) (r := a.length) rfl sa.1.2 hl.symm (by rw [hl]; exact sb.1.2) (by omega) (by omega) (by omega) (by omega) (by omega) (by omega) (isMat_Bd ha) (isMat_Bd hb))
        have t1 : ((a.length : Int) != (b.length : Int)) = false := by simp [hl]
        rw [show (Value.int .i64 (a.length : Int)) = Value.int .i64 (b.length : Int) from by rw [hl]] at Hm
        cases hp : isMat (prodT a b a.length a.length a.length) with
        | false =>
          have HK := Lib.hid (show mulOk a b = false from by unfold mulOk; rw [hp]; simp)
          have HV := Lib.hid (show mulV a b = [] from by unfold mulV; rw [HK.out]; rfl)
          have Hch := Lib.hid (fun w1 v1 (h : Tab w1 v1 (prodT a b a.length a.length a.length)) => spec_IsMatrix_c h)
          rw [hp] at Hch
          rw [HK.out]
          clear h1 h2 ha hb hl hp sa sb
          go_enter Try.func126, Try.ntmps126
          go_wp2_with fail
          refine Hc.out.mono ?_
          rintro e w' ⟨rfl, rfl⟩
          go_wp2_with fail
          refine Hd.out.mono ?_
          rintro e w' ⟨rfl, rfl⟩
          go_wp2_with fail
          refine Hm.out.mono ?_
          rintro e w1 ⟨v1, rfl, hn1, hb1⟩
          go_wp2_with fail
          refine (Hch.out _ _ hn1.tab).mono ?_
          rintro e w' ⟨rfl, rfl⟩
          have Hb1 := Lib.hid hb1
          have hz1 := hb1.size
          clear hb1 hn1
          go_wp2
          go_ret2
          exact ⟨_, rfl, by rw [HV.out]; exact New.empty w1 hz1, Hb1.out.alloc hz1 _⟩
        | true =>
          have HK := Lib.hid (show mulOk a b = true from by unfold mulOk; rw [ha, hb, hp]; simp [hl])
          have HV := Lib.hid (show mulV a b = prodT a b a.length a.length a.length from by unfold mulV; rw [HK.out]; rfl)
          have Hch := Lib.hid (fun w1 v1 (h : Tab w1 v1 (prodT a b a.length a.length a.length)) => spec_IsMatrix_c h)
          rw [hp] at Hch
          rw [HK.out]
          clear h1 h2 ha hb hl hp sa sb
          go_enter Try.func126, Try.ntmps126
          go_wp2_with fail
          refine Hc.out.mono ?_
          rintro e w' ⟨rfl, rfl⟩
          go_wp2_with fail
          refine Hd.out.mono ?_
          rintro e w' ⟨rfl, rfl⟩
          go_wp2_with fail
          refine Hm.out.mono ?_
          rintro e w1 ⟨v1, rfl, hn1, hb1⟩
          go_wp2_with fail
          refine (Hch.out _ _ hn1.tab).mono ?_
          rintro e w' ⟨rfl, rfl⟩
          have Hb1 := Lib.hid hb1
          have Hn1 := Lib.hid hn1
          clear hb1 hn1
          go_wp2
          go_ret2
          exact ⟨_, rfl, by rw [HV.out]; exact Hn1.out, Hb1.out⟩
      · have HK := Lib.hid (show mulOk a b = false from by unfold mulOk; simp [hl])
        have HV := Lib.hid (show mulV a b = [] from by unfold mulV; rw [HK.out]; rfl)
        have t1 : ((a.length : Int) != (b.length : Int)) = true := by simp; omega
        rw [HK.out]
        clear h1 h2 ha hb sa sb
        go_enter Try.func126, Try.ntmps126
        go_wp2_with fail
        refine Hc.out.mono ?_
        rintro e w' ⟨rfl, rfl⟩
        go_wp2_with fail
        refine Hd.out.mono ?_
        rintro e w' ⟨rfl, rfl⟩
        go_wp2
        go_ret2
        exact ⟨_, rfl, by rw [HV.out]; exact New.empty w (Nat.le_refl _), (Below.refl _ _).alloc (Nat.le_refl _) _⟩

set_option maxHeartbeats 400000 in
theorem l4One_c {w : World} {n : Nat} (hn0 : 0 < n) (hn : n ≤ 9) : Calls Try.prog 102 #[.int .i64 n] w (Makes (OTab 3 33) w (unitT n)) := by
  have Hz := Lib.hid (l4Zero_c (w := w) (p := n) (r := n) (by omega) (by omega))
  go_enter Try.func102, Try.ntmps102
  go_wp2_with fail
  refine Hz.out.mono ?_
  rintro e w1 ⟨v1, rfl, hn1, hb1⟩
  obtain ⟨gb, gc, _, _, rfl, _, hgb, hgb2, _⟩ := hn1.tab_at (i := 0) (j := 0) ((Sq.zeros n).row hn0).1 ((Sq.zeros n).entry hn0 hn0)
  rw [(Sq.zeros n).1] at hn1 ⊢
  rw [← unitF_start] at hn1
  have Hn1 := Lib.hid hn1
  have Hb1 := Lib.hid hb1
  clear hn1 hb1 Hz
  go_wp2
  go_loopg [4] n (fun g ii wr => ∃ (k : Nat), ii = .int .i64 k ∧ k + g = n ∧ New (OTab 3 33) w.heap.size wr (.slice (some ⟨gb, 0, none⟩) n gc) (unitF n k) ∧ Below w.heap.size w wr)
  case atStart => exact ⟨0, rfl, by omega, Hn1.out, Hb1.out⟩
  case round =>
    obtain ⟨k, rfl, hk, hnew, hbel⟩ := hrel
    by_cases hlt : k < n
    · obtain ⟨b', c', sb, sc, hv, _, _, _, hcl1, _, hsb, _, hcl2, hfr, hst⟩ := hnew.tab_at (tabOf_at hlt) (rowOf_at hlt)
      obtain rfl : b' = gb := by simp at hv; exact hv.1.symm
      rw [rowOf_len] at hcl1
      have Hst := Lib.hid (by have := hst 1; rw [unitF_set] at this; exact this)
      have Hb3 := Lib.hid (hbel.setCell (p := ⟨sb, k, none⟩) hsb (.int .i64 1))
      simp at hcl2
      clear hv hst hnew hbel
      go_wp2
      go_roundg (n - (k + 1))
      case measure => omega
      case rel => exact ⟨k + 1, by go_num, by omega, Hst.out, Hb3.out⟩
    · have e : k = n := by omega
      subst e
      go_wp2
      go_ret
      exact ⟨_, rfl, hnew, hbel⟩

set_option maxHeartbeats 1000000 in
theorem impl_PowerMatrix_c {w : World} {va : Value} {m : List (List Int)} {n : Int} (h1 : Tab w va m) :
    Calls Try.prog 106 #[va, .int .i64 n] w (Makes2 (OTab 3 33) w (pwV m n) (pwOk m n)) := by
  have hsa := h1.shape
  obtain ⟨aa, ac, rfl, _, _, _⟩ := hsa
  have Hc := Lib.hid (impl_IsMatrix_c h1)
  cases hm : isMat m with
  | false =>
    have HK := Lib.hid (show pwOk m n = false from by unfold pwOk; rw [hm]; rfl)
    have HV := Lib.hid (show pwV m n = [] from by unfold pwV; rw [HK.out]; rfl)
    rw [hm] at Hc
    rw [HK.out]
    clear h1 hm
    go_enter Try.func106, Try.ntmps106
    go_wp2_with fail
    refine Hc.out.mono ?_
    rintro e w' ⟨rfl, rfl⟩
    go_wp2
    go_ret2
    exact ⟨_, rfl, by rw [HV.out]; exact New.nil _ _, Below.refl _ _⟩
  | true =>
    rw [hm] at Hc
    have sm := isMat_sq hm
    by_cases hn : 0 ≤ n ∧ n ≤ 30
    · obtain ⟨N, rfl⟩ : ∃ N : Nat, n = (N : Int) := ⟨n.toNat, by omega⟩
      have HO := Lib.hid (show pwOk m (N : Int) = (powR m N (unitT m.length)).2 from by unfold pwOk; rw [hm]; simp [hn])
      have HV := Lib.hid (show pwV m (N : Int) = if pwOk m (N : Int) = true then (powR m N (unitT m.length)).1 else [] from rfl)
      have hN : N ≤ 30 := by omega
      have Hu := Lib.hid (unit_c (w := w) (n := m.length) (by omega) (by omega))
      have Hmul := Lib.hid (fun w1 v1 o (hb : Below w.heap.size w w1) (h : Tab w1 v1 o) => impl_MultiplyMatrices_c h (Tab.frame _ _ _ _ h1 hb))
      generalize pwOk m (N : Int) = ok at HO HV ⊢
      generalize pwV m (N : Int) = rv at HV ⊢
      skip
      clear h1 hm sm hn
      go_enter Try.func106, Try.ntmps106
      go_wp2_with fail
      refine Hc.out.mono ?_
      rintro e w' ⟨rfl, rfl⟩
      go_wp2_with fail
      refine Hu.out.mono ?_
      rintro e w1 ⟨v1, rfl, hn1, hb1⟩
      have Hn1 := Lib.hid hn1
      have Hb1 := Lib.hid hb1
      clear hn1 hb1
      go_wp2
      go_loopg [6, 23] N (fun g v ii wr => ∃ (k : Nat) (q : List (List Int)), ii = .int .i64 k ∧ k + g = N ∧ Hid (powR m N (unitT m.length) = powR m g q) ∧ New (OTab 3 33) w.heap.size wr v q ∧ Below w.heap.size w wr)
      case atStart => exact ⟨0, _, rfl, by omega, Lib.hid rfl, Hn1.out, Hb1.out⟩
      case round =>
        obtain ⟨k, q, rfl, hk, H, hnew, hbel⟩ := hrel
        clear Hn1 Hb1
        obtain ⟨g, hg⟩ : ∃ g, g = gk := ⟨_, rfl⟩
        rw [← hg] at H hk
        by_cases hlt : k < N
        · obtain ⟨g', rfl⟩ : ∃ t, g = t + 1 := ⟨g - 1, by omega⟩
          have H1 := Lib.hid (show powR m N (unitT m.length) = if mulOk q m = true then powR m g' (mulV q m) else ([], false) from H.out)
          have Hc2 := Lib.hid (Hmul.out _ _ _ hbel hnew.tab)
          have Hbel := Lib.hid hbel
          have hz := hbel.size
          clear H hbel hnew
          cases hmo : mulOk q m with
          | false =>
            have HK := Lib.hid (show ok = false from by rw [HO.out, H1.out, hmo]; rfl)
            have HV2 := Lib.hid (show rv = [] from by rw [HV.out, HK.out]; rfl)
            rw [hmo] at Hc2
            clear H1 hmo
            go_wp2_with fail
            refine Hc2.out.mono ?_
            rintro e w2 ⟨v2, rfl, hn2, hb2'⟩
            have hb2 := Hbel.out.trans (hb2'.mono hz)
            clear hb2' hn2
            go_wp2
            go_ret2
            exact ⟨_, by rw [HK.out]; rfl, by rw [HV2.out]; exact New.nil _ _, hb2⟩
          | true =>
            have H2 := Lib.hid (show powR m N (unitT m.length) = powR m g' (mulV q m) from by rw [H1.out, hmo]; rfl)
            rw [hmo] at Hc2
            clear H1 hmo
            go_wp2_with fail
            refine Hc2.out.mono ?_
            rintro e w2 ⟨v2, rfl, hn2, hb2'⟩
            have Hb2 := Lib.hid (Hbel.out.trans (hb2'.mono hz))
            have Hn2 := Lib.hid (hn2.mono hz)
            clear hb2' hn2
            go_wp2
            go_roundg g'
            case measure => omega
            case rel => exact ⟨k + 1, _, by go_num, by omega, H2, Hn2.out, Hb2.out⟩
        · have e : g = 0 := by omega
          subst e
          have HK := Lib.hid (show ok = true from by rw [HO.out, H.out]; rfl)
          have HV2 := Lib.hid (show rv = q from by rw [HV.out, HK.out, H.out]; rfl)
          clear H
          go_wp2
          go_ret2
          exact ⟨_, by rw [HK.out]; rfl, by rw [HV2.out]; exact hnew, hbel⟩
    · have hl : ¬ (0 ≤ n ∧ n ≤ 30) := hn
      have HK := Lib.hid (show pwOk m n = false from by unfold pwOk; simp [hl])
      have HV := Lib.hid (show pwV m n = [] from by unfold pwV; rw [HK.out]; rfl)
      rw [HK.out]
      clear h1 hm sm hn
      by_cases h0 : n < 0
      · clear hl
        go_enter Try.func106, Try.ntmps106
        go_wp2_with fail
        refine Hc.out.mono ?_
        rintro e w' ⟨rfl, rfl⟩
        go_wp2
        go_ret2
        exact ⟨_, rfl, by rw [HV.out]; exact New.nil _ _, Below.refl _ _⟩
      · have h3 : 30 < n := by omega
        clear hl
        go_enter Try.func106, Try.ntmps106
        go_wp2_with fail
        refine Hc.out.mono ?_
        rintro e w' ⟨rfl, rfl⟩
        go_wp2
        go_ret2
        exact ⟨_, rfl, by rw [HV.out]; exact New.nil _ _, Below.refl _ _⟩



set_option maxHeartbeats 1000000 in
theorem spec_PowerMatrix_c {w : World} {va : Value} {m : List (List Int)} {n : Int} (h1 : Tab w va m) :
    Calls Try.prog 45 #[va, .int .i64 n] w (Makes2 (OTab 3 33) w (pwV m n) (pwOk m n)) := by
  have hsa := h1.shape
  obtain ⟨aa, ac, rfl, _, _, _⟩ := hsa
  have Hc := Lib.hid (spec_IsMatrix_c h1)
  cases hm : isMat m with
  | false =>
    have HK := Lib.hid (show pwOk m n = false from by unfold pwOk; rw [hm]; rfl)
    have HV := Lib.hid (show pwV m n = [] from by unfold pwV; rw [HK.out]; rfl)
    rw [hm] at Hc
    rw [HK.out]
    clear h1 hm
    go_enter Try.func45, Try.ntmps45
    go_wp2_with fail
    refine Hc.out.mono ?_
    rintro e w' ⟨rfl, rfl⟩
    go_wp2
    go_ret2
    exact ⟨_, rfl, by rw [HV.out]; exact New.empty w (Nat.le_refl _), (Below.refl _ _).alloc (Nat.le_refl _) _⟩
  | true =>
    rw [hm] at Hc
    have sm := isMat_sq hm
    by_cases hn : 0 ≤ n ∧ n ≤ 30
    · obtain ⟨N, rfl⟩ : ∃ N : Nat, n = (N : Int) := ⟨n.toNat, by omega⟩
      have HO := Lib.hid (show pwOk m (N : Int) = (powR m N (unitT m.length)).2 from by unfold pwOk; rw [hm]; simp [hn])
      have HV := Lib.hid (show pwV m (N : Int) = if pwOk m (N : Int) = true then (powR m N (unitT m.length)).1 else [] from rfl)
      have hN : N ≤ 30 := by omega
      have Hu := Lib.hid (l4One_c (w := w) (n := m.length) (by omega) (by omega))
      have Hmul := Lib.hid (fun w1 v1 o (hb : Below w.heap.size w w1) (h : Tab w1 v1 o) => spec_MultiplyMatrices_c h (Tab.frame _ _ _ _ h1 hb))
      generalize pwOk m (N : Int) = ok at HO HV ⊢
      generalize pwV m (N : Int) = rv at HV ⊢
      have Hi := Lib.hid (l1In_yes (a := (N : Int)) (b := 0) (c := 30) w (by omega) (by omega))
      clear h1 hm sm hn
      go_enter Try.func45, Try.ntmps45
      go_wp2_with fail
      refine Hc.out.mono ?_
      rintro e w' ⟨rfl, rfl⟩
      go_wp2_with fail
      refine Hi.out.mono ?_
      rintro e w' ⟨rfl, rfl⟩
      go_wp2_with fail
      refine Hu.out.mono ?_
      rintro e w1 ⟨v1, rfl, hn1, hb1⟩
      have Hn1 := Lib.hid hn1
      have Hb1 := Lib.hid hb1
      clear hn1 hb1
      go_wp2
      go_loopg [6, 7] N (fun g v ii wr => ∃ (k : Nat) (q : List (List Int)), ii = .int .i64 k ∧ k + g = N ∧ Hid (powR m N (unitT m.length) = powR m g q) ∧ New (OTab 3 33) w.heap.size wr v q ∧ Below w.heap.size w wr)
      case atStart => exact ⟨0, _, rfl, by omega, Lib.hid rfl, Hn1.out, Hb1.out⟩
      case round =>
        obtain ⟨k, q, rfl, hk, H, hnew, hbel⟩ := hrel
        clear Hn1 Hb1
        obtain ⟨g, hg⟩ : ∃ g, g = gk := ⟨_, rfl⟩
        rw [← hg] at H hk
        by_cases hlt : k < N
        · obtain ⟨g', rfl⟩ : ∃ t, g = t + 1 := ⟨g - 1, by omega⟩
          have H1 := Lib.hid (show powR m N (unitT m.length) = if mulOk q m = true then powR m g' (mulV q m) else ([], false) from H.out)
          have Hc2 := Lib.hid (Hmul.out _ _ _ hbel hnew.tab)
          have Hbel := Lib.hid hbel
          have hz := hbel.size
          clear H hbel hnew
          cases hmo : mulOk q m with
          | false =>
            have HK := Lib.hid (show ok = false from by rw [HO.out, H1.out, hmo]; rfl)
            have HV2 := Lib.hid (show rv = [] from by rw [HV.out, HK.out]; rfl)
            rw [hmo] at Hc2
            clear H1 hmo
            go_wp2_with fail
            refine Hc2.out.mono ?_
            rintro e w2 ⟨v2, rfl, hn2, hb2'⟩
            have hb2 := Hbel.out.trans (hb2'.mono hz)
            clear hb2' hn2
            go_wp2
            go_ret2
            exact ⟨_, by rw [HK.out]; rfl, by rw [HV2.out]; exact New.empty w2 hb2.size, hb2.alloc hb2.size _⟩
          | true =>
            have H2 := Lib.hid (show powR m N (unitT m.length) = powR m g' (mulV q m) from by rw [H1.out, hmo]; rfl)
            rw [hmo] at Hc2
            clear H1 hmo
            go_wp2_with fail
            refine Hc2.out.mono ?_
            rintro e w2 ⟨v2, rfl, hn2, hb2'⟩
            have Hb2 := Lib.hid (Hbel.out.trans (hb2'.mono hz))
            have Hn2 := Lib.hid (hn2.mono hz)
            clear hb2' hn2
            go_wp2
            go_roundg g'
            case measure => omega
            case rel => exact ⟨k + 1, _, by go_num, by omega, H2, Hn2.out, Hb2.out⟩
        · have e : g = 0 := by omega
          subst e
          have HK := Lib.hid (show ok = true from by rw [HO.out, H.out]; rfl)
          have HV2 := Lib.hid (show rv = q from by rw [HV.out, HK.out, H.out]; rfl)
          clear H
          go_wp2
          go_ret2
          exact ⟨_, by rw [HK.out]; rfl, by rw [HV2.out]; exact hnew, hbel⟩
    · have hl : ¬ (0 ≤ n ∧ n ≤ 30) := hn
      have HK := Lib.hid (show pwOk m n = false from by unfold pwOk; simp [hl])
      have HV := Lib.hid (show pwV m n = [] from by unfold pwV; rw [HK.out]; rfl)
      rw [HK.out]
      clear h1 hm sm hn
      have Hi := Lib.hid (l1In_no (a := n) (b := 0) (c := 30) w (by omega))
      clear hl
      go_enter Try.func45, Try.ntmps45
      go_wp2_with fail
      refine Hc.out.mono ?_
      rintro e w' ⟨rfl, rfl⟩
      go_wp2_with fail
      refine Hi.out.mono ?_
      rintro e w' ⟨rfl, rfl⟩
      go_wp2
      go_ret2
      exact ⟨_, rfl, by rw [HV.out]; exact New.empty w (Nat.le_refl _), (Below.refl _ _).alloc (Nat.le_refl _) _⟩

set_option maxHeartbeats 400000 in
theorem TraceOf_c {w : World} {va : Value} {m : List (List Int)} (h1 : Tab w va m) (hm : isMat m = true) :
    Calls Try.prog 30 #[va] w fun e w' => e = .returned (.int .i64 (trF m m.length)) ∧ w = w' := by
  have sm := isMat_sq hm
  have Hi := Lib.hid (spec_IsMatrix_c h1)
  rw [hm] at Hi
  have Hb := Lib.hid (fun k hk => trF_bd hm k hk)
  obtain ⟨n, hn⟩ : ∃ n, m.length = n := ⟨_, rfl⟩
  rw [hn] at sm Hb ⊢
  have hn0 : 0 < n := by omega
  have hn9 : n ≤ 9 := by omega
  obtain ⟨ab, ao, ac, rfl, hab, hae⟩ := h1.entAt sm.1.1 sm.1.2 hn0
  clear h1 hm sm hn
  go_enter Try.func30, Try.ntmps30
  go_wp2_with fail
  refine Hi.out.mono ?_
  rintro e w' ⟨rfl, rfl⟩
  go_wp2
  go_loopg [3, 4] n (fun g s ii wr => ∃ (k : Nat), ii = .int .i64 k ∧ s = .int .i64 (trF m k) ∧ k + g = n ∧ w = wr)
  case atStart => exact ⟨0, rfl, rfl, by omega, rfl⟩
  case round =>
    obtain ⟨k, rfl, rfl, hk, rfl⟩ := hrel
    by_cases hlt : k < n
    · obtain ⟨rb, ro, rc, hA1, hrb, _, hA2⟩ := hae.at hlt hn0
      have hA3 := hA2 k hlt
      have hb1 := Hb.out k (by omega)
      have hb2 := Hb.out (k + 1) (by omega)
      have e : trF m (k + 1) = trF m k + ent m k k := rfl
      obtain ⟨X, hX⟩ : ∃ X, X = trF m k := ⟨_, rfl⟩
      obtain ⟨Y, hY⟩ : ∃ Y, Y = ent m k k := ⟨_, rfl⟩
      rw [e] at hb2
      rw [← hX, ← hY] at hb2
      rw [← hX] at hb1
      rw [← hY] at hA3
      have HX := Lib.hid hX
      have HY := Lib.hid hY
      rw [← hX]
      obtain ⟨hb11, hb12⟩ := hb1
      obtain ⟨hb21, hb22⟩ := hb2
      have hk9 : (k : Int) ≤ 9 := by omega
      clear hX hY hA2 hae e
      go_wp2
      go_roundg (n - (k + 1))
      case measure => omega
      case rel => exact ⟨k + 1, by go_num, by show _ = Value.int .i64 (trF m k + ent m k k); rw [← HX.out, ← HY.out], by omega, rfl⟩
    · have e : k = n := by omega
      subst e
      go_wp2
      go_ret
      exact ⟨rfl, rfl⟩


end Go.Proofs.Ytlkgkfgpnnahdaa
end

section
/-
  JoinOut, the program's: two vertices joined to which the same arcs lead.
-/
namespace Go.Proofs.Ytlkgkfgpnnahdaa
open Go.RowKit Go.Deep Go.Sd

def skip (j k : Nat) : Nat := if k < j then k else k + 1
def cnt (j k : Nat) : Nat := if k ≤ j then k else k - 1
theorem skip_cnt {j k : Nat} (h : k ≠ j) : skip j (cnt j k) = k := by unfold skip cnt; split <;> split <;> omega
theorem cnt_same (j : Nat) : cnt j (j + 1) = cnt j j := by unfold cnt; split <;> split <;> omega
theorem cnt_next {j k : Nat} (h : k ≠ j) : cnt j (k + 1) = cnt j k + 1 := by unfold cnt; split <;> split <;> omega
theorem cnt_lt {j k n : Nat} (h : k ≠ j) (hj : j < n) (hk : k < n) : cnt j k < n - 1 := by unfold cnt; split <;> omega
theorem cnt_full {j n : Nat} (hj : j < n) : cnt j n = n - 1 := by unfold cnt; split <;> omega
theorem cnt_le (j k : Nat) : cnt j k ≤ k := by unfold cnt; split <;> omega
theorem cnt_zero (j : Nat) : cnt j 0 = 0 := by unfold cnt; split <;> omega
theorem skip_lt {j k n : Nat} (hk : k < n - 1) : skip j k < n := by unfold skip; split <;> omega

def joinE (m : List (List Int)) (i j k l : Nat) : Int := if k = i then ent m k l + ent m j l else ent m k l
def joinT (m : List (List Int)) (i j n : Nat) : List (List Int) := tabOf (n - 1) (n - 1) (fun k l => joinE m i j (skip j k) (skip j l))
def colsEq (m : List (List Int)) (i j n : Nat) : Bool := allF (fun k => decide (ent m k i = ent m k j)) n 0
def joinOk (m : List (List Int)) (i j : Int) : Bool :=
  isMat m && decide (0 ≤ i ∧ i < j ∧ j < m.length) && colsEq m i.toNat j.toNat m.length && isMat (joinT m i.toNat j.toNat m.length)
def joinV (m : List (List Int)) (i j : Int) : List (List Int) := if joinOk m i j = true then joinT m i.toNat j.toNat m.length else []

theorem joinE_bd {m : List (List Int)} (h : isMat m = true) {j k l : Nat} (hk : k < m.length) (hj : j < m.length) (hl : l < m.length) :
    0 ≤ ent m k l ∧ ent m k l ≤ 1000000 ∧ 0 ≤ ent m j l ∧ ent m j l ≤ 1000000 := by
  obtain ⟨r, hr, hx⟩ := ent_mem (isMat_sq h).1.2 hk hl
  obtain ⟨r2, hr2, hx2⟩ := ent_mem (isMat_sq h).1.2 hj hl
  have h1 := isMat_bd h r hr _ hx
  have h2 := isMat_bd h r2 hr2 _ hx2
  omega

set_option maxHeartbeats 2000000 in
set_option maxRecDepth 100000 in
theorem impl_JoinOut_c {w : World} {va : Value} {m : List (List Int)} {i j : Int} (h1 : Tab w va m) :
    Calls Try.prog 11 #[va, .int .i64 i, .int .i64 j] w (Makes2 (OTab 3 33) w (joinV m i j) (joinOk m i j)) := by
  have hsa := h1.shape
  obtain ⟨aa, ac, rfl, _, _, _⟩ := hsa
  have Hc := Lib.hid (impl_IsMatrix_c h1)
  cases hm : isMat m with
  | false =>
    have HK := Lib.hid (show joinOk m i j = false from by unfold joinOk; rw [hm]; rfl)
    have HV := Lib.hid (show joinV m i j = [] from by unfold joinV; rw [HK.out]; rfl)
    rw [hm] at Hc
    rw [HK.out]
    clear h1 hm
    go_enter Try.func11, Try.ntmps11
    go_wp2_with fail
    refine Hc.out.mono ?_
    rintro e w' ⟨rfl, rfl⟩
    go_wp2
    go_ret2
    exact ⟨_, rfl, by rw [HV.out]; exact New.nil _ _, Below.refl _ _⟩
  | true =>
    rw [hm] at Hc
    have sm := isMat_sq hm
    by_cases hij : 0 ≤ i ∧ i < j ∧ j < m.length
    · obtain ⟨I, rfl⟩ : ∃ I : Nat, i = (I : Int) := ⟨i.toNat, by omega⟩
      obtain ⟨J, rfl⟩ : ∃ J : Nat, j = (J : Int) := ⟨j.toNat, by omega⟩
      have HO := Lib.hid (show joinOk m I J = (colsEq m I J m.length && isMat (joinT m I J m.length)) from by unfold joinOk; rw [hm]; simp [hij])
      have HV := Lib.hid (show joinV m I J = if joinOk m I J = true then joinT m I J m.length else [] from rfl)
      generalize joinOk m I J = ok at HO HV ⊢
      generalize joinV m I J = rv at HV ⊢
      have Hbd := Lib.hid (fun k l (hk : k < m.length) (hl : l < m.length) => joinE_bd (j := J) hm hk (by omega) hl)
      clear hm
      generalize hn : m.length = n at *
      have hIJ : I < J := by omega
      have hJn : J < n := by omega
      have hn0 : 0 < n := by omega
      have hn9 : n ≤ 9 := sm.2.2
      have dI : decide ((I : Int) < 0) = false := by simp
      have dJ : decide (J ≤ I) = false := by simp; omega
      have dn : decide (n ≤ J) = false := by simp; omega
      obtain ⟨ab, ao, ac', hv1, hab, hae⟩ := h1.entAt hn sm.1.2 hn0
      obtain ⟨rfl, rfl⟩ : aa = some ⟨ab, ao, none⟩ ∧ ac = ac' := by simp at hv1; exact hv1
      clear h1 sm hij hv1 hn
      go_enter Try.func11, Try.ntmps11
      go_wp2_with fail
      refine Hc.out.mono ?_
      rintro e w' ⟨rfl, rfl⟩
      go_wp2
      go_loopg [36] n (fun g ii wr => ∃ (k : Nat), ii = .int .i64 k ∧ k + g = n ∧ Hid (colsEq m I J n = allF (fun k => decide (ent m k I = ent m k J)) g k) ∧ Drawn w wr)
      case atStart => exact ⟨0, rfl, by omega, Lib.hid rfl, Drawn.refl _⟩
      case round =>
        obtain ⟨k, rfl, hk, H, hdr⟩ := hrel
        obtain ⟨g, hg⟩ : ∃ g, g = gk := ⟨_, rfl⟩
        rw [← hg] at H hk
        by_cases hlt : k < n
        · obtain ⟨g', rfl⟩ : ∃ t, g = t + 1 := ⟨g - 1, by omega⟩
          have H1 := Lib.hid (show colsEq m I J n = if decide (ent m k I = ent m k J) = true then allF (fun k => decide (ent m k I = ent m k J)) g' (k + 1) else false from H.out)
          obtain ⟨rb, ro, rc, hA1, hrb, _, hA2⟩ := hae.at hlt hn0
          have hA3 := hA2 I (by omega)
          have hA4 := hA2 J (by omega)
          have hrule := hdr.cell
          have hi1 : (I : Int) < (n : Int) := by omega
          have hi2 : (J : Int) < (n : Int) := by omega
          clear H hA2 hae
          by_cases he : ent m k I = ent m k J
          · have H2 := Lib.hid (show colsEq m I J n = allF (fun k => decide (ent m k I = ent m k J)) g' (k + 1) from by rw [H1.out]; simp [he])
            have t1 : (ent m k I != ent m k J) = false := by simp [he]
            clear he H1
            go_wp2
            go_quiet (fail)
            go_wp2
            go_roundg g'
            case measure => omega
            case rel => exact ⟨k + 1, by go_num, by omega, H2, hdr.drewN _⟩
          · have HK := Lib.hid (show ok = false from by rw [HO.out, H1.out]; simp [he])
            have HV2 := Lib.hid (show rv = [] from by rw [HV.out, HK.out]; rfl)
            have t1 : (ent m k I != ent m k J) = true := by simp [he]
            clear he H1
            go_wp2
            go_quiet (fail)
            go_wp2
            go_ret2
            exact ⟨_, by rw [HK.out]; rfl, by rw [HV2.out]; exact New.nil _ _, (hdr.drewN _).below _⟩
        · have e : g = 0 := by omega
          subst e
          have HC := Lib.hid (show colsEq m I J n = true from H.out)
          have e2 : n = k := by omega
          subst e2
          clear hk
          obtain ⟨wa, rfl⟩ : ∃ wa : World, wa = wr := ⟨_, rfl⟩
          have hba : Below w.heap.size w wa := hdr.below _
          have hza : w.heap.size = wa.heap.size := by rw [hdr.heap]
          have hae1 := hae.frame hab hba
          have hab1 : ab < wa.heap.size := by omega
          have Hba := Lib.hid hba
          have Hza := Lib.hid hza
          clear H hdr hae hba hza hg
          go_wp2
          go_loopg [10, 53] n (fun g v ii wr => ∃ (k : Nat), ii = .int .i64 k ∧ k + g = n ∧ New (OTab 3 33) wa.heap.size wr v ((joinT m I J n).take (cnt J k)) ∧ Below wa.heap.size wa wr)
          case atStart => exact ⟨0, rfl, by omega, by rw [cnt_zero]; exact New.empty wa (Nat.le_refl _), (Below.refl _ _).alloc (Nat.le_refl _) _⟩
          case round =>
            obtain ⟨k, rfl, hk, hnew, hbel⟩ := hrel
            obtain ⟨wo, rfl⟩ : ∃ wo : World, wo = wr := ⟨_, rfl⟩
            have hle := hbel.size
            have hrule := hbel.rule
            have Hn := Lib.hid hnew
            have Hb := Lib.hid hbel
            have hlk : ((joinT m I J n).take (cnt J k)).length ≤ n := by have := cnt_le J k; rw [List.length_take]; omega
            have Hlk := Lib.hid hlk
            clear hnew hbel hlk
            by_cases hlt : k < n
            · obtain ⟨rb, ro, rc, hA1, hrb, _, hA2⟩ := hae1.at hlt hn0
              by_cases hkJ : k = J
              · have Hs := Lib.hid (cnt_same J)
                have t1 : ((k : Int) == (J : Int)) = true := by simp [hkJ]
                have HkJ := Lib.hid hkJ
                clear hkJ hA2 hae1
                go_wp2
                go_roundg (n - (k + 1))
                case measure => omega
                case rel => exact ⟨k + 1, by go_num, by omega, by have e := HkJ.out; have h := Hn.out; rw [e] at h ⊢; rw [Hs.out]; exact h, Hb.out⟩
              · have t1 : ((k : Int) == (J : Int)) = false := by simp; omega
                have HkJ := Lib.hid hkJ
                obtain ⟨sb, so, sc, hJ1, hsb, _, hJ2⟩ := hae1.at hJn hn0
                clear hkJ hae1
                go_wp2
                clear hrule
                go_loopg [13, 64] n (fun g lv ll wr => ∃ (l : Nat), ll = .int .i64 l ∧ l + g = n ∧ New (OInts 3) wo.heap.size wr lv ((rowOf' (n - 1) (fun l' => joinE m I J k (skip J l'))).take (cnt J l)) ∧ Below wo.heap.size wo wr)
                case atStart => exact ⟨0, rfl, by omega, by rw [cnt_zero]; exact New.empty wo (Nat.le_refl _), (Below.refl _ _).alloc (Nat.le_refl _) _⟩
                case round =>
                  obtain ⟨l, rfl, hl, hnew, hbel⟩ := hrel
                  obtain ⟨wi, rfl⟩ : ∃ wi : World, wi = wr := ⟨_, rfl⟩
                  have hle2 := hbel.size
                  have hrule2 : ∀ b o, b < wa.heap.size → wi.cell? ⟨b, o, none⟩ = wa.cell? ⟨b, o, none⟩ := fun b o hb => (hbel.rule b o (by omega)).trans (Hb.out.rule b o hb)
                  have Hn2 := Lib.hid hnew
                  have Hb2 := Lib.hid hbel
                  have Hll := Lib.hid (show ((rowOf' (n - 1) (fun l' => joinE m I J k (skip J l'))).take (cnt J l)).length ≤ n from by have := cnt_le J l; rw [List.length_take]; omega)
                  clear hnew hbel
                  by_cases hlt2 : l < n
                  · have hA3 := hA2 l hlt2
                    have hJ3 := hJ2 l hlt2
                    obtain ⟨hd1, hd2, hd3, hd4⟩ := Hbd.out k l hlt hlt2
                    by_cases hlJ : l = J
                    · have Hs := Lib.hid (cnt_same J)
                      have t2 : ((l : Int) == (J : Int)) = true := by simp [hlJ]
                      have HlJ := Lib.hid hlJ
                      clear hlJ hA2 hJ2
                      go_wp2
                      go_roundg (n - (l + 1))
                      case measure => omega
                      case rel => exact ⟨l + 1, by go_num, by omega, by have e := HlJ.out; have h := Hn2.out; rw [e] at h ⊢; rw [Hs.out]; exact h, Hb2.out⟩
                    · have t2 : ((l : Int) == (J : Int)) = false := by simp; omega
                      have hat : (rowOf' (n - 1) (fun l' => joinE m I J k (skip J l')))[cnt J l]? = some (joinE m I J k l) := by rw [rowOf_at (cnt_lt hlJ hJn hlt2), skip_cnt hlJ]
                      have Hs := Lib.hid (show _ = _ from take_snoc' hat)
                      rw [← cnt_next hlJ] at Hs
                      by_cases hkI : k = I
                      · have t3 : ((k : Int) == (I : Int)) = true := by simp [hkI]
                        have He := Lib.hid (show joinE m I J k l = ent m k l + ent m J l from by unfold joinE; rw [if_pos hkI])
                        generalize ent m k l = X at *
                        generalize ent m J l = Y at *
                        rw [He.out] at Hs
                        clear hlJ hat hA2 hJ2 hkI
                        go_wp2_with (at_builtin; refine wpl_push (w0 := wi) (lo := wo.heap.size) (y := X + Y) OIntR.kept rfl (.tmp 81) (.tmp 91) 33 rfl 3 (.int .i64 0) 8 Try.underlying33 infoI rfl Hn2.out hle2 ((Below.refl _ _).alloc (Nat.le_refl _) _) ⟨[], ⟨rfl, rfl⟩, by simp [Fresh]⟩ (bb := wi.heap.size) (c := 1) (by simp) rfl rfl (by have := Hll.out; omega) (by have := Hll.out; omega) ?_; intro v1 w1 hn1 _ _ hb1)
                        go_roundg (n - (l + 1))
                        case measure => omega
                        case rel => exact ⟨l + 1, by go_num, by omega, by rw [← Hs.out]; exact hn1, Hb2.out.trans hb1⟩
                      · have t3 : ((k : Int) == (I : Int)) = false := by simp; omega
                        have He := Lib.hid (show joinE m I J k l = ent m k l from by unfold joinE; rw [if_neg hkI])
                        generalize ent m k l = X at *
                        rw [He.out] at Hs
                        clear hlJ hat hA2 hJ2 hkI
                        go_wp2_with (at_builtin; refine wpl_push (w0 := wi) (lo := wo.heap.size) (y := X) OIntR.kept rfl (.tmp 69) (.tmp 71) 33 rfl 3 (.int .i64 0) 8 Try.underlying33 infoI rfl Hn2.out hle2 ((Below.refl _ _).alloc (Nat.le_refl _) _) ⟨[], ⟨rfl, rfl⟩, by simp [Fresh]⟩ (bb := wi.heap.size) (c := 1) (by simp) rfl rfl (by have := Hll.out; omega) (by have := Hll.out; omega) ?_; intro v1 w1 hn1 _ _ hb1)
                        go_roundg (n - (l + 1))
                        case measure => omega
                        case rel => exact ⟨l + 1, by go_num, by omega, by rw [← Hs.out]; exact hn1, Hb2.out.trans hb1⟩
                  · have e : l = n := by omega
                    subst e
                    have hr := Hn2.out
                    rw [cnt_full hJn, rowOf_full] at hr
                    obtain ⟨xa, xn, xc, rfl⟩ := hr.slice
                    have Hr := Lib.hid hr
                    have hat : (joinT m I J l)[cnt J k]? = some (rowOf' (l - 1) (fun l' => joinE m I J k (skip J l'))) := by unfold joinT; rw [tabOf_at (cnt_lt HkJ.out hJn hlt), skip_cnt HkJ.out]
                    have Hs := Lib.hid (show _ = _ from take_snoc' hat)
                    rw [← cnt_next HkJ.out] at Hs
                    clear hr hat hA2 hJ2
                    go_wp2_with (at_builtin; refine wpl_push (w0 := wo) (lo := wa.heap.size) (OInts.kept _) rfl (.tmp 94) (.tmp 96) 24 rfl 33 (.slice none 0 0) 24 Try.underlying24 infoR rfl Hn.out hle (Hb2.out.alloc hle2 _) (New.keep (OInts.kept _) Hr.out ((Below.refl wi.heap.size _).alloc (Nat.le_refl _) _) (Nat.le_refl _)) (bb := wi.heap.size) (c := 1) (by simp) rfl rfl (by have := Hlk.out; omega) (by have := Hlk.out; omega) ?_; intro v1 w1 hn1 _ _ hb1)
                    go_roundg (l - (k + 1))
                    case measure => omega
                    case rel => exact ⟨k + 1, by go_num, by omega, by rw [← Hs.out]; exact hn1, Hb.out.trans hb1⟩
            · have e : k = n := by omega
              subst e
              have hr := Hn.out
              rw [cnt_full hJn, show (joinT m I J k).take (k - 1) = joinT m I J k from tabOf_full] at hr
              have Hr := Lib.hid hr
              clear hr hae1 hrule
              cases hp : isMat (joinT m I J k) with
              | false =>
                have HK := Lib.hid (show ok = false from by rw [HO.out, hp]; simp)
                have HV2 := Lib.hid (show rv = [] from by rw [HV.out, HK.out]; rfl)
                have Hch := Lib.hid (checked_no Hr.out.tab hp)
                clear hp
                go_wp2_with fail
                refine Hch.out.mono ?_
                rintro e w' ⟨rfl, rfl⟩
                go_wp2
                go_ret2
                exact ⟨_, by rw [HK.out]; rfl, by rw [HV2.out]; exact New.nil _ _, Hba.out.trans (Hb.out.mono (by have := Hza.out; omega))⟩
              | true =>
                have HK := Lib.hid (show ok = true from by rw [HO.out, hp, HC.out]; rfl)
                have HV2 := Lib.hid (show rv = joinT m I J k from by rw [HV.out, HK.out]; rfl)
                have Hch := Lib.hid (checked_yes Hr.out.tab hp)
                clear hp
                go_wp2_with fail
                refine Hch.out.mono ?_
                rintro e w' ⟨rfl, rfl⟩
                go_wp2
                go_ret2
                exact ⟨_, by rw [HK.out]; rfl, by rw [HV2.out]; exact Hr.out.mono (by have := Hza.out; omega), Hba.out.trans (Hb.out.mono (by have := Hza.out; omega))⟩
    · have HK := Lib.hid (show joinOk m i j = false from by unfold joinOk; simp [hij])
      have HV := Lib.hid (show joinV m i j = [] from by unfold joinV; rw [HK.out]; rfl)
      rw [HK.out]
      clear h1 hm sm
      by_cases h0 : i < 0
      · clear hij
        go_enter Try.func11, Try.ntmps11
        go_wp2_with fail
        refine Hc.out.mono ?_
        rintro e w' ⟨rfl, rfl⟩
        go_wp2
        go_ret2
        exact ⟨_, rfl, by rw [HV.out]; exact New.nil _ _, Below.refl _ _⟩
      by_cases h1 : j ≤ i
      · clear hij
        go_enter Try.func11, Try.ntmps11
        go_wp2_with fail
        refine Hc.out.mono ?_
        rintro e w' ⟨rfl, rfl⟩
        go_wp2
        go_ret2
        exact ⟨_, rfl, by rw [HV.out]; exact New.nil _ _, Below.refl _ _⟩
      have h2 : (m.length : Int) ≤ j := by omega
      clear hij
      go_enter Try.func11, Try.ntmps11
      go_wp2_with fail
      refine Hc.out.mono ?_
      rintro e w' ⟨rfl, rfl⟩
      go_wp2
      go_ret2
      exact ⟨_, rfl, by rw [HV.out]; exact New.nil _ _, Below.refl _ _⟩
end Go.Proofs.Ytlkgkfgpnnahdaa
end
