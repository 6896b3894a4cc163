/-
  Laws for this claim's walks, contracts of the functions that it reaches.
-/
import Derived.Test.YtcilgihmaaobeaaGreatDoorFnLabelsM13
import Derived.Test.YtcilgihmaaobeaaGreatDoorFnLabelsM14
import Derived.Test.YtcilgihmaaobeaaGreatDoorFnLabelsM17
set_option linter.unusedVariables false
set_option linter.unusedSimpArgs false
section
namespace Go.Proofs.YtcilgihmaaobeaaGreatDoor
open Go.RowKit Go.Deep Go.Sd

/-- All states. -/
def allN (S : Int) : Nat := 2 ^ S.toNat - 1
theorem shl_one (p : Nat) (h : p ≤ 12) : ∃ P : Nat, 2 ^ p = P ∧ 1 ≤ P ∧ P ≤ 4096 ∧ wrap64 ((2 : Int) ^ p) = (P : Int) := by
  have h1 : 2 ^ p ≤ 2 ^ 12 := Nat.pow_le_pow_right (by decide) h
  have h0 : 0 < 2 ^ p := Nat.pow_pos (by decide)
  refine ⟨2 ^ p, rfl, h0, h1, ?_⟩
  rw [show ((2 : Int) ^ p) = ((2 ^ p : Nat) : Int) by simp]
  generalize 2 ^ p = P at h0 h1 ⊢
  exact IntWalk.wrap64_in _ (by omega)
theorem allN_lt {S : Int} (h : S ≤ 12) : allN S < 4096 := by
  have h1 : 2 ^ S.toNat ≤ 2 ^ 12 := Nat.pow_le_pow_right (by decide) (by omega)
  have h0 : 0 < 2 ^ S.toNat := Nat.pow_pos (by decide)
  unfold allN
  omega
def readFromM (l : Lb) (set : Int) (s : ByteArray) : Int :=
  if (isLab l && (decide (0 ≤ set ∧ set ≤ (allN l.2.1 : Int)) && wordM l.1 s)) = true then (readB l.2.2 s.data.toList set.toNat : Int) else -1
def readsM (l : Lb) (s : ByteArray) : Bool := isLab l && (wordM l.1 s && decide (0 < readB l.2.2 s.data.toList (allN l.2.1)))
theorem wordM_ge {k : Int} {s : ByteArray} (h : wordM k s = true) : ∀ c, c ∈ s.data.toList → 97 ≤ c.toNat := by
  unfold wordM at h
  rw [Bool.and_eq_true, Bool.and_eq_true] at h
  exact fun c hc => (letB_ge h.2.2 c hc).1
set_option maxHeartbeats 400000 in
theorem impl_all_c {w : World} {v : Value} {l : Lb} (h : LabR w v l) (h1 : 1 ≤ l.2.1) (h2 : l.2.1 ≤ 12) :
    Calls Tryz.prog 40 #[v] w fun e w' => e = .returned (.int .i64 (allN l.2.1)) ∧ Below w.heap.size w w' := by
  obtain ⟨L, S, xs⟩ := l
  obtain ⟨va, rfl, _⟩ := h
  simp only at h1 h2
  obtain ⟨p, rfl⟩ := Int.eq_ofNat_of_zero_le (show 0 ≤ S by omega)
  obtain ⟨P, hP, hP1, hP2, hw⟩ := shl_one p (by omega)
  have H := Lib.hid (show allN (p : Int) = P - 1 from by unfold allN; rw [show (p : Int).toNat = p from rfl, hP])
  clear hP
  go_enter Tryz.func40, Tryz.ntmps40
  go_wp2
  go_ret
  exact ⟨by simp only [H.out]; rw [show ((P - 1 : Nat) : Int) = (P : Int) - 1 by omega]; rfl, (Below.refl _ _).alloc (Nat.le_refl _) _⟩
set_option maxHeartbeats 1000000 in
set_option maxRecDepth 10000 in
theorem impl_ReadFrom_c {w : World} {v : Value} {l : Lb} (h : LabR w v l) {set : Int} (hI : I64 set) {s : ByteArray} (hs : s.size ≤ maxLen) :
    Calls Tryz.prog 20 #[v, .int .i64 set, .string s] w fun e w' => e = .returned (.int .i64 (readFromM l set s)) ∧ Below w.heap.size w w' := by
  have H1 := Lib.hid (fun w1 (hb : Below w.heap.size w w1) => impl_IsLabels_c (LabR.frame _ _ _ _ h hb))
  have Hfr := Lib.hid (fun w1 (hb : Below w.heap.size w w1) => LabR.frame _ _ _ _ h hb)
  have Hs := Lib.hid hs
  clear hs
  have H0 := Lib.hid (show readFromM l set s = if (isLab l && (decide (0 ≤ set ∧ set ≤ (allN l.2.1 : Int)) && wordM l.1 s)) = true then (readB l.2.2 s.data.toList set.toNat : Int) else -1 from rfl)
  generalize readFromM l set s = T at H0 ⊢
  have Hok := Lib.hid (fun h => isLab_ok (l := l) h)
  generalize hil : isLab l = il at H0 H1 Hok
  clear hil
  obtain ⟨L, S, xs⟩ := l
  obtain ⟨va, rfl, _, a, c, rfl, _, _, _, _⟩ := h
  simp only at *
  generalize hn : xs.length = n at *
  clear hn
  cases il with
  | false =>
    have HF := Lib.hid (show T = -1 from by rw [H0.out]; rfl)
    clear H0 Hok Hfr
    go_enter Tryz.func20, Tryz.ntmps20
    go_wp2_with fail
    obtain ⟨w1, ex, A0, c0, c1, c2, m1⟩ := boxA3_ex w 26 (.int .i64 L) (.int .i64 S) (.slice a n c)
    change Calls Tryz.prog _ _ (w.alloc (.cells #[.int .i64 L, .int .i64 S, .slice a n c] 26)) _
    rw [ex]
    clear ex
    refine (H1.out _ A0).mono ?_
    rintro e w2 ⟨rfl, hb⟩
    replace c0 := (hb.cell (p := ⟨w.heap.size, 0, none⟩) m1).trans c0
    replace c1 := (hb.cell (p := ⟨w.heap.size, 1, none⟩) m1).trans c1
    replace c2 := (hb.cell (p := ⟨w.heap.size, 2, none⟩) m1).trans c2
    replace m1 := Nat.lt_of_lt_of_le m1 hb.size
    replace A0 := A0.trans (hb.mono A0.size)
    clear hb
    go_wp2
    go_ret
    exact ⟨by rw [HF.out]; rfl, A0⟩
  | true =>
  obtain ⟨ho, hS1, hS2, hL1, hL2⟩ := Hok.out rfl
  have Hrd := Lib.hid (fun w1 (hb : Below w.heap.size w w1) q (hq : q < 4096) hg => impl_read_c (Hfr.out w1 hb) ho hS2 hq Hs.out hg)
  have Hal := Lib.hid (fun w1 (hb : Below w.heap.size w w1) => impl_all_c (Hfr.out w1 hb) hS1 hS2)
  have Hwd := Lib.hid (fun w1 => impl_IsWord_c L s w1 Hs.out)
  have Hlt := Lib.hid (allN_lt hS2)
  simp only at *
  clear Hok Hfr ho
  obtain ⟨p, rfl⟩ := Int.eq_ofNat_of_zero_le (show 0 ≤ S by omega)
  obtain ⟨P, hP, hP1, hP2, hw⟩ := shl_one p (by omega)
  have Ha := Lib.hid (show allN (p : Int) = P - 1 from by unfold allN; rw [show (p : Int).toNat = p from rfl, hP])
  rw [Ha.out] at H0 Hal
  clear hP Hlt Ha
  have hcP : ((P - 1 : Nat) : Int) = (P : Int) - 1 := by omega
  rw [hcP] at H0 Hal
  clear hcP
  by_cases n0 : set < 0
  · have HF := Lib.hid (show T = -1 from by rw [H0.out, if_neg (by rw [decide_eq_false (by omega)]; simp)])
    clear H0
    go_enter Tryz.func20, Tryz.ntmps20
    go_wp2_with fail
    obtain ⟨w1, ex, A0, c0, c1, c2, m1⟩ := boxA3_ex w 26 (.int .i64 L) (.int .i64 p) (.slice a n c)
    change Calls Tryz.prog _ _ (w.alloc (.cells #[.int .i64 L, .int .i64 p, .slice a n c] 26)) _
    rw [ex]
    clear ex
    refine (H1.out _ A0).mono ?_
    rintro e w2 ⟨rfl, hb⟩
    replace c0 := (hb.cell (p := ⟨w.heap.size, 0, none⟩) m1).trans c0
    replace c1 := (hb.cell (p := ⟨w.heap.size, 1, none⟩) m1).trans c1
    replace c2 := (hb.cell (p := ⟨w.heap.size, 2, none⟩) m1).trans c2
    replace m1 := Nat.lt_of_lt_of_le m1 hb.size
    replace A0 := A0.trans (hb.mono A0.size)
    clear hb
    go_wp2
    go_ret
    exact ⟨by rw [HF.out]; rfl, A0⟩
  by_cases n1 : (P : Int) - 1 < set
  · have HF := Lib.hid (show T = -1 from by rw [H0.out, if_neg (by rw [decide_eq_false (by omega)]; simp)])
    clear H0
    go_enter Tryz.func20, Tryz.ntmps20
    go_wp2_with fail
    obtain ⟨w1, ex, A0, c0, c1, c2, m1⟩ := boxA3_ex w 26 (.int .i64 L) (.int .i64 p) (.slice a n c)
    change Calls Tryz.prog _ _ (w.alloc (.cells #[.int .i64 L, .int .i64 p, .slice a n c] 26)) _
    rw [ex]
    clear ex
    refine (H1.out _ A0).mono ?_
    rintro e w2 ⟨rfl, hb⟩
    replace c0 := (hb.cell (p := ⟨w.heap.size, 0, none⟩) m1).trans c0
    replace c1 := (hb.cell (p := ⟨w.heap.size, 1, none⟩) m1).trans c1
    replace c2 := (hb.cell (p := ⟨w.heap.size, 2, none⟩) m1).trans c2
    replace m1 := Nat.lt_of_lt_of_le m1 hb.size
    replace A0 := A0.trans (hb.mono A0.size)
    clear hb
    go_wp2_with fail
    refine (Hal.out _ A0).mono ?_
    rintro e w3 ⟨rfl, hb⟩
    replace c0 := (hb.cell (p := ⟨w.heap.size, 0, none⟩) m1).trans c0
    replace c1 := (hb.cell (p := ⟨w.heap.size, 1, none⟩) m1).trans c1
    replace c2 := (hb.cell (p := ⟨w.heap.size, 2, none⟩) m1).trans c2
    replace m1 := Nat.lt_of_lt_of_le m1 hb.size
    replace A0 := A0.trans (hb.mono A0.size)
    clear hb
    go_wp2
    go_ret
    exact ⟨by rw [HF.out]; rfl, A0⟩
  obtain ⟨q, rfl⟩ := Int.eq_ofNat_of_zero_le (show 0 ≤ set by omega)
  have HT := Lib.hid (show T = if wordM L s = true then (readB xs s.data.toList q : Int) else -1 from by rw [H0.out, decide_eq_true (by omega)]; rfl)
  have Hge := Lib.hid (fun h => wordM_ge (k := L) (s := s) h)
  clear H0
  generalize wordM L s = wb at Hwd HT Hge
  cases wb with
  | false =>
    have HF := Lib.hid (show T = -1 from by rw [HT.out]; rfl)
    clear HT Hrd Hge
    go_enter Tryz.func20, Tryz.ntmps20
    go_wp2_with fail
    obtain ⟨w1, ex, A0, c0, c1, c2, m1⟩ := boxA3_ex w 26 (.int .i64 L) (.int .i64 p) (.slice a n c)
    change Calls Tryz.prog _ _ (w.alloc (.cells #[.int .i64 L, .int .i64 p, .slice a n c] 26)) _
    rw [ex]
    clear ex
    refine (H1.out _ A0).mono ?_
    rintro e w2 ⟨rfl, hb⟩
    replace c0 := (hb.cell (p := ⟨w.heap.size, 0, none⟩) m1).trans c0
    replace c1 := (hb.cell (p := ⟨w.heap.size, 1, none⟩) m1).trans c1
    replace c2 := (hb.cell (p := ⟨w.heap.size, 2, none⟩) m1).trans c2
    replace m1 := Nat.lt_of_lt_of_le m1 hb.size
    replace A0 := A0.trans (hb.mono A0.size)
    clear hb
    go_wp2_with fail
    refine (Hal.out _ A0).mono ?_
    rintro e w3 ⟨rfl, hb⟩
    replace c0 := (hb.cell (p := ⟨w.heap.size, 0, none⟩) m1).trans c0
    replace c1 := (hb.cell (p := ⟨w.heap.size, 1, none⟩) m1).trans c1
    replace c2 := (hb.cell (p := ⟨w.heap.size, 2, none⟩) m1).trans c2
    replace m1 := Nat.lt_of_lt_of_le m1 hb.size
    replace A0 := A0.trans (hb.mono A0.size)
    clear hb
    go_wp2_with fail
    refine (Hwd.out _).mono ?_
    rintro e w' ⟨rfl, rfl⟩
    go_wp2
    go_ret
    exact ⟨by rw [HF.out]; rfl, A0⟩
  | true =>
    have HF := Lib.hid (show T = (readB xs s.data.toList q : Int) from by rw [HT.out]; rfl)
    have Hr := Lib.hid (fun w1 hb => Hrd.out w1 hb q (by omega) (Hge.out rfl))
    generalize readB xs s.data.toList q = r at HF Hr
    clear HT Hrd Hge
    go_enter Tryz.func20, Tryz.ntmps20
    go_wp2_with fail
    obtain ⟨w1, ex, A0, c0, c1, c2, m1⟩ := boxA3_ex w 26 (.int .i64 L) (.int .i64 p) (.slice a n c)
    change Calls Tryz.prog _ _ (w.alloc (.cells #[.int .i64 L, .int .i64 p, .slice a n c] 26)) _
    rw [ex]
    clear ex
    refine (H1.out _ A0).mono ?_
    rintro e w2 ⟨rfl, hb⟩
    replace c0 := (hb.cell (p := ⟨w.heap.size, 0, none⟩) m1).trans c0
    replace c1 := (hb.cell (p := ⟨w.heap.size, 1, none⟩) m1).trans c1
    replace c2 := (hb.cell (p := ⟨w.heap.size, 2, none⟩) m1).trans c2
    replace m1 := Nat.lt_of_lt_of_le m1 hb.size
    replace A0 := A0.trans (hb.mono A0.size)
    clear hb
    go_wp2_with fail
    refine (Hal.out _ A0).mono ?_
    rintro e w3 ⟨rfl, hb⟩
    replace c0 := (hb.cell (p := ⟨w.heap.size, 0, none⟩) m1).trans c0
    replace c1 := (hb.cell (p := ⟨w.heap.size, 1, none⟩) m1).trans c1
    replace c2 := (hb.cell (p := ⟨w.heap.size, 2, none⟩) m1).trans c2
    replace m1 := Nat.lt_of_lt_of_le m1 hb.size
    replace A0 := A0.trans (hb.mono A0.size)
    clear hb
    go_wp2_with fail
    refine (Hwd.out _).mono ?_
    rintro e w' ⟨rfl, rfl⟩
    go_wp2_with fail
    refine (Hr.out _ A0).mono ?_
    rintro e w4 ⟨rfl, hb⟩
    replace c0 := (hb.cell (p := ⟨w.heap.size, 0, none⟩) m1).trans c0
    replace c1 := (hb.cell (p := ⟨w.heap.size, 1, none⟩) m1).trans c1
    replace c2 := (hb.cell (p := ⟨w.heap.size, 2, none⟩) m1).trans c2
    replace m1 := Nat.lt_of_lt_of_le m1 hb.size
    replace A0 := A0.trans (hb.mono A0.size)
    clear hb
    go_wp2
    go_ret
    exact ⟨by rw [HF.out]; rfl, A0⟩
set_option maxHeartbeats 1000000 in
set_option maxRecDepth 10000 in
theorem spec_ReadFrom_c {w : World} {v : Value} {l : Lb} (h : LabR w v l) {set : Int} (hI : I64 set) {s : ByteArray} (hs : s.size ≤ maxLen) :
    Calls Tryz.prog 21 #[v, .int .i64 set, .string s] w fun e w' => e = .returned (.int .i64 (readFromM l set s)) ∧ Below w.heap.size w w' := by
  have H1 := Lib.hid (fun w1 (hb : Below w.heap.size w w1) => spec_IsLabels_c (LabR.frame _ _ _ _ h hb))
  have Hfr := Lib.hid (fun w1 (hb : Below w.heap.size w w1) => LabR.frame _ _ _ _ h hb)
  have Hs := Lib.hid hs
  clear hs
  have H0 := Lib.hid (show readFromM l set s = if (isLab l && (decide (0 ≤ set ∧ set ≤ (allN l.2.1 : Int)) && wordM l.1 s)) = true then (readB l.2.2 s.data.toList set.toNat : Int) else -1 from rfl)
  generalize readFromM l set s = T at H0 ⊢
  have Hok := Lib.hid (fun h => isLab_ok (l := l) h)
  generalize hil : isLab l = il at H0 H1 Hok
  clear hil
  obtain ⟨L, S, xs⟩ := l
  obtain ⟨va, rfl, _, a, c, rfl, _, _, _, _⟩ := h
  simp only at *
  generalize hn : xs.length = n at *
  clear hn
  cases il with
  | false =>
    have HF := Lib.hid (show T = -1 from by rw [H0.out]; rfl)
    clear H0 Hok Hfr
    go_enter Tryz.func21, Tryz.ntmps21
    go_wp2_with fail
    obtain ⟨w1, ex, A0, c0, c1, c2, m1⟩ := boxA3_ex w 26 (.int .i64 L) (.int .i64 S) (.slice a n c)
    change Calls Tryz.prog _ _ (w.alloc (.cells #[.int .i64 L, .int .i64 S, .slice a n c] 26)) _
    rw [ex]
    clear ex
    refine (H1.out _ A0).mono ?_
    rintro e w2 ⟨rfl, hb⟩
    replace c0 := (hb.cell (p := ⟨w.heap.size, 0, none⟩) m1).trans c0
    replace c1 := (hb.cell (p := ⟨w.heap.size, 1, none⟩) m1).trans c1
    replace c2 := (hb.cell (p := ⟨w.heap.size, 2, none⟩) m1).trans c2
    replace m1 := Nat.lt_of_lt_of_le m1 hb.size
    replace A0 := A0.trans (hb.mono A0.size)
    clear hb
    go_wp2
    go_ret
    exact ⟨by rw [HF.out]; rfl, A0⟩
  | true =>
  obtain ⟨ho, hS1, hS2, hL1, hL2⟩ := Hok.out rfl
  have Hrd := Lib.hid (fun w1 (hb : Below w.heap.size w w1) q (hq : q < 4096) => spec_read_c (Hfr.out w1 hb) ho hS2 hq Hs.out )
  have Hwd := Lib.hid (fun w1 => spec_IsWord_c L s w1 Hs.out)
  have Hlt := Lib.hid (allN_lt hS2)
  simp only at *
  clear Hok Hfr ho
  obtain ⟨p, rfl⟩ := Int.eq_ofNat_of_zero_le (show 0 ≤ S by omega)
  obtain ⟨P, hP, hP1, hP2, hw⟩ := shl_one p (by omega)
  have Ha := Lib.hid (show allN (p : Int) = P - 1 from by unfold allN; rw [show (p : Int).toNat = p from rfl, hP])
  rw [Ha.out] at H0
  clear hP Hlt Ha
  have hcP : ((P - 1 : Nat) : Int) = (P : Int) - 1 := by omega
  rw [hcP] at H0
  clear hcP
  have Hin := Lib.hid (fun w1 => l1In_c set 0 ((P : Int) - 1) w1)
  by_cases n0 : set < 0
  · have HF := Lib.hid (show T = -1 from by rw [H0.out, if_neg (by rw [decide_eq_false (by omega)]; simp)])
    clear H0
    have hin : (decide (0 ≤ set) && decide (set ≤ (P : Int) - 1)) = false := by rw [decide_eq_false (show ¬ 0 ≤ set by omega)]; rfl
    rw [hin] at Hin
    clear hin
    go_enter Tryz.func21, Tryz.ntmps21
    go_wp2_with fail
    obtain ⟨w1, ex, A0, c0, c1, c2, m1⟩ := boxA3_ex w 26 (.int .i64 L) (.int .i64 p) (.slice a n c)
    change Calls Tryz.prog _ _ (w.alloc (.cells #[.int .i64 L, .int .i64 p, .slice a n c] 26)) _
    rw [ex]
    clear ex
    refine (H1.out _ A0).mono ?_
    rintro e w2 ⟨rfl, hb⟩
    replace c0 := (hb.cell (p := ⟨w.heap.size, 0, none⟩) m1).trans c0
    replace c1 := (hb.cell (p := ⟨w.heap.size, 1, none⟩) m1).trans c1
    replace c2 := (hb.cell (p := ⟨w.heap.size, 2, none⟩) m1).trans c2
    replace m1 := Nat.lt_of_lt_of_le m1 hb.size
    replace A0 := A0.trans (hb.mono A0.size)
    clear hb
    go_wp2_with fail
    refine (Hin.out _).mono ?_
    rintro e w' ⟨rfl, rfl⟩
    go_wp2
    go_ret
    exact ⟨by rw [HF.out]; rfl, A0⟩
  by_cases n1 : (P : Int) - 1 < set
  · have HF := Lib.hid (show T = -1 from by rw [H0.out, if_neg (by rw [decide_eq_false (by omega)]; simp)])
    clear H0
    have hin : (decide (0 ≤ set) && decide (set ≤ (P : Int) - 1)) = false := by rw [decide_eq_false (show ¬ set ≤ (P : Int) - 1 by omega)]; simp
    rw [hin] at Hin
    clear hin
    go_enter Tryz.func21, Tryz.ntmps21
    go_wp2_with fail
    obtain ⟨w1, ex, A0, c0, c1, c2, m1⟩ := boxA3_ex w 26 (.int .i64 L) (.int .i64 p) (.slice a n c)
    change Calls Tryz.prog _ _ (w.alloc (.cells #[.int .i64 L, .int .i64 p, .slice a n c] 26)) _
    rw [ex]
    clear ex
    refine (H1.out _ A0).mono ?_
    rintro e w2 ⟨rfl, hb⟩
    replace c0 := (hb.cell (p := ⟨w.heap.size, 0, none⟩) m1).trans c0
    replace c1 := (hb.cell (p := ⟨w.heap.size, 1, none⟩) m1).trans c1
    replace c2 := (hb.cell (p := ⟨w.heap.size, 2, none⟩) m1).trans c2
    replace m1 := Nat.lt_of_lt_of_le m1 hb.size
    replace A0 := A0.trans (hb.mono A0.size)
    clear hb
    go_wp2_with fail
    refine (Hin.out _).mono ?_
    rintro e w' ⟨rfl, rfl⟩
    go_wp2
    go_ret
    exact ⟨by rw [HF.out]; rfl, A0⟩
  obtain ⟨q, rfl⟩ := Int.eq_ofNat_of_zero_le (show 0 ≤ set by omega)
  have HT := Lib.hid (show T = if wordM L s = true then (readB xs s.data.toList q : Int) else -1 from by rw [H0.out, decide_eq_true (by omega)]; rfl)
  have Hge := Lib.hid (fun h => wordM_ge (k := L) (s := s) h)
  clear H0
  have hin : (decide ((0 : Int) ≤ (q : Int)) && decide ((q : Int) ≤ (P : Int) - 1)) = true := by rw [decide_eq_true (show (0 : Int) ≤ (q : Int) by omega), decide_eq_true (show (q : Int) ≤ (P : Int) - 1 by omega)]; rfl
  rw [hin] at Hin
  clear hin
  generalize wordM L s = wb at Hwd HT Hge
  cases wb with
  | false =>
    have HF := Lib.hid (show T = -1 from by rw [HT.out]; rfl)
    clear HT Hrd Hge
    go_enter Tryz.func21, Tryz.ntmps21
    go_wp2_with fail
    obtain ⟨w1, ex, A0, c0, c1, c2, m1⟩ := boxA3_ex w 26 (.int .i64 L) (.int .i64 p) (.slice a n c)
    change Calls Tryz.prog _ _ (w.alloc (.cells #[.int .i64 L, .int .i64 p, .slice a n c] 26)) _
    rw [ex]
    clear ex
    refine (H1.out _ A0).mono ?_
    rintro e w2 ⟨rfl, hb⟩
    replace c0 := (hb.cell (p := ⟨w.heap.size, 0, none⟩) m1).trans c0
    replace c1 := (hb.cell (p := ⟨w.heap.size, 1, none⟩) m1).trans c1
    replace c2 := (hb.cell (p := ⟨w.heap.size, 2, none⟩) m1).trans c2
    replace m1 := Nat.lt_of_lt_of_le m1 hb.size
    replace A0 := A0.trans (hb.mono A0.size)
    clear hb
    go_wp2_with fail
    refine (Hin.out _).mono ?_
    rintro e w' ⟨rfl, rfl⟩
    go_wp2_with fail
    refine (Hwd.out _).mono ?_
    rintro e w' ⟨rfl, rfl⟩
    go_wp2
    go_ret
    exact ⟨by rw [HF.out]; rfl, A0⟩
  | true =>
    have HF := Lib.hid (show T = (readB xs s.data.toList q : Int) from by rw [HT.out]; rfl)
    have Hr := Lib.hid (fun w1 hb => Hrd.out w1 hb q (by omega))
    generalize readB xs s.data.toList q = r at HF Hr
    clear HT Hrd Hge
    go_enter Tryz.func21, Tryz.ntmps21
    go_wp2_with fail
    obtain ⟨w1, ex, A0, c0, c1, c2, m1⟩ := boxA3_ex w 26 (.int .i64 L) (.int .i64 p) (.slice a n c)
    change Calls Tryz.prog _ _ (w.alloc (.cells #[.int .i64 L, .int .i64 p, .slice a n c] 26)) _
    rw [ex]
    clear ex
    refine (H1.out _ A0).mono ?_
    rintro e w2 ⟨rfl, hb⟩
    replace c0 := (hb.cell (p := ⟨w.heap.size, 0, none⟩) m1).trans c0
    replace c1 := (hb.cell (p := ⟨w.heap.size, 1, none⟩) m1).trans c1
    replace c2 := (hb.cell (p := ⟨w.heap.size, 2, none⟩) m1).trans c2
    replace m1 := Nat.lt_of_lt_of_le m1 hb.size
    replace A0 := A0.trans (hb.mono A0.size)
    clear hb
    go_wp2_with fail
    refine (Hin.out _).mono ?_
    rintro e w' ⟨rfl, rfl⟩
    go_wp2_with fail
    refine (Hwd.out _).mono ?_
    rintro e w' ⟨rfl, rfl⟩
    go_wp2_with fail
    refine (Hr.out _ A0).mono ?_
    rintro e w3 ⟨rfl, hb⟩
    replace c0 := (hb.cell (p := ⟨w.heap.size, 0, none⟩) m1).trans c0
    replace c1 := (hb.cell (p := ⟨w.heap.size, 1, none⟩) m1).trans c1
    replace c2 := (hb.cell (p := ⟨w.heap.size, 2, none⟩) m1).trans c2
    replace m1 := Nat.lt_of_lt_of_le m1 hb.size
    replace A0 := A0.trans (hb.mono A0.size)
    clear hb
    go_wp2
    go_ret
    exact ⟨by rw [HF.out]; rfl, A0⟩
set_option maxHeartbeats 1000000 in
set_option maxRecDepth 10000 in
theorem spec_ReadsWord_c {w : World} {v : Value} {l : Lb} (h : LabR w v l) {s : ByteArray} (hs : s.size ≤ maxLen) :
    Calls Tryz.prog 24 #[v, .string s] w fun e w' => e = .returned (.bool (readsM l s)) ∧ Below w.heap.size w w' := by
  have H1 := Lib.hid (fun w1 (hb : Below w.heap.size w w1) => spec_IsLabels_c (LabR.frame _ _ _ _ h hb))
  have Hfr := Lib.hid (fun w1 (hb : Below w.heap.size w w1) => LabR.frame _ _ _ _ h hb)
  have H0 := Lib.hid (show readsM l s = (isLab l && (wordM l.1 s && decide (0 < readB l.2.2 s.data.toList (allN l.2.1)))) from rfl)
  generalize readsM l s = T at H0 ⊢
  have Hok := Lib.hid (fun h => isLab_ok (l := l) h)
  generalize hil : isLab l = il at H0 H1 Hok
  clear hil
  obtain ⟨L, S, xs⟩ := l
  obtain ⟨va, rfl, _, a, c, rfl, _, _, _, _⟩ := h
  have Hwd := Lib.hid (fun w1 => spec_IsWord_c L s w1 hs)
  have Hs := Lib.hid hs
  clear hs
  simp only at *
  generalize hn : xs.length = n at *
  clear hn
  generalize hwb : wordM L s = wb at Hwd H0
  clear hwb
  cases il with
  | false =>
    have HF := Lib.hid (show T = false from by rw [H0.out]; rfl)
    clear H0 Hok Hfr
    go_enter Tryz.func24, Tryz.ntmps24
    go_wp2_with fail
    obtain ⟨w1, ex, A0, c0, c1, c2, m1⟩ := boxA3_ex w 26 (.int .i64 L) (.int .i64 S) (.slice a n c)
    change Calls Tryz.prog _ _ (w.alloc (.cells #[.int .i64 L, .int .i64 S, .slice a n c] 26)) _
    rw [ex]
    clear ex
    refine (H1.out _ A0).mono ?_
    rintro e w2 ⟨rfl, hb⟩
    replace c0 := (hb.cell (p := ⟨w.heap.size, 0, none⟩) m1).trans c0
    replace c1 := (hb.cell (p := ⟨w.heap.size, 1, none⟩) m1).trans c1
    replace c2 := (hb.cell (p := ⟨w.heap.size, 2, none⟩) m1).trans c2
    replace m1 := Nat.lt_of_lt_of_le m1 hb.size
    replace A0 := A0.trans (hb.mono A0.size)
    clear hb
    go_wp2
    go_ret
    exact ⟨by rw [HF.out]; rfl, A0⟩
  | true =>
  obtain ⟨ho, hS1, hS2, hL1, hL2⟩ := Hok.out rfl
  have Hrd := Lib.hid (fun w1 (hb : Below w.heap.size w w1) => spec_read_c (Hfr.out w1 hb) ho hS2 (allN_lt hS2) Hs.out)
  simp only at *
  clear Hok Hfr ho
  obtain ⟨p, rfl⟩ := Int.eq_ofNat_of_zero_le (show 0 ≤ S by omega)
  obtain ⟨P, hP, hP1, hP2, hw⟩ := shl_one p (by omega)
  have Ha := Lib.hid (show allN (p : Int) = P - 1 from by unfold allN; rw [show (p : Int).toNat = p from rfl, hP])
  rw [Ha.out] at H0 Hrd
  clear hP Ha
  generalize readB xs s.data.toList (P - 1) = r at H0 Hrd
  have hcP : ((P - 1 : Nat) : Int) = (P : Int) - 1 := by omega
  rw [hcP] at Hrd
  clear hcP
  cases wb with
  | false =>
    have HF := Lib.hid (show T = false from by rw [H0.out]; rfl)
    clear H0 Hrd
    go_enter Tryz.func24, Tryz.ntmps24
    go_wp2_with fail
    obtain ⟨w1, ex, A0, c0, c1, c2, m1⟩ := boxA3_ex w 26 (.int .i64 L) (.int .i64 p) (.slice a n c)
    change Calls Tryz.prog _ _ (w.alloc (.cells #[.int .i64 L, .int .i64 p, .slice a n c] 26)) _
    rw [ex]
    clear ex
    refine (H1.out _ A0).mono ?_
    rintro e w2 ⟨rfl, hb⟩
    replace c0 := (hb.cell (p := ⟨w.heap.size, 0, none⟩) m1).trans c0
    replace c1 := (hb.cell (p := ⟨w.heap.size, 1, none⟩) m1).trans c1
    replace c2 := (hb.cell (p := ⟨w.heap.size, 2, none⟩) m1).trans c2
    replace m1 := Nat.lt_of_lt_of_le m1 hb.size
    replace A0 := A0.trans (hb.mono A0.size)
    clear hb
    go_wp2_with fail
    refine (Hwd.out _).mono ?_
    rintro e w' ⟨rfl, rfl⟩
    go_wp2
    go_ret
    exact ⟨by rw [HF.out]; rfl, A0⟩
  | true =>
    have HF := Lib.hid (show T = decide (0 < r) from by rw [H0.out]; rfl)
    clear H0
    go_enter Tryz.func24, Tryz.ntmps24
    go_wp2_with fail
    obtain ⟨w1, ex, A0, c0, c1, c2, m1⟩ := boxA3_ex w 26 (.int .i64 L) (.int .i64 p) (.slice a n c)
    change Calls Tryz.prog _ _ (w.alloc (.cells #[.int .i64 L, .int .i64 p, .slice a n c] 26)) _
    rw [ex]
    clear ex
    refine (H1.out _ A0).mono ?_
    rintro e w2 ⟨rfl, hb⟩
    replace c0 := (hb.cell (p := ⟨w.heap.size, 0, none⟩) m1).trans c0
    replace c1 := (hb.cell (p := ⟨w.heap.size, 1, none⟩) m1).trans c1
    replace c2 := (hb.cell (p := ⟨w.heap.size, 2, none⟩) m1).trans c2
    replace m1 := Nat.lt_of_lt_of_le m1 hb.size
    replace A0 := A0.trans (hb.mono A0.size)
    clear hb
    go_wp2_with fail
    refine (Hwd.out _).mono ?_
    rintro e w' ⟨rfl, rfl⟩
    go_wp2_with fail
    refine (Hrd.out _ A0).mono ?_
    rintro e w3 ⟨rfl, hb⟩
    replace c0 := (hb.cell (p := ⟨w.heap.size, 0, none⟩) m1).trans c0
    replace c1 := (hb.cell (p := ⟨w.heap.size, 1, none⟩) m1).trans c1
    replace c2 := (hb.cell (p := ⟨w.heap.size, 2, none⟩) m1).trans c2
    replace m1 := Nat.lt_of_lt_of_le m1 hb.size
    replace A0 := A0.trans (hb.mono A0.size)
    clear hb
    go_wp2
    go_ret
    exact ⟨by rw [HF.out]; rfl, A0⟩
set_option maxHeartbeats 4000000 in
set_option maxRecDepth 10000 in
theorem impl_ReadsWord_c {w : World} {v : Value} {l : Lb} (h : LabR w v l) {s : ByteArray} (hs : s.size ≤ maxLen) :
    Calls Tryz.prog 23 #[v, .string s] w fun e w' => e = .returned (.bool (readsM l s)) ∧ Below w.heap.size w w' := by
  have H1 := Lib.hid (fun w1 (hb : Below w.heap.size w w1) => impl_IsLabels_c (LabR.frame _ _ _ _ h hb))
  have Hfr := Lib.hid (fun w1 (hb : Below w.heap.size w w1) => LabR.frame _ _ _ _ h hb)
  have H0 := Lib.hid (show readsM l s = (isLab l && (wordM l.1 s && decide (0 < readB l.2.2 s.data.toList (allN l.2.1)))) from rfl)
  generalize readsM l s = T at H0 ⊢
  have Hok := Lib.hid (fun h => isLab_ok (l := l) h)
  have Hrf := Lib.hid (fun (hi : isLab l = true) (h2 : l.2.1 ≤ 12) => show 0 < readFromM l (allN l.2.1 : Int) s ↔ (wordM l.1 s && decide (0 < readB l.2.2 s.data.toList (allN l.2.1))) = true from by
    unfold readFromM
    rw [hi, decide_eq_true (show (0 : Int) ≤ (allN l.2.1 : Int) ∧ (allN l.2.1 : Int) ≤ (allN l.2.1 : Int) from ⟨by omega, Int.le_refl _⟩)]
    rw [show ((allN l.2.1 : Nat) : Int).toNat = allN l.2.1 from rfl]
    cases wordM l.1 s <;> simp)
  have Hbd := Lib.hid (fun (h2 : l.2.1 ≤ 12) (hi : isLab l = true) => show -1 ≤ readFromM l (allN l.2.1 : Int) s ∧ readFromM l (allN l.2.1 : Int) s ≤ 4096 from by
    have h3 := readB_lt (isLab_ok hi).1 h2 s.data.toList (allN l.2.1) (allN_lt h2)
    unfold readFromM
    rw [show ((allN l.2.1 : Nat) : Int).toNat = allN l.2.1 from rfl]
    split <;> omega)
  generalize hil : isLab l = il at H0 H1 Hok Hrf Hbd
  clear hil
  have Hs := Lib.hid hs
  clear hs
  cases il with
  | false =>
    have HF := Lib.hid (show T = false from by rw [H0.out]; rfl)
    clear H0 Hok Hfr Hrf Hbd
    obtain ⟨L, S, xs⟩ := l
    obtain ⟨va, rfl, _, a, c, rfl, _, _, _, _⟩ := h
    simp only at *
    generalize hn : xs.length = n at *
    clear hn
    go_enter Tryz.func23, Tryz.ntmps23
    go_wp2
    obtain ⟨w1, ex, A0, c0, c1, c2, m1⟩ := boxA3_ex w 26 (.int .i64 L) (.int .i64 S) (.slice a n c)
    rw [ex]
    clear ex
    have HA := Lib.hid (fun (w2 : World) (hb3 : Below w1.heap.size w1 w2) => A0.trans (hb3.mono A0.size))
    have B1 := (Below.refl w1.heap.size w1).drew
    have HA1 := HA.out _ B1
    first
    | (go_region_with ((go_at_call 27; (with_reducible refine (H1.out _ HA1).mono ?_); rintro e w2 ⟨rfl, hb⟩; have B2 := B1.trans (hb.mono B1.size); have HA2 := HA.out _ B2; clear hb)))
    | fail
    all_goals (go_wp2; go_ret; exact ⟨by rw [HF.out]; rfl, HA2⟩)
  | true =>
  obtain ⟨ho, hS1, hS2, hL1, hL2⟩ := Hok.out rfl
  have Hal := Lib.hid (fun w1 (hb : Below w.heap.size w w1) => impl_all_c (Hfr.out w1 hb) hS1 hS2)
  have Hr := Lib.hid (fun w1 (hb : Below w.heap.size w w1) => impl_ReadFrom_c (Hfr.out w1 hb) (set := (allN l.2.1 : Int)) (by have := allN_lt hS2; unfold I64; omega) Hs.out)
  have hrf := Hrf.out rfl hS2
  have hbd := Hbd.out hS2 rfl
  have HT := Lib.hid (show T = (wordM l.1 s && decide (0 < readB l.2.2 s.data.toList (allN l.2.1))) from by rw [H0.out]; rfl)
  clear H0 Hrf Hbd Hok Hfr ho
  generalize readFromM l (allN l.2.1 : Int) s = r at Hr hrf hbd
  generalize (wordM l.1 s && decide (0 < readB l.2.2 s.data.toList (allN l.2.1))) = tb at HT hrf
  have Hrf := Lib.hid hrf
  clear hrf
  obtain ⟨L, S, xs⟩ := l
  obtain ⟨va, rfl, _, a, c, rfl, _, _, _, _⟩ := h
  simp only at *
  generalize hn : xs.length = n at *
  clear hn
  generalize allN S = A at *
  by_cases hr : 0 < r
  · have HF := Lib.hid (show T = true from by rw [HT.out]; exact Hrf.out.1 hr)
    have hd : decide ((0 : Int) < r) = true := decide_eq_true (by omega)
    clear HT Hrf
    go_enter Tryz.func23, Tryz.ntmps23
    go_wp2
    obtain ⟨w1, ex, A0, c0, c1, c2, m1⟩ := boxA3_ex w 26 (.int .i64 L) (.int .i64 S) (.slice a n c)
    rw [ex]
    clear ex
    have hS0 : w1.cell? ⟨w.heap.size, 0, none⟩ = some (.int .i64 L) ∧ w1.cell? ⟨w.heap.size, 1, none⟩ = some (.int .i64 S) ∧ w1.cell? ⟨w.heap.size, 2, none⟩ = some (.slice a n c) := ⟨c0, c1, c2⟩
    have hSd : w1.drew.cell? ⟨w.heap.size, 0, none⟩ = some (.int .i64 L) ∧ w1.drew.cell? ⟨w.heap.size, 1, none⟩ = some (.int .i64 S) ∧ w1.drew.cell? ⟨w.heap.size, 2, none⟩ = some (.slice a n c) := hS0
    have HS := Lib.hid (fun (w2 : World) (hb3 : Below w1.heap.size w1 w2) => (show w2.cell? ⟨w.heap.size, 0, none⟩ = some (.int .i64 L) ∧ w2.cell? ⟨w.heap.size, 1, none⟩ = some (.int .i64 S) ∧ w2.cell? ⟨w.heap.size, 2, none⟩ = some (.slice a n c) from ⟨(hb3.cell (p := ⟨w.heap.size, 0, none⟩) m1).trans c0, (hb3.cell (p := ⟨w.heap.size, 1, none⟩) m1).trans c1, (hb3.cell (p := ⟨w.heap.size, 2, none⟩) m1).trans c2⟩))
    have HA := Lib.hid (fun (w2 : World) (hb3 : Below w1.heap.size w1 w2) => A0.trans (hb3.mono A0.size))
    have B1 := (Below.refl w1.heap.size w1).drew
    have HA1 := HA.out _ B1
    clear c0 c1 c2
    go_region_held3 (fun w' => w'.cell? ⟨w.heap.size, 0, none⟩ = some (.int .i64 L) ∧ w'.cell? ⟨w.heap.size, 1, none⟩ = some (.int .i64 S) ∧ w'.cell? ⟨w.heap.size, 2, none⟩ = some (.slice a n c))
      (first | with_reducible exact hS3 | with_reducible exact hS2 | with_reducible exact hS1 | with_reducible exact hSd | with_reducible exact hS0 | go_keep)
      ((first
        | (go_at_call 20; (with_reducible refine (Hr.out _ HA3).mono ?_); rintro e w4 ⟨rfl, hb⟩; have B4 := B3.trans (hb.mono B3.size); have hS3 := HS.out _ B4; have HA4 := HA.out _ B4; clear hb)
        | (go_at_call 40; (with_reducible refine (Hal.out _ HA2).mono ?_); rintro e w3 ⟨rfl, hb⟩; have B3 := B2.trans (hb.mono B2.size); have hS2 := HS.out _ B3; have HA3 := HA.out _ B3; clear hb)
        | (go_at_call 27; (with_reducible refine (H1.out _ HA1).mono ?_); rintro e w2 ⟨rfl, hb⟩; have B2 := B1.trans (hb.mono B1.size); have hS1 := HS.out _ B2; have HA2 := HA.out _ B2; clear hb)
        | fail))
    all_goals (go_wp2; go_ret; exact ⟨by rw [HF.out]; rfl, HA4⟩)
  · have HF := Lib.hid (show T = false from by rw [HT.out]; exact Bool.eq_false_iff.2 (fun h => hr (Hrf.out.2 h)))
    have hd : decide ((0 : Int) < r) = false := decide_eq_false (by omega)
    clear HT Hrf
    go_enter Tryz.func23, Tryz.ntmps23
    go_wp2
    obtain ⟨w1, ex, A0, c0, c1, c2, m1⟩ := boxA3_ex w 26 (.int .i64 L) (.int .i64 S) (.slice a n c)
    rw [ex]
    clear ex
    have hS0 : w1.cell? ⟨w.heap.size, 0, none⟩ = some (.int .i64 L) ∧ w1.cell? ⟨w.heap.size, 1, none⟩ = some (.int .i64 S) ∧ w1.cell? ⟨w.heap.size, 2, none⟩ = some (.slice a n c) := ⟨c0, c1, c2⟩
    have hSd : w1.drew.cell? ⟨w.heap.size, 0, none⟩ = some (.int .i64 L) ∧ w1.drew.cell? ⟨w.heap.size, 1, none⟩ = some (.int .i64 S) ∧ w1.drew.cell? ⟨w.heap.size, 2, none⟩ = some (.slice a n c) := hS0
    have HS := Lib.hid (fun (w2 : World) (hb3 : Below w1.heap.size w1 w2) => (show w2.cell? ⟨w.heap.size, 0, none⟩ = some (.int .i64 L) ∧ w2.cell? ⟨w.heap.size, 1, none⟩ = some (.int .i64 S) ∧ w2.cell? ⟨w.heap.size, 2, none⟩ = some (.slice a n c) from ⟨(hb3.cell (p := ⟨w.heap.size, 0, none⟩) m1).trans c0, (hb3.cell (p := ⟨w.heap.size, 1, none⟩) m1).trans c1, (hb3.cell (p := ⟨w.heap.size, 2, none⟩) m1).trans c2⟩))
    have HA := Lib.hid (fun (w2 : World) (hb3 : Below w1.heap.size w1 w2) => A0.trans (hb3.mono A0.size))
    have B1 := (Below.refl w1.heap.size w1).drew
    have HA1 := HA.out _ B1
    clear c0 c1 c2
    go_region_held3 (fun w' => w'.cell? ⟨w.heap.size, 0, none⟩ = some (.int .i64 L) ∧ w'.cell? ⟨w.heap.size, 1, none⟩ = some (.int .i64 S) ∧ w'.cell? ⟨w.heap.size, 2, none⟩ = some (.slice a n c))
      (first | with_reducible exact hS3 | with_reducible exact hS2 | with_reducible exact hS1 | with_reducible exact hSd | with_reducible exact hS0 | go_keep)
      ((first
        | (go_at_call 20; (with_reducible refine (Hr.out _ HA3).mono ?_); rintro e w4 ⟨rfl, hb⟩; have B4 := B3.trans (hb.mono B3.size); have hS3 := HS.out _ B4; have HA4 := HA.out _ B4; clear hb)
        | (go_at_call 40; (with_reducible refine (Hal.out _ HA2).mono ?_); rintro e w3 ⟨rfl, hb⟩; have B3 := B2.trans (hb.mono B2.size); have hS2 := HS.out _ B3; have HA3 := HA.out _ B3; clear hb)
        | (go_at_call 27; (with_reducible refine (H1.out _ HA1).mono ?_); rintro e w2 ⟨rfl, hb⟩; have B2 := B1.trans (hb.mono B1.size); have hS1 := HS.out _ B2; have HA2 := HA.out _ B2; clear hb)
        | fail))
    all_goals (go_wp2; go_ret; exact ⟨by rw [HF.out]; rfl, HA4⟩)
end Go.Proofs.YtcilgihmaaobeaaGreatDoor
end
