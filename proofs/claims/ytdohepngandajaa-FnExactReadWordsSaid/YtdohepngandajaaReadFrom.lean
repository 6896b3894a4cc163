/-
  ReadFrom and ReadsWord, both sides.
-/
import Derived.Test.YtdohepngandajaaRows
import Derived.Test.YtdohepngandajaaBase
import Derived.Test.YtdohepngandajaaMoeb
import Derived.Test.YtdohepngandajaaLab
import Derived.Test.YtdohepngandajaaLabC
import Derived.Test.YtdohepngandajaaLabM
import Derived.Test.YtdohepngandajaaLabV
import Derived.Test.YtdohepngandajaaLabVS
import Derived.Test.YtdohepngandajaaWord
import Derived.Test.YtdohepngandajaaRead
import Derived.IntWalk
import Derived.Deep.RegionHeld3
import Derived.Deep.DeepCutAuto
namespace Go.Proofs.Ytdohepngandajaa
open Go.RowKit Go.Deep Go.Sd

/-- All states. -/
def allN (S : Int) : Nat := 2 ^ S.toNat - 1
theorem shl_one (p : Nat) (h : p ≤ 12) : ∃ P : Nat, 2 ^ p = P ∧ 1 ≤ P ∧ P ≤ 4096 ∧ wrap64 ((2 : Int) ^ p) = (P : Int) := by
  have h1 : 2 ^ p ≤ 2 ^ 12 := Nat.pow_le_pow_right (by decide) h
  have h0 : 0 < 2 ^ p := Nat.pow_pos (by decide)
  refine ⟨2 ^ p, rfl, h0, h1, ?_⟩
  rw [show ((2 : Int) ^ p) = ((2 ^ p : Nat) : Int) by simp]
  generalize 2 ^ p = P at h0 h1 ⊢
  exact IntWalk.wrap64_in _ (by omega)
theorem allN_lt {S : Int} (h : S ≤ 12) : allN S < 4096 := by
  have h1 : 2 ^ S.toNat ≤ 2 ^ 12 := Nat.pow_le_pow_right (by decide) (by omega)
  have h0 : 0 < 2 ^ S.toNat := Nat.pow_pos (by decide)
  unfold allN
  omega
def readFromM (l : Lb) (set : Int) (s : ByteArray) : Int :=
  if (isLab l && (decide (0 ≤ set ∧ set ≤ (allN l.2.1 : Int)) && wordM l.1 s)) = true then (readB l.2.2 s.data.toList set.toNat : Int) else -1
def readsM (l : Lb) (s : ByteArray) : Bool := isLab l && (wordM l.1 s && decide (0 < readB l.2.2 s.data.toList (allN l.2.1)))
theorem wordM_ge {k : Int} {s : ByteArray} (h : wordM k s = true) : ∀ c, c ∈ s.data.toList → 97 ≤ c.toNat := by
  unfold wordM at h
  rw [Bool.and_eq_true, Bool.and_eq_true] at h
  exact fun c hc => (letB_ge h.2.2 c hc).1
set_option maxHeartbeats 400000 in
theorem impl_all_c {w : World} {v : Value} {l : Lb} (h : LabR w v l) (h1 : 1 ≤ l.2.1) (h2 : l.2.1 ≤ 12) :
    Calls Try.prog 82 #[v] w fun e w' => e = .returned (.int .i64 (allN l.2.1)) ∧ Below w.heap.size w w' := by
  obtain ⟨L, S, xs⟩ := l
  obtain ⟨va, rfl, _⟩ := h
  simp only at h1 h2
  obtain ⟨p, rfl⟩ := Int.eq_ofNat_of_zero_le (show 0 ≤ S by omega)
  obtain ⟨P, hP, hP1, hP2, hw⟩ := shl_one p (by omega)
  have H := Lib.hid (show allN (p : Int) = P - 1 from by unfold allN; rw [show (p : Int).toNat = p from rfl, hP])
  clear hP
  go_enter Try.func82, Try.ntmps82
  go_wp2
  go_ret
  exact ⟨by simp only [H.out]; rw [show ((P - 1 : Nat) : Int) = (P : Int) - 1 by omega]; rfl, (Below.refl _ _).alloc (Nat.le_refl _) _⟩
set_option maxHeartbeats 1000000 in
set_option maxRecDepth 10000 in
theorem spec_ReadsWord_c {w : World} {v : Value} {l : Lb} (h : LabR w v l) {s : ByteArray} (hs : s.size ≤ maxLen) :
    Calls Try.prog 77 #[v, .string s] w fun e w' => e = .returned (.bool (readsM l s)) ∧ Below w.heap.size w w' := by
  have H1 := Lib.hid (fun w1 (hb : Below w.heap.size w w1) => spec_IsLabels_c (LabR.frame _ _ _ _ h hb))
  have Hfr := Lib.hid (fun w1 (hb : Below w.heap.size w w1) => LabR.frame _ _ _ _ h hb)
  have H0 := Lib.hid (show readsM l s = (isLab l && (wordM l.1 s && decide (0 < readB l.2.2 s.data.toList (allN l.2.1)))) from rfl)
  generalize readsM l s = T at H0 ⊢
  have Hok := Lib.hid (fun h => isLab_ok (l := l) h)
  generalize hil : isLab l = il at H0 H1 Hok
  clear hil
  obtain ⟨L, S, xs⟩ := l
  obtain ⟨va, rfl, _, a, c, rfl, _, _, _, _⟩ := h
  have Hwd := Lib.hid (fun w1 => spec_IsWord_c L s w1 hs)
  have Hs := Lib.hid hs
  clear hs
  simp only at *
  generalize hn : xs.length = n at *
  clear hn
  generalize hwb : wordM L s = wb at Hwd H0
  clear hwb
  cases il with
  | false =>
    have HF := Lib.hid (show T = false from by rw [H0.out]; rfl)
    clear H0 Hok Hfr
    go_enter Try.func77, Try.ntmps77
    go_wp2_with fail
    obtain ⟨w1, ex, A0, c0, c1, c2, m1⟩ := boxA3_ex w 28 (.int .i64 L) (.int .i64 S) (.slice a n c)
    change Calls Try.prog _ _ (w.alloc (.cells #[.int .i64 L, .int .i64 S, .slice a n c] 28)) _
    rw [ex]
    clear ex
    refine (H1.out _ A0).mono ?_
    rintro e w2 ⟨rfl, hb⟩
    replace c0 := (hb.cell (p := ⟨w.heap.size, 0, none⟩) m1).trans c0
    replace c1 := (hb.cell (p := ⟨w.heap.size, 1, none⟩) m1).trans c1
    replace c2 := (hb.cell (p := ⟨w.heap.size, 2, none⟩) m1).trans c2
    replace m1 := Nat.lt_of_lt_of_le m1 hb.size
    replace A0 := A0.trans (hb.mono A0.size)
    clear hb
    go_wp2
    go_ret
    exact ⟨by rw [HF.out]; rfl, A0⟩
  | true =>
  obtain ⟨ho, hS1, hS2, hL1, hL2⟩ := Hok.out rfl
  have Hrd := Lib.hid (fun w1 (hb : Below w.heap.size w w1) => spec_read_c (Hfr.out w1 hb) ho hS2 (allN_lt hS2) Hs.out)
  simp only at *
  clear Hok Hfr ho
  obtain ⟨p, rfl⟩ := Int.eq_ofNat_of_zero_le (show 0 ≤ S by omega)
  obtain ⟨P, hP, hP1, hP2, hw⟩ := shl_one p (by omega)
  have Ha := Lib.hid (show allN (p : Int) = P - 1 from by unfold allN; rw [show (p : Int).toNat = p from rfl, hP])
  rw [Ha.out] at H0 Hrd
  clear hP Ha
  generalize readB xs s.data.toList (P - 1) = r at H0 Hrd
  have hcP : ((P - 1 : Nat) : Int) = (P : Int) - 1 := by omega
  rw [hcP] at Hrd
  clear hcP
  cases wb with
  | false =>
    have HF := Lib.hid (show T = false from by rw [H0.out]; rfl)
    clear H0 Hrd
    go_enter Try.func77, Try.ntmps77
    go_wp2_with fail
    obtain ⟨w1, ex, A0, c0, c1, c2, m1⟩ := boxA3_ex w 28 (.int .i64 L) (.int .i64 p) (.slice a n c)
    change Calls Try.prog _ _ (w.alloc (.cells #[.int .i64 L, .int .i64 p, .slice a n c] 28)) _
    rw [ex]
    clear ex
    refine (H1.out _ A0).mono ?_
    rintro e w2 ⟨rfl, hb⟩
    replace c0 := (hb.cell (p := ⟨w.heap.size, 0, none⟩) m1).trans c0
    replace c1 := (hb.cell (p := ⟨w.heap.size, 1, none⟩) m1).trans c1
    replace c2 := (hb.cell (p := ⟨w.heap.size, 2, none⟩) m1).trans c2
    replace m1 := Nat.lt_of_lt_of_le m1 hb.size
    replace A0 := A0.trans (hb.mono A0.size)
    clear hb
    go_wp2_with fail
    refine (Hwd.out _).mono ?_
    rintro e w' ⟨rfl, rfl⟩
    go_wp2
    go_ret
    exact ⟨by rw [HF.out]; rfl, A0⟩
  | true =>
    have HF := Lib.hid (show T = decide (0 < r) from by rw [H0.out]; rfl)
    clear H0
    go_enter Try.func77, Try.ntmps77
    go_wp2_with fail
    obtain ⟨w1, ex, A0, c0, c1, c2, m1⟩ := boxA3_ex w 28 (.int .i64 L) (.int .i64 p) (.slice a n c)
    change Calls Try.prog _ _ (w.alloc (.cells #[.int .i64 L, .int .i64 p, .slice a n c] 28)) _
    rw [ex]
    clear ex
    refine (H1.out _ A0).mono ?_
    rintro e w2 ⟨rfl, hb⟩
    replace c0 := (hb.cell (p := ⟨w.heap.size, 0, none⟩) m1).trans c0
    replace c1 := (hb.cell (p := ⟨w.heap.size, 1, none⟩) m1).trans c1
    replace c2 := (hb.cell (p := ⟨w.heap.size, 2, none⟩) m1).trans c2
    replace m1 := Nat.lt_of_lt_of_le m1 hb.size
    replace A0 := A0.trans (hb.mono A0.size)
    clear hb
    go_wp2_with fail
    refine (Hwd.out _).mono ?_
    rintro e w' ⟨rfl, rfl⟩
    go_wp2_with fail
    refine (Hrd.out _ A0).mono ?_
    rintro e w3 ⟨rfl, hb⟩
    replace c0 := (hb.cell (p := ⟨w.heap.size, 0, none⟩) m1).trans c0
    replace c1 := (hb.cell (p := ⟨w.heap.size, 1, none⟩) m1).trans c1
    replace c2 := (hb.cell (p := ⟨w.heap.size, 2, none⟩) m1).trans c2
    replace m1 := Nat.lt_of_lt_of_le m1 hb.size
    replace A0 := A0.trans (hb.mono A0.size)
    clear hb
    go_wp2
    go_ret
    exact ⟨by rw [HF.out]; rfl, A0⟩
end Go.Proofs.Ytdohepngandajaa
