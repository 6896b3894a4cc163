/-
  WordRank and IsSynchronizing, both sides; SyncState, the reference's.
-/
import Derived.Test.YtjgiobapdkdhpaaRows
import Derived.Test.YtjgiobapdkdhpaaBase
import Derived.Test.YtjgiobapdkdhpaaLab
import Derived.Test.YtjgiobapdkdhpaaLabC
import Derived.Test.YtjgiobapdkdhpaaLabM
import Derived.Test.YtjgiobapdkdhpaaWord
import Derived.Test.YtjgiobapdkdhpaaRead
import Derived.Test.YtjgiobapdkdhpaaReadFrom
import Derived.Test.YtjgiobapdkdhpaaResolv
import Derived.Test.YtjgiobapdkdhpaaRank
import Derived.IntWalk
import Derived.Deep.RegionHeld3
import Derived.Deep.DeepCutAuto
namespace Go.Proofs.Ytjgiobapdkdhpaa
open Go.RowKit Go.Deep Go.Sd

def rankM (l : Lb) (s : ByteArray) : Int := if (resolvM l && wordM l.1 s) = true then (popN (readB l.2.2 s.data.toList (allN l.2.1)) : Int) else -1
def syncM (l : Lb) (s : ByteArray) : Int := if (resolvM l && wordM l.1 s) = true then onlyN (readB l.2.2 s.data.toList (allN l.2.1)) else -1
theorem resolvM_lab {l : Lb} (h : resolvM l = true) : isLab l = true := by
  unfold resolvM at h
  rw [Bool.and_eq_true] at h
  exact h.1
theorem rank_sync (l : Lb) (s : ByteArray) : decide (rankM l s = 1) = decide (0 ≤ syncM l s) := by
  unfold rankM syncM
  by_cases h : (resolvM l && wordM l.1 s) = true
  · rw [if_pos h, if_pos h]
    rw [Bool.and_eq_true] at h
    obtain ⟨ho, _, hS, _⟩ := isLab_ok (resolvM_lab h.1)
    have h1 := only_pop _ (readB_lt ho hS s.data.toList (allN l.2.1) (allN_lt hS))
    rw [← h1]
    exact decide_eq_decide.2 ⟨fun h => by omega, fun h => by omega⟩
  · rw [if_neg h, if_neg h]
    decide
theorem rankM_bd (l : Lb) (s : ByteArray) : -1 ≤ rankM l s ∧ rankM l s ≤ 12 := by
  unfold rankM
  split
  · have := popL_le 12 (readB l.2.2 s.data.toList (allN l.2.1)); unfold popN; omega
  · omega
theorem syncM_bd (l : Lb) (s : ByteArray) : -1 ≤ syncM l s ∧ syncM l s ≤ 12 := by
  unfold syncM
  split
  · have := onlyL_bd (readB l.2.2 s.data.toList (allN l.2.1)) 12 0; unfold onlyN; omega
  · omega
set_option maxHeartbeats 4000000 in
set_option maxRecDepth 10000 in
theorem spec_SyncState_c {w : World} {v : Value} {l : Lb} (h : LabR w v l) {s : ByteArray} (hs : s.size ≤ maxLen) :
    Calls Try.prog 180 #[v, .string s] w fun e w' => e = .returned (.int .i64 (syncM l s)) ∧ Below w.heap.size w w' := by
  have H1 := Lib.hid (fun w1 (hb : Below w.heap.size w w1) => spec_IsResolving_c (LabR.frame _ _ _ _ h hb))
  have Hfr := Lib.hid (fun w1 (hb : Below w.heap.size w w1) => LabR.frame _ _ _ _ h hb)
  have H0 := Lib.hid (show syncM l s = if (resolvM l && wordM l.1 s) = true then (onlyN (readB l.2.2 s.data.toList (allN l.2.1)) : Int) else -1 from rfl)
  generalize syncM l s = T at H0 ⊢
  have Hok := Lib.hid (fun h => isLab_ok (l := l) (resolvM_lab h))
  generalize hil : resolvM l = il at H0 H1 Hok
  clear hil
  have Hge := Lib.hid (fun h => wordM_ge (k := l.1) (s := s) h)
  have Hwd := Lib.hid (fun w1 => spec_IsWord_c l.1 s w1 hs)
  have Hs := Lib.hid hs
  clear hs
  generalize hwb : wordM l.1 s = wb at Hwd H0 Hge
  clear hwb
  cases il with
  | false =>
    have HF := Lib.hid (show T = -1 from by rw [H0.out]; rfl)
    clear H0 Hok Hfr
    obtain ⟨L, S, xs⟩ := l
    obtain ⟨va, rfl, _, a, c, rfl, _, _, _, _⟩ := h
    simp only at *
    generalize hn : xs.length = n at *
    clear hn
    go_enter Try.func180, Try.ntmps180
    go_wp2_with fail
    obtain ⟨w1, ex, A0, c0, c1, c2, m1⟩ := boxA3_ex w 28 (.int .i64 L) (.int .i64 S) (.slice a n c)
    change Calls Try.prog _ _ (w.alloc (.cells #[.int .i64 L, .int .i64 S, .slice a n c] 28)) _
    rw [ex]
    clear ex
    refine (H1.out _ A0).mono ?_
    rintro e w2 ⟨rfl, hb⟩
    replace c0 := (hb.cell (p := ⟨w.heap.size, 0, none⟩) m1).trans c0
    replace c1 := (hb.cell (p := ⟨w.heap.size, 1, none⟩) m1).trans c1
    replace c2 := (hb.cell (p := ⟨w.heap.size, 2, none⟩) m1).trans c2
    replace m1 := Nat.lt_of_lt_of_le m1 hb.size
    replace A0 := A0.trans (hb.mono A0.size)
    clear hb
    go_wp2
    go_ret
    exact ⟨by rw [HF.out]; rfl, A0⟩
  | true =>
  cases wb with
  | false =>
    have HF := Lib.hid (show T = -1 from by rw [H0.out]; rfl)
    clear H0 Hok Hfr Hge
    obtain ⟨L, S, xs⟩ := l
    obtain ⟨va, rfl, _, a, c, rfl, _, _, _, _⟩ := h
    simp only at *
    generalize hn : xs.length = n at *
    clear hn
    go_enter Try.func180, Try.ntmps180
    go_wp2_with fail
    obtain ⟨w1, ex, A0, c0, c1, c2, m1⟩ := boxA3_ex w 28 (.int .i64 L) (.int .i64 S) (.slice a n c)
    change Calls Try.prog _ _ (w.alloc (.cells #[.int .i64 L, .int .i64 S, .slice a n c] 28)) _
    rw [ex]
    clear ex
    refine (H1.out _ A0).mono ?_
    rintro e w2 ⟨rfl, hb⟩
    replace c0 := (hb.cell (p := ⟨w.heap.size, 0, none⟩) m1).trans c0
    replace c1 := (hb.cell (p := ⟨w.heap.size, 1, none⟩) m1).trans c1
    replace c2 := (hb.cell (p := ⟨w.heap.size, 2, none⟩) m1).trans c2
    replace m1 := Nat.lt_of_lt_of_le m1 hb.size
    replace A0 := A0.trans (hb.mono A0.size)
    clear hb
    go_wp2_with fail
    refine (Hwd.out _).mono ?_
    rintro e w' ⟨rfl, rfl⟩
    go_wp2
    go_ret
    exact ⟨by rw [HF.out]; rfl, A0⟩
  | true =>
    obtain ⟨ho, hS1, hS2, hL1, hL2⟩ := Hok.out rfl
    have Hrd := Lib.hid (fun w1 (hb : Below w.heap.size w w1) => spec_read_c (Hfr.out w1 hb) ho hS2 (allN_lt hS2) Hs.out)
    have Hr4 := readB_lt ho hS2 s.data.toList (allN l.2.1) (allN_lt hS2)
    have Hcn := Lib.hid (fun w1 => l16Only_c _ Hr4 w1)
    have HT := Lib.hid (show T = (onlyN (readB l.2.2 s.data.toList (allN l.2.1)) : Int) from by rw [H0.out]; rfl)
    generalize readB l.2.2 s.data.toList (allN l.2.1) = r at *
    generalize onlyN r = z at *
    clear H0 Hok Hfr ho Hge
    obtain ⟨L, S, xs⟩ := l
    obtain ⟨va, rfl, _, a, c, rfl, _, _, _, _⟩ := h
    simp only at *
    generalize hn : xs.length = n at *
    clear hn
    obtain ⟨p, rfl⟩ := Int.eq_ofNat_of_zero_le (show 0 ≤ S by omega)
    obtain ⟨P, hP, hP1, hP2, hw⟩ := shl_one p (by omega)
    have Ha := Lib.hid (show allN (p : Int) = P - 1 from by unfold allN; rw [show (p : Int).toNat = p from rfl, hP])
    rw [Ha.out] at Hrd
    clear hP Ha
    have hcP : ((P - 1 : Nat) : Int) = (P : Int) - 1 := by omega
    rw [hcP] at Hrd
    clear hcP
    go_enter Try.func180, Try.ntmps180
    go_wp2_with fail
    obtain ⟨w1, ex, A0, c0, c1, c2, m1⟩ := boxA3_ex w 28 (.int .i64 L) (.int .i64 p) (.slice a n c)
    change Calls Try.prog _ _ (w.alloc (.cells #[.int .i64 L, .int .i64 p, .slice a n c] 28)) _
    rw [ex]
    clear ex
    refine (H1.out _ A0).mono ?_
    rintro e w2 ⟨rfl, hb⟩
    replace c0 := (hb.cell (p := ⟨w.heap.size, 0, none⟩) m1).trans c0
    replace c1 := (hb.cell (p := ⟨w.heap.size, 1, none⟩) m1).trans c1
    replace c2 := (hb.cell (p := ⟨w.heap.size, 2, none⟩) m1).trans c2
    replace m1 := Nat.lt_of_lt_of_le m1 hb.size
    replace A0 := A0.trans (hb.mono A0.size)
    clear hb
    go_wp2_with fail
    refine (Hwd.out _).mono ?_
    rintro e w' ⟨rfl, rfl⟩
    go_wp2_with fail
    refine (Hrd.out _ A0).mono ?_
    rintro e w3 ⟨rfl, hb⟩
    replace c0 := (hb.cell (p := ⟨w.heap.size, 0, none⟩) m1).trans c0
    replace c1 := (hb.cell (p := ⟨w.heap.size, 1, none⟩) m1).trans c1
    replace c2 := (hb.cell (p := ⟨w.heap.size, 2, none⟩) m1).trans c2
    replace m1 := Nat.lt_of_lt_of_le m1 hb.size
    replace A0 := A0.trans (hb.mono A0.size)
    clear hb
    go_wp2_with fail
    refine (Hcn.out _).mono ?_
    rintro e w' ⟨rfl, rfl⟩
    go_wp2
    go_ret
    exact ⟨by rw [HT.out]; rfl, A0⟩
set_option maxHeartbeats 400000 in
theorem spec_IsSynchronizing_c {w : World} {v : Value} {l : Lb} (h : LabR w v l) {s : ByteArray} (hs : s.size ≤ maxLen) :
    Calls Try.prog 123 #[v, .string s] w fun e w' => e = .returned (.bool (decide (rankM l s = 1))) ∧ Below w.heap.size w w' := by
  have H1 := Lib.hid (fun w1 (hb : Below w.heap.size w w1) => spec_SyncState_c (LabR.frame _ _ _ _ h hb) hs)
  have hbd := syncM_bd l s
  have H0 := Lib.hid (show decide (rankM l s = 1) = decide (0 ≤ syncM l s) from rank_sync l s)
  obtain ⟨T, hT⟩ : ∃ T, T = decide (rankM l s = 1) := ⟨_, rfl⟩
  rw [← hT]
  replace H0 := Lib.hid (hT.trans H0.out)
  clear hT
  generalize syncM l s = r at H0 H1 hbd
  have Hs := Lib.hid hs
  clear hs
  obtain ⟨L, S, xs⟩ := l
  obtain ⟨va, rfl, _, a, c, rfl, _, _, _, _⟩ := h
  simp only at *
  generalize hn : xs.length = n at *
  clear hn
  by_cases hr : 0 ≤ r
  · have HF := Lib.hid (show T = true from by rw [H0.out, decide_eq_true hr])
    have t1 : decide (0 ≤ r) = true := decide_eq_true (by omega)
    go_enter Try.func123, Try.ntmps123
    go_wp2_with fail
    obtain ⟨w1, ex, A0, c0, c1, c2, m1⟩ := boxA3_ex w 28 (.int .i64 L) (.int .i64 S) (.slice a n c)
    change Calls Try.prog _ _ (w.alloc (.cells #[.int .i64 L, .int .i64 S, .slice a n c] 28)) _
    rw [ex]
    clear ex
    refine (H1.out _ A0).mono ?_
    rintro e w2 ⟨rfl, hb⟩
    replace A0 := A0.trans (hb.mono A0.size)
    clear hb H0 H1
    go_wp2
    go_ret
    exact ⟨by rw [HF.out]; rfl, A0⟩
  · have HF := Lib.hid (show T = false from by rw [H0.out, decide_eq_false hr])
    have t1 : decide (0 ≤ r) = false := decide_eq_false (by omega)
    go_enter Try.func123, Try.ntmps123
    go_wp2_with fail
    obtain ⟨w1, ex, A0, c0, c1, c2, m1⟩ := boxA3_ex w 28 (.int .i64 L) (.int .i64 S) (.slice a n c)
    change Calls Try.prog _ _ (w.alloc (.cells #[.int .i64 L, .int .i64 S, .slice a n c] 28)) _
    rw [ex]
    clear ex
    refine (H1.out _ A0).mono ?_
    rintro e w2 ⟨rfl, hb⟩
    replace A0 := A0.trans (hb.mono A0.size)
    clear hb H0 H1
    go_wp2
    go_ret
    exact ⟨by rw [HF.out]; rfl, A0⟩
end Go.Proofs.Ytjgiobapdkdhpaa
