/-
  WordRank and IsSynchronizing, both sides; SyncState, the reference's.
-/
import Derived.Test.YtdohepngandajaaDoorRows
import Derived.Test.YtdohepngandajaaDoorBase
import Derived.Test.YtdohepngandajaaDoorLab
import Derived.Test.YtdohepngandajaaDoorLabC
import Derived.Test.YtdohepngandajaaDoorLabM
import Derived.Test.YtdohepngandajaaDoorWord
import Derived.Test.YtdohepngandajaaDoorRead
import Derived.Test.YtdohepngandajaaDoorReadFrom
import Derived.Test.YtdohepngandajaaDoorResolv
import Derived.Test.YtdohepngandajaaDoorRank
import Derived.IntWalk
import Derived.Deep.RegionHeld3
import Derived.Deep.DeepCutAuto
namespace Go.Proofs.YtdohepngandajaaDoor
open Go.RowKit Go.Deep Go.Sd

def rankM (l : Lb) (s : ByteArray) : Int := if (resolvM l && wordM l.1 s) = true then (popN (readB l.2.2 s.data.toList (allN l.2.1)) : Int) else -1
def syncM (l : Lb) (s : ByteArray) : Int := if (resolvM l && wordM l.1 s) = true then onlyN (readB l.2.2 s.data.toList (allN l.2.1)) else -1
theorem resolvM_lab {l : Lb} (h : resolvM l = true) : isLab l = true := by
  unfold resolvM at h
  rw [Bool.and_eq_true] at h
  exact h.1
theorem rank_sync (l : Lb) (s : ByteArray) : decide (rankM l s = 1) = decide (0 ≤ syncM l s) := by
  unfold rankM syncM
  by_cases h : (resolvM l && wordM l.1 s) = true
  · rw [if_pos h, if_pos h]
    rw [Bool.and_eq_true] at h
    obtain ⟨ho, _, hS, _⟩ := isLab_ok (resolvM_lab h.1)
    have h1 := only_pop _ (readB_lt ho hS s.data.toList (allN l.2.1) (allN_lt hS))
    rw [← h1]
    exact decide_eq_decide.2 ⟨fun h => by omega, fun h => by omega⟩
  · rw [if_neg h, if_neg h]
    decide
theorem rankM_bd (l : Lb) (s : ByteArray) : -1 ≤ rankM l s ∧ rankM l s ≤ 12 := by
  unfold rankM
  split
  · have := popL_le 12 (readB l.2.2 s.data.toList (allN l.2.1)); unfold popN; omega
  · omega
theorem syncM_bd (l : Lb) (s : ByteArray) : -1 ≤ syncM l s ∧ syncM l s ≤ 12 := by
  unfold syncM
  split
  · have := onlyL_bd (readB l.2.2 s.data.toList (allN l.2.1)) 12 0; unfold onlyN; omega
  · omega
set_option maxHeartbeats 4000000 in
set_option maxRecDepth 10000 in
theorem impl_WordRank_c {w : World} {v : Value} {l : Lb} (h : LabR w v l) {s : ByteArray} (hs : s.size ≤ maxLen) :
    Calls Tryd.prog 41 #[v, .string s] w fun e w' => e = .returned (.int .i64 (rankM l s)) ∧ Below w.heap.size w w' := by
  have H1 := Lib.hid (fun w1 (hb : Below w.heap.size w w1) => impl_IsResolving_c (LabR.frame _ _ _ _ h hb))
  have Hfr := Lib.hid (fun w1 (hb : Below w.heap.size w w1) => LabR.frame _ _ _ _ h hb)
  have H0 := Lib.hid (show rankM l s = if (resolvM l && wordM l.1 s) = true then (popN (readB l.2.2 s.data.toList (allN l.2.1)) : Int) else -1 from rfl)
  generalize rankM l s = T at H0 ⊢
  have Hok := Lib.hid (fun h => isLab_ok (l := l) (resolvM_lab h))
  generalize hil : resolvM l = il at H0 H1 Hok
  clear hil
  have Hge := Lib.hid (fun h => wordM_ge (k := l.1) (s := s) h)
  have Hwd := Lib.hid (fun w1 => impl_IsWord_c l.1 s w1 hs)
  have Hs := Lib.hid hs
  clear hs
  generalize hwb : wordM l.1 s = wb at Hwd H0 Hge
  clear hwb
  cases il with
  | false =>
    have HF := Lib.hid (show T = -1 from by rw [H0.out]; rfl)
    clear H0 Hok Hfr
    obtain ⟨L, S, xs⟩ := l
    obtain ⟨va, rfl, _, a, c, rfl, _, _, _, _⟩ := h
    simp only at *
    generalize hn : xs.length = n at *
    clear hn
    go_enter Tryd.func41, Tryd.ntmps41
    go_wp2_with fail
    obtain ⟨w1, ex, A0, c0, c1, c2, m1⟩ := boxA3_ex w 29 (.int .i64 L) (.int .i64 S) (.slice a n c)
    change Calls Tryd.prog _ _ (w.alloc (.cells #[.int .i64 L, .int .i64 S, .slice a n c] 29)) _
    rw [ex]
    clear ex
    refine (H1.out _ A0).mono ?_
    rintro e w2 ⟨rfl, hb⟩
    replace c0 := (hb.cell (p := ⟨w.heap.size, 0, none⟩) m1).trans c0
    replace c1 := (hb.cell (p := ⟨w.heap.size, 1, none⟩) m1).trans c1
    replace c2 := (hb.cell (p := ⟨w.heap.size, 2, none⟩) m1).trans c2
    replace m1 := Nat.lt_of_lt_of_le m1 hb.size
    replace A0 := A0.trans (hb.mono A0.size)
    clear hb
    go_wp2
    go_ret
    exact ⟨by rw [HF.out]; rfl, A0⟩
  | true =>
  cases wb with
  | false =>
    have HF := Lib.hid (show T = -1 from by rw [H0.out]; rfl)
    clear H0 Hok Hfr Hge
    obtain ⟨L, S, xs⟩ := l
    obtain ⟨va, rfl, _, a, c, rfl, _, _, _, _⟩ := h
    simp only at *
    generalize hn : xs.length = n at *
    clear hn
    go_enter Tryd.func41, Tryd.ntmps41
    go_wp2_with fail
    obtain ⟨w1, ex, A0, c0, c1, c2, m1⟩ := boxA3_ex w 29 (.int .i64 L) (.int .i64 S) (.slice a n c)
    change Calls Tryd.prog _ _ (w.alloc (.cells #[.int .i64 L, .int .i64 S, .slice a n c] 29)) _
    rw [ex]
    clear ex
    refine (H1.out _ A0).mono ?_
    rintro e w2 ⟨rfl, hb⟩
    replace c0 := (hb.cell (p := ⟨w.heap.size, 0, none⟩) m1).trans c0
    replace c1 := (hb.cell (p := ⟨w.heap.size, 1, none⟩) m1).trans c1
    replace c2 := (hb.cell (p := ⟨w.heap.size, 2, none⟩) m1).trans c2
    replace m1 := Nat.lt_of_lt_of_le m1 hb.size
    replace A0 := A0.trans (hb.mono A0.size)
    clear hb
    go_wp2_with fail
    refine (Hwd.out _).mono ?_
    rintro e w' ⟨rfl, rfl⟩
    go_wp2
    go_ret
    exact ⟨by rw [HF.out]; rfl, A0⟩
  | true =>
    obtain ⟨ho, hS1, hS2, hL1, hL2⟩ := Hok.out rfl
    have Hrd := Lib.hid (fun w1 (hb : Below w.heap.size w w1) => impl_read_c (Hfr.out w1 hb) ho hS2 (allN_lt hS2) Hs.out (Hge.out rfl))
    have Hal := Lib.hid (fun w1 (hb : Below w.heap.size w w1) => impl_all_c (Hfr.out w1 hb) hS1 hS2)
    have Hr4 := readB_lt ho hS2 s.data.toList (allN l.2.1) (allN_lt hS2)
    have Hcn := Lib.hid (fun w1 => OnesCount_c _ Hr4 w1)
    have HT := Lib.hid (show T = (popN (readB l.2.2 s.data.toList (allN l.2.1)) : Int) from by rw [H0.out]; rfl)
    generalize readB l.2.2 s.data.toList (allN l.2.1) = r at *
    generalize popN r = z at *
    clear H0 Hok Hfr ho Hge
    obtain ⟨L, S, xs⟩ := l
    obtain ⟨va, rfl, _, a, c, rfl, _, _, _, _⟩ := h
    simp only at *
    generalize hn : xs.length = n at *
    clear hn
    generalize allN S = A at *
    have hur : IntKind.u64.wrap (r : Int) = (r : Int) := IntWalk.u64_in _ (by omega)
    go_enter Tryd.func41, Tryd.ntmps41
    go_wp2_with fail
    obtain ⟨w1, ex, A0, c0, c1, c2, m1⟩ := boxA3_ex w 29 (.int .i64 L) (.int .i64 S) (.slice a n c)
    change Calls Tryd.prog _ _ (w.alloc (.cells #[.int .i64 L, .int .i64 S, .slice a n c] 29)) _
    rw [ex]
    clear ex
    refine (H1.out _ A0).mono ?_
    rintro e w2 ⟨rfl, hb⟩
    replace c0 := (hb.cell (p := ⟨w.heap.size, 0, none⟩) m1).trans c0
    replace c1 := (hb.cell (p := ⟨w.heap.size, 1, none⟩) m1).trans c1
    replace c2 := (hb.cell (p := ⟨w.heap.size, 2, none⟩) m1).trans c2
    replace m1 := Nat.lt_of_lt_of_le m1 hb.size
    replace A0 := A0.trans (hb.mono A0.size)
    clear hb
    go_wp2_with fail
    refine (Hwd.out _).mono ?_
    rintro e w' ⟨rfl, rfl⟩
    go_wp2
    have hS0 : w2.cell? ⟨w.heap.size, 0, none⟩ = some (.int .i64 L) ∧ w2.cell? ⟨w.heap.size, 1, none⟩ = some (.int .i64 S) ∧ w2.cell? ⟨w.heap.size, 2, none⟩ = some (.slice a n c) := ⟨c0, c1, c2⟩
    have hSd : w2.drew.cell? ⟨w.heap.size, 0, none⟩ = some (.int .i64 L) ∧ w2.drew.cell? ⟨w.heap.size, 1, none⟩ = some (.int .i64 S) ∧ w2.drew.cell? ⟨w.heap.size, 2, none⟩ = some (.slice a n c) := hS0
    have HS := Lib.hid (fun (wz : World) (hb3 : Below w2.heap.size w2 wz) => (show wz.cell? ⟨w.heap.size, 0, none⟩ = some (.int .i64 L) ∧ wz.cell? ⟨w.heap.size, 1, none⟩ = some (.int .i64 S) ∧ wz.cell? ⟨w.heap.size, 2, none⟩ = some (.slice a n c) from ⟨(hb3.cell (p := ⟨w.heap.size, 0, none⟩) m1).trans c0, (hb3.cell (p := ⟨w.heap.size, 1, none⟩) m1).trans c1, (hb3.cell (p := ⟨w.heap.size, 2, none⟩) m1).trans c2⟩))
    have HA := Lib.hid (fun (wz : World) (hb3 : Below w2.heap.size w2 wz) => A0.trans (hb3.mono A0.size))
    have B1 := (Below.refl w2.heap.size w2).drew
    have HA1 := HA.out _ B1
    clear c0 c1 c2
    go_region_held3 (fun w' => w'.cell? ⟨w.heap.size, 0, none⟩ = some (.int .i64 L) ∧ w'.cell? ⟨w.heap.size, 1, none⟩ = some (.int .i64 S) ∧ w'.cell? ⟨w.heap.size, 2, none⟩ = some (.slice a n c))
      (first | with_reducible exact hS2 | with_reducible exact hS1 | with_reducible exact hSd | with_reducible exact hS0 | go_keep)
      ((first
        | (go_at_call 52; (with_reducible refine (Hcn.out _).mono ?_); rintro e w' ⟨rfl, rfl⟩)
        | (go_at_call 27; (with_reducible refine (Hrd.out _ HA2).mono ?_); rintro e wq3 ⟨rfl, hb⟩; have B3 := B2.trans (hb.mono B2.size); have hS2 := HS.out _ B3; have HA3 := HA.out _ B3; clear hb)
        | (go_at_call 28; (with_reducible refine (Hal.out _ HA1).mono ?_); rintro e wq2 ⟨rfl, hb⟩; have B2 := B1.trans (hb.mono B1.size); have hS1 := HS.out _ B2; have HA2 := HA.out _ B2; clear hb)
        | fail))
    go_wp2
    go_ret
    exact ⟨by rw [HT.out]; rfl, HA3⟩
set_option maxHeartbeats 4000000 in
set_option maxRecDepth 10000 in
theorem spec_SyncState_c {w : World} {v : Value} {l : Lb} (h : LabR w v l) {s : ByteArray} (hs : s.size ≤ maxLen) :
    Calls Tryd.prog 10 #[v, .string s] w fun e w' => e = .returned (.int .i64 (syncM l s)) ∧ Below w.heap.size w w' := by
  have H1 := Lib.hid (fun w1 (hb : Below w.heap.size w w1) => spec_IsResolving_c (LabR.frame _ _ _ _ h hb))
  have Hfr := Lib.hid (fun w1 (hb : Below w.heap.size w w1) => LabR.frame _ _ _ _ h hb)
  have H0 := Lib.hid (show syncM l s = if (resolvM l && wordM l.1 s) = true then (onlyN (readB l.2.2 s.data.toList (allN l.2.1)) : Int) else -1 from rfl)
  generalize syncM l s = T at H0 ⊢
  have Hok := Lib.hid (fun h => isLab_ok (l := l) (resolvM_lab h))
  generalize hil : resolvM l = il at H0 H1 Hok
  clear hil
  have Hge := Lib.hid (fun h => wordM_ge (k := l.1) (s := s) h)
  have Hwd := Lib.hid (fun w1 => spec_IsWord_c l.1 s w1 hs)
  have Hs := Lib.hid hs
  clear hs
  generalize hwb : wordM l.1 s = wb at Hwd H0 Hge
  clear hwb
  cases il with
  | false =>
    have HF := Lib.hid (show T = -1 from by rw [H0.out]; rfl)
    clear H0 Hok Hfr
    obtain ⟨L, S, xs⟩ := l
    obtain ⟨va, rfl, _, a, c, rfl, _, _, _, _⟩ := h
    simp only at *
    generalize hn : xs.length = n at *
    clear hn
    go_enter Tryd.func10, Tryd.ntmps10
    go_wp2_with fail
    obtain ⟨w1, ex, A0, c0, c1, c2, m1⟩ := boxA3_ex w 29 (.int .i64 L) (.int .i64 S) (.slice a n c)
    change Calls Tryd.prog _ _ (w.alloc (.cells #[.int .i64 L, .int .i64 S, .slice a n c] 29)) _
    rw [ex]
    clear ex
    refine (H1.out _ A0).mono ?_
    rintro e w2 ⟨rfl, hb⟩
    replace c0 := (hb.cell (p := ⟨w.heap.size, 0, none⟩) m1).trans c0
    replace c1 := (hb.cell (p := ⟨w.heap.size, 1, none⟩) m1).trans c1
    replace c2 := (hb.cell (p := ⟨w.heap.size, 2, none⟩) m1).trans c2
    replace m1 := Nat.lt_of_lt_of_le m1 hb.size
    replace A0 := A0.trans (hb.mono A0.size)
    clear hb
    go_wp2
    go_ret
    exact ⟨by rw [HF.out]; rfl, A0⟩
  | true =>
  cases wb with
  | false =>
    have HF := Lib.hid (show T = -1 from by rw [H0.out]; rfl)
    clear H0 Hok Hfr Hge
    obtain ⟨L, S, xs⟩ := l
    obtain ⟨va, rfl, _, a, c, rfl, _, _, _, _⟩ := h
    simp only at *
    generalize hn : xs.length = n at *
    clear hn
    go_enter Tryd.func10, Tryd.ntmps10
    go_wp2_with fail
    obtain ⟨w1, ex, A0, c0, c1, c2, m1⟩ := boxA3_ex w 29 (.int .i64 L) (.int .i64 S) (.slice a n c)
    change Calls Tryd.prog _ _ (w.alloc (.cells #[.int .i64 L, .int .i64 S, .slice a n c] 29)) _
    rw [ex]
    clear ex
    refine (H1.out _ A0).mono ?_
    rintro e w2 ⟨rfl, hb⟩
    replace c0 := (hb.cell (p := ⟨w.heap.size, 0, none⟩) m1).trans c0
    replace c1 := (hb.cell (p := ⟨w.heap.size, 1, none⟩) m1).trans c1
    replace c2 := (hb.cell (p := ⟨w.heap.size, 2, none⟩) m1).trans c2
    replace m1 := Nat.lt_of_lt_of_le m1 hb.size
    replace A0 := A0.trans (hb.mono A0.size)
    clear hb
    go_wp2_with fail
    refine (Hwd.out _).mono ?_
    rintro e w' ⟨rfl, rfl⟩
    go_wp2
    go_ret
    exact ⟨by rw [HF.out]; rfl, A0⟩
  | true =>
    obtain ⟨ho, hS1, hS2, hL1, hL2⟩ := Hok.out rfl
    have Hrd := Lib.hid (fun w1 (hb : Below w.heap.size w w1) => spec_read_c (Hfr.out w1 hb) ho hS2 (allN_lt hS2) Hs.out)
    have Hr4 := readB_lt ho hS2 s.data.toList (allN l.2.1) (allN_lt hS2)
    have Hcn := Lib.hid (fun w1 => l16Only_c _ Hr4 w1)
    have HT := Lib.hid (show T = (onlyN (readB l.2.2 s.data.toList (allN l.2.1)) : Int) from by rw [H0.out]; rfl)
    generalize readB l.2.2 s.data.toList (allN l.2.1) = r at *
    generalize onlyN r = z at *
    clear H0 Hok Hfr ho Hge
    obtain ⟨L, S, xs⟩ := l
    obtain ⟨va, rfl, _, a, c, rfl, _, _, _, _⟩ := h
    simp only at *
    generalize hn : xs.length = n at *
    clear hn
    obtain ⟨p, rfl⟩ := Int.eq_ofNat_of_zero_le (show 0 ≤ S by omega)
    obtain ⟨P, hP, hP1, hP2, hw⟩ := shl_one p (by omega)
    have Ha := Lib.hid (show allN (p : Int) = P - 1 from by unfold allN; rw [show (p : Int).toNat = p from rfl, hP])
    rw [Ha.out] at Hrd
    clear hP Ha
    have hcP : ((P - 1 : Nat) : Int) = (P : Int) - 1 := by omega
    rw [hcP] at Hrd
    clear hcP
    go_enter Tryd.func10, Tryd.ntmps10
    go_wp2_with fail
    obtain ⟨w1, ex, A0, c0, c1, c2, m1⟩ := boxA3_ex w 29 (.int .i64 L) (.int .i64 p) (.slice a n c)
    change Calls Tryd.prog _ _ (w.alloc (.cells #[.int .i64 L, .int .i64 p, .slice a n c] 29)) _
    rw [ex]
    clear ex
    refine (H1.out _ A0).mono ?_
    rintro e w2 ⟨rfl, hb⟩
    replace c0 := (hb.cell (p := ⟨w.heap.size, 0, none⟩) m1).trans c0
    replace c1 := (hb.cell (p := ⟨w.heap.size, 1, none⟩) m1).trans c1
    replace c2 := (hb.cell (p := ⟨w.heap.size, 2, none⟩) m1).trans c2
    replace m1 := Nat.lt_of_lt_of_le m1 hb.size
    replace A0 := A0.trans (hb.mono A0.size)
    clear hb
    go_wp2_with fail
    refine (Hwd.out _).mono ?_
    rintro e w' ⟨rfl, rfl⟩
    go_wp2_with fail
    refine (Hrd.out _ A0).mono ?_
    rintro e w3 ⟨rfl, hb⟩
    replace c0 := (hb.cell (p := ⟨w.heap.size, 0, none⟩) m1).trans c0
    replace c1 := (hb.cell (p := ⟨w.heap.size, 1, none⟩) m1).trans c1
    replace c2 := (hb.cell (p := ⟨w.heap.size, 2, none⟩) m1).trans c2
    replace m1 := Nat.lt_of_lt_of_le m1 hb.size
    replace A0 := A0.trans (hb.mono A0.size)
    clear hb
    go_wp2_with fail
    refine (Hcn.out _).mono ?_
    rintro e w' ⟨rfl, rfl⟩
    go_wp2
    go_ret
    exact ⟨by rw [HT.out]; rfl, A0⟩
set_option maxHeartbeats 400000 in
theorem impl_IsSynchronizing_c {w : World} {v : Value} {l : Lb} (h : LabR w v l) {s : ByteArray} (hs : s.size ≤ maxLen) :
    Calls Tryd.prog 25 #[v, .string s] w fun e w' => e = .returned (.bool (decide (rankM l s = 1))) ∧ Below w.heap.size w w' := by
  have H1 := Lib.hid (fun w1 (hb : Below w.heap.size w w1) => impl_WordRank_c (LabR.frame _ _ _ _ h hb) hs)
  have hbd := rankM_bd l s
  have H0 := Lib.hid (show decide (rankM l s = 1) = decide (rankM l s = 1) from rfl)
  obtain ⟨T, hT⟩ : ∃ T, T = decide (rankM l s = 1) := ⟨_, rfl⟩
  rw [← hT]
  replace H0 := Lib.hid (hT.trans H0.out)
  clear hT
  generalize rankM l s = r at H0 H1 hbd
  have Hs := Lib.hid hs
  clear hs
  obtain ⟨L, S, xs⟩ := l
  obtain ⟨va, rfl, _, a, c, rfl, _, _, _, _⟩ := h
  simp only at *
  generalize hn : xs.length = n at *
  clear hn
  by_cases hr : r = 1
  · have HF := Lib.hid (show T = true from by rw [H0.out, decide_eq_true hr])
    have t1 : (r == 1) = true := by simp [hr]
    go_enter Tryd.func25, Tryd.ntmps25
    go_wp2_with fail
    obtain ⟨w1, ex, A0, c0, c1, c2, m1⟩ := boxA3_ex w 29 (.int .i64 L) (.int .i64 S) (.slice a n c)
    change Calls Tryd.prog _ _ (w.alloc (.cells #[.int .i64 L, .int .i64 S, .slice a n c] 29)) _
    rw [ex]
    clear ex
    refine (H1.out _ A0).mono ?_
    rintro e w2 ⟨rfl, hb⟩
    replace A0 := A0.trans (hb.mono A0.size)
    clear hb H0 H1
    go_wp2
    go_ret
    exact ⟨by rw [HF.out]; rfl, A0⟩
  · have HF := Lib.hid (show T = false from by rw [H0.out, decide_eq_false hr])
    have t1 : (r == 1) = false := by simp [hr]
    go_enter Tryd.func25, Tryd.ntmps25
    go_wp2_with fail
    obtain ⟨w1, ex, A0, c0, c1, c2, m1⟩ := boxA3_ex w 29 (.int .i64 L) (.int .i64 S) (.slice a n c)
    change Calls Tryd.prog _ _ (w.alloc (.cells #[.int .i64 L, .int .i64 S, .slice a n c] 29)) _
    rw [ex]
    clear ex
    refine (H1.out _ A0).mono ?_
    rintro e w2 ⟨rfl, hb⟩
    replace A0 := A0.trans (hb.mono A0.size)
    clear hb H0 H1
    go_wp2
    go_ret
    exact ⟨by rw [HF.out]; rfl, A0⟩
end Go.Proofs.YtdohepngandajaaDoor
