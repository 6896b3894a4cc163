/-
  Texts of this claim joined: laws for its walks, contracts of the functions that the law reaches.
-/
import Derived.Test.YtcilgihmaaobeaaDoorRows
import Derived.Test.YtcilgihmaaobeaaDoorFnSyncM1
import Derived.Test.YtcilgihmaaobeaaDoorFnSyncM3
import Derived.Test.YtcilgihmaaobeaaDoorFnSyncM5
import Derived.IntWalk
import Derived.Deep.RegionHeld3
import Derived.Deep.DeepCutAuto
import Derived.Test.YtcilgihmaaobeaaDoorFnSyncM2
import Derived.Test.YtcilgihmaaobeaaDoorFnSyncM4
import Derived.Laws.IdiomStrings
import Derived.Laws.BytesArg
set_option linter.unusedVariables false
set_option linter.unusedSimpArgs false
section
namespace Go.Proofs.YtcilgihmaaobeaaDoor
open Go.RowKit Go.Deep Go.Sd

def rankM (l : Lb) (s : ByteArray) : Int := if (resolvM l && wordM l.1 s) = true then (popN (readB l.2.2 s.data.toList (allN l.2.1)) : Int) else -1
def syncM (l : Lb) (s : ByteArray) : Int := if (resolvM l && wordM l.1 s) = true then onlyN (readB l.2.2 s.data.toList (allN l.2.1)) else -1
theorem resolvM_lab {l : Lb} (h : resolvM l = true) : isLab l = true := by
  unfold resolvM at h
  rw [Bool.and_eq_true] at h
  exact h.1
theorem rank_sync (l : Lb) (s : ByteArray) : decide (rankM l s = 1) = decide (0 ≤ syncM l s) := by
  unfold rankM syncM
  by_cases h : (resolvM l && wordM l.1 s) = true
  · rw [if_pos h, if_pos h]
    rw [Bool.and_eq_true] at h
    obtain ⟨ho, _, hS, _⟩ := isLab_ok (resolvM_lab h.1)
    have h1 := only_pop _ (readB_lt ho hS s.data.toList (allN l.2.1) (allN_lt hS))
    rw [← h1]
    exact decide_eq_decide.2 ⟨fun h => by omega, fun h => by omega⟩
  · rw [if_neg h, if_neg h]
    decide
theorem rankM_bd (l : Lb) (s : ByteArray) : -1 ≤ rankM l s ∧ rankM l s ≤ 12 := by
  unfold rankM
  split
  · have := popL_le 12 (readB l.2.2 s.data.toList (allN l.2.1)); unfold popN; omega
  · omega
theorem syncM_bd (l : Lb) (s : ByteArray) : -1 ≤ syncM l s ∧ syncM l s ≤ 12 := by
  unfold syncM
  split
  · have := onlyL_bd (readB l.2.2 s.data.toList (allN l.2.1)) 12 0; unfold onlyN; omega
  · omega
set_option maxHeartbeats 4000000 in
set_option maxRecDepth 10000 in
theorem impl_WordRank_c {w : World} {v : Value} {l : Lb} (h : LabR w v l) {s : ByteArray} (hs : s.size ≤ maxLen) :
    Calls Tryd.prog 16 #[v, .string s] w fun e w' => e = .returned (.int .i64 (rankM l s)) ∧ Below w.heap.size w w' := by
  have H1 := Lib.hid (fun w1 (hb : Below w.heap.size w w1) => impl_IsResolving_c (LabR.frame _ _ _ _ h hb))
  have Hfr := Lib.hid (fun w1 (hb : Below w.heap.size w w1) => LabR.frame _ _ _ _ h hb)
  have H0 := Lib.hid (show rankM l s = if (resolvM l && wordM l.1 s) = true then (popN (readB l.2.2 s.data.toList (allN l.2.1)) : Int) else -1 from rfl)
  generalize rankM l s = T at H0 ⊢
  have Hok := Lib.hid (fun h => isLab_ok (l := l) (resolvM_lab h))
  generalize hil : resolvM l = il at H0 H1 Hok
  clear hil
  have Hge := Lib.hid (fun h => wordM_ge (k := l.1) (s := s) h)
  have Hwd := Lib.hid (fun w1 => impl_IsWord_c l.1 s w1 hs)
  have Hs := Lib.hid hs
  clear hs
  generalize hwb : wordM l.1 s = wb at Hwd H0 Hge
  clear hwb
  cases il with
  | false =>
    have HF := Lib.hid (show T = -1 from by rw [H0.out]; rfl)
    clear H0 Hok Hfr
    obtain ⟨L, S, xs⟩ := l
    obtain ⟨va, rfl, _, a, c, rfl, _, _, _, _⟩ := h
    simp only at *
    generalize hn : xs.length = n at *
    clear hn
    go_enter Tryd.func16, Tryd.ntmps16
    go_wp2_with fail
    obtain ⟨w1, ex, A0, c0, c1, c2, m1⟩ := boxA3_ex w 26 (.int .i64 L) (.int .i64 S) (.slice a n c)
    change Calls Tryd.prog _ _ (w.alloc (.cells #[.int .i64 L, .int .i64 S, .slice a n c] 26)) _
    rw [ex]
    clear ex
    refine (H1.out _ A0).mono ?_
    rintro e w2 ⟨rfl, hb⟩
    replace c0 := (hb.cell (p := ⟨w.heap.size, 0, none⟩) m1).trans c0
    replace c1 := (hb.cell (p := ⟨w.heap.size, 1, none⟩) m1).trans c1
    replace c2 := (hb.cell (p := ⟨w.heap.size, 2, none⟩) m1).trans c2
    replace m1 := Nat.lt_of_lt_of_le m1 hb.size
    replace A0 := A0.trans (hb.mono A0.size)
    clear hb
    go_wp2
    go_ret
    exact ⟨by rw [HF.out]; rfl, A0⟩
  | true =>
  cases wb with
  | false =>
    have HF := Lib.hid (show T = -1 from by rw [H0.out]; rfl)
    clear H0 Hok Hfr Hge
    obtain ⟨L, S, xs⟩ := l
    obtain ⟨va, rfl, _, a, c, rfl, _, _, _, _⟩ := h
    simp only at *
    generalize hn : xs.length = n at *
    clear hn
    go_enter Tryd.func16, Tryd.ntmps16
    go_wp2_with fail
    obtain ⟨w1, ex, A0, c0, c1, c2, m1⟩ := boxA3_ex w 26 (.int .i64 L) (.int .i64 S) (.slice a n c)
    change Calls Tryd.prog _ _ (w.alloc (.cells #[.int .i64 L, .int .i64 S, .slice a n c] 26)) _
    rw [ex]
    clear ex
    refine (H1.out _ A0).mono ?_
    rintro e w2 ⟨rfl, hb⟩
    replace c0 := (hb.cell (p := ⟨w.heap.size, 0, none⟩) m1).trans c0
    replace c1 := (hb.cell (p := ⟨w.heap.size, 1, none⟩) m1).trans c1
    replace c2 := (hb.cell (p := ⟨w.heap.size, 2, none⟩) m1).trans c2
    replace m1 := Nat.lt_of_lt_of_le m1 hb.size
    replace A0 := A0.trans (hb.mono A0.size)
    clear hb
    go_wp2_with fail
    refine (Hwd.out _).mono ?_
    rintro e w' ⟨rfl, rfl⟩
    go_wp2
    go_ret
    exact ⟨by rw [HF.out]; rfl, A0⟩
  | true =>
    obtain ⟨ho, hS1, hS2, hL1, hL2⟩ := Hok.out rfl
    have Hrd := Lib.hid (fun w1 (hb : Below w.heap.size w w1) => impl_read_c (Hfr.out w1 hb) ho hS2 (allN_lt hS2) Hs.out (Hge.out rfl))
    have Hal := Lib.hid (fun w1 (hb : Below w.heap.size w w1) => impl_all_c (Hfr.out w1 hb) hS1 hS2)
    have Hr4 := readB_lt ho hS2 s.data.toList (allN l.2.1) (allN_lt hS2)
    have Hcn := Lib.hid (fun w1 => OnesCount_c _ Hr4 w1)
    have HT := Lib.hid (show T = (popN (readB l.2.2 s.data.toList (allN l.2.1)) : Int) from by rw [H0.out]; rfl)
    generalize readB l.2.2 s.data.toList (allN l.2.1) = r at *
    generalize popN r = z at *
    clear H0 Hok Hfr ho Hge
    obtain ⟨L, S, xs⟩ := l
    obtain ⟨va, rfl, _, a, c, rfl, _, _, _, _⟩ := h
    simp only at *
    generalize hn : xs.length = n at *
    clear hn
    generalize allN S = A at *
    have hur : IntKind.u64.wrap (r : Int) = (r : Int) := IntWalk.u64_in _ (by omega)
    go_enter Tryd.func16, Tryd.ntmps16
    go_wp2_with fail
    obtain ⟨w1, ex, A0, c0, c1, c2, m1⟩ := boxA3_ex w 26 (.int .i64 L) (.int .i64 S) (.slice a n c)
    change Calls Tryd.prog _ _ (w.alloc (.cells #[.int .i64 L, .int .i64 S, .slice a n c] 26)) _
    rw [ex]
    clear ex
    refine (H1.out _ A0).mono ?_
    rintro e w2 ⟨rfl, hb⟩
    replace c0 := (hb.cell (p := ⟨w.heap.size, 0, none⟩) m1).trans c0
    replace c1 := (hb.cell (p := ⟨w.heap.size, 1, none⟩) m1).trans c1
    replace c2 := (hb.cell (p := ⟨w.heap.size, 2, none⟩) m1).trans c2
    replace m1 := Nat.lt_of_lt_of_le m1 hb.size
    replace A0 := A0.trans (hb.mono A0.size)
    clear hb
    go_wp2_with fail
    refine (Hwd.out _).mono ?_
    rintro e w' ⟨rfl, rfl⟩
    go_wp2
    have hS0 : w2.cell? ⟨w.heap.size, 0, none⟩ = some (.int .i64 L) ∧ w2.cell? ⟨w.heap.size, 1, none⟩ = some (.int .i64 S) ∧ w2.cell? ⟨w.heap.size, 2, none⟩ = some (.slice a n c) := ⟨c0, c1, c2⟩
    have hSd : w2.drew.cell? ⟨w.heap.size, 0, none⟩ = some (.int .i64 L) ∧ w2.drew.cell? ⟨w.heap.size, 1, none⟩ = some (.int .i64 S) ∧ w2.drew.cell? ⟨w.heap.size, 2, none⟩ = some (.slice a n c) := hS0
    have HS := Lib.hid (fun (wz : World) (hb3 : Below w2.heap.size w2 wz) => (show wz.cell? ⟨w.heap.size, 0, none⟩ = some (.int .i64 L) ∧ wz.cell? ⟨w.heap.size, 1, none⟩ = some (.int .i64 S) ∧ wz.cell? ⟨w.heap.size, 2, none⟩ = some (.slice a n c) from ⟨(hb3.cell (p := ⟨w.heap.size, 0, none⟩) m1).trans c0, (hb3.cell (p := ⟨w.heap.size, 1, none⟩) m1).trans c1, (hb3.cell (p := ⟨w.heap.size, 2, none⟩) m1).trans c2⟩))
    have HA := Lib.hid (fun (wz : World) (hb3 : Below w2.heap.size w2 wz) => A0.trans (hb3.mono A0.size))
    have B1 := (Below.refl w2.heap.size w2).drew
    have HA1 := HA.out _ B1
    clear c0 c1 c2
    go_region_held3 (fun w' => w'.cell? ⟨w.heap.size, 0, none⟩ = some (.int .i64 L) ∧ w'.cell? ⟨w.heap.size, 1, none⟩ = some (.int .i64 S) ∧ w'.cell? ⟨w.heap.size, 2, none⟩ = some (.slice a n c))
      (first | with_reducible exact hS2 | with_reducible exact hS1 | with_reducible exact hSd | with_reducible exact hS0 | go_keep)
      ((first
        | (go_at_call 31; (with_reducible refine (Hcn.out _).mono ?_); rintro e w' ⟨rfl, rfl⟩)
        | (go_at_call 39; (with_reducible refine (Hrd.out _ HA2).mono ?_); rintro e wq3 ⟨rfl, hb⟩; have B3 := B2.trans (hb.mono B2.size); have hS2 := HS.out _ B3; have HA3 := HA.out _ B3; clear hb)
        | (go_at_call 40; (with_reducible refine (Hal.out _ HA1).mono ?_); rintro e wq2 ⟨rfl, hb⟩; have B2 := B1.trans (hb.mono B1.size); have hS1 := HS.out _ B2; have HA2 := HA.out _ B2; clear hb)
        | fail))
    go_wp2
    go_ret
    exact ⟨by rw [HT.out]; rfl, HA3⟩
set_option maxHeartbeats 4000000 in
set_option maxRecDepth 10000 in
theorem spec_WordRank_c {w : World} {v : Value} {l : Lb} (h : LabR w v l) {s : ByteArray} (hs : s.size ≤ maxLen) :
    Calls Tryd.prog 17 #[v, .string s] w fun e w' => e = .returned (.int .i64 (rankM l s)) ∧ Below w.heap.size w w' := by
  have H1 := Lib.hid (fun w1 (hb : Below w.heap.size w w1) => spec_IsResolving_c (LabR.frame _ _ _ _ h hb))
  have Hfr := Lib.hid (fun w1 (hb : Below w.heap.size w w1) => LabR.frame _ _ _ _ h hb)
  have H0 := Lib.hid (show rankM l s = if (resolvM l && wordM l.1 s) = true then (popN (readB l.2.2 s.data.toList (allN l.2.1)) : Int) else -1 from rfl)
  generalize rankM l s = T at H0 ⊢
  have Hok := Lib.hid (fun h => isLab_ok (l := l) (resolvM_lab h))
  generalize hil : resolvM l = il at H0 H1 Hok
  clear hil
  have Hge := Lib.hid (fun h => wordM_ge (k := l.1) (s := s) h)
  have Hwd := Lib.hid (fun w1 => spec_IsWord_c l.1 s w1 hs)
  have Hs := Lib.hid hs
  clear hs
  generalize hwb : wordM l.1 s = wb at Hwd H0 Hge
  clear hwb
  cases il with
  | false =>
    have HF := Lib.hid (show T = -1 from by rw [H0.out]; rfl)
    clear H0 Hok Hfr
    obtain ⟨L, S, xs⟩ := l
    obtain ⟨va, rfl, _, a, c, rfl, _, _, _, _⟩ := h
    simp only at *
    generalize hn : xs.length = n at *
    clear hn
    go_enter Tryd.func17, Tryd.ntmps17
    go_wp2_with fail
    obtain ⟨w1, ex, A0, c0, c1, c2, m1⟩ := boxA3_ex w 26 (.int .i64 L) (.int .i64 S) (.slice a n c)
    change Calls Tryd.prog _ _ (w.alloc (.cells #[.int .i64 L, .int .i64 S, .slice a n c] 26)) _
    rw [ex]
    clear ex
    refine (H1.out _ A0).mono ?_
    rintro e w2 ⟨rfl, hb⟩
    replace c0 := (hb.cell (p := ⟨w.heap.size, 0, none⟩) m1).trans c0
    replace c1 := (hb.cell (p := ⟨w.heap.size, 1, none⟩) m1).trans c1
    replace c2 := (hb.cell (p := ⟨w.heap.size, 2, none⟩) m1).trans c2
    replace m1 := Nat.lt_of_lt_of_le m1 hb.size
    replace A0 := A0.trans (hb.mono A0.size)
    clear hb
    go_wp2
    go_ret
    exact ⟨by rw [HF.out]; rfl, A0⟩
  | true =>
  cases wb with
  | false =>
    have HF := Lib.hid (show T = -1 from by rw [H0.out]; rfl)
    clear H0 Hok Hfr Hge
    obtain ⟨L, S, xs⟩ := l
    obtain ⟨va, rfl, _, a, c, rfl, _, _, _, _⟩ := h
    simp only at *
    generalize hn : xs.length = n at *
    clear hn
    go_enter Tryd.func17, Tryd.ntmps17
    go_wp2_with fail
    obtain ⟨w1, ex, A0, c0, c1, c2, m1⟩ := boxA3_ex w 26 (.int .i64 L) (.int .i64 S) (.slice a n c)
    change Calls Tryd.prog _ _ (w.alloc (.cells #[.int .i64 L, .int .i64 S, .slice a n c] 26)) _
    rw [ex]
    clear ex
    refine (H1.out _ A0).mono ?_
    rintro e w2 ⟨rfl, hb⟩
    replace c0 := (hb.cell (p := ⟨w.heap.size, 0, none⟩) m1).trans c0
    replace c1 := (hb.cell (p := ⟨w.heap.size, 1, none⟩) m1).trans c1
    replace c2 := (hb.cell (p := ⟨w.heap.size, 2, none⟩) m1).trans c2
    replace m1 := Nat.lt_of_lt_of_le m1 hb.size
    replace A0 := A0.trans (hb.mono A0.size)
    clear hb
    go_wp2_with fail
    refine (Hwd.out _).mono ?_
    rintro e w' ⟨rfl, rfl⟩
    go_wp2
    go_ret
    exact ⟨by rw [HF.out]; rfl, A0⟩
  | true =>
    obtain ⟨ho, hS1, hS2, hL1, hL2⟩ := Hok.out rfl
    have Hrd := Lib.hid (fun w1 (hb : Below w.heap.size w w1) => spec_read_c (Hfr.out w1 hb) ho hS2 (allN_lt hS2) Hs.out)
    have Hr4 := readB_lt ho hS2 s.data.toList (allN l.2.1) (allN_lt hS2)
    have Hcn := Lib.hid (fun w1 => l16Size_c _ Hr4 w1)
    have HT := Lib.hid (show T = (popN (readB l.2.2 s.data.toList (allN l.2.1)) : Int) from by rw [H0.out]; rfl)
    generalize readB l.2.2 s.data.toList (allN l.2.1) = r at *
    generalize popN r = z at *
    clear H0 Hok Hfr ho Hge
    obtain ⟨L, S, xs⟩ := l
    obtain ⟨va, rfl, _, a, c, rfl, _, _, _, _⟩ := h
    simp only at *
    generalize hn : xs.length = n at *
    clear hn
    obtain ⟨p, rfl⟩ := Int.eq_ofNat_of_zero_le (show 0 ≤ S by omega)
    obtain ⟨P, hP, hP1, hP2, hw⟩ := shl_one p (by omega)
    have Ha := Lib.hid (show allN (p : Int) = P - 1 from by unfold allN; rw [show (p : Int).toNat = p from rfl, hP])
    rw [Ha.out] at Hrd
    clear hP Ha
    have hcP : ((P - 1 : Nat) : Int) = (P : Int) - 1 := by omega
    rw [hcP] at Hrd
    clear hcP
    go_enter Tryd.func17, Tryd.ntmps17
    go_wp2_with fail
    obtain ⟨w1, ex, A0, c0, c1, c2, m1⟩ := boxA3_ex w 26 (.int .i64 L) (.int .i64 p) (.slice a n c)
    change Calls Tryd.prog _ _ (w.alloc (.cells #[.int .i64 L, .int .i64 p, .slice a n c] 26)) _
    rw [ex]
    clear ex
    refine (H1.out _ A0).mono ?_
    rintro e w2 ⟨rfl, hb⟩
    replace c0 := (hb.cell (p := ⟨w.heap.size, 0, none⟩) m1).trans c0
    replace c1 := (hb.cell (p := ⟨w.heap.size, 1, none⟩) m1).trans c1
    replace c2 := (hb.cell (p := ⟨w.heap.size, 2, none⟩) m1).trans c2
    replace m1 := Nat.lt_of_lt_of_le m1 hb.size
    replace A0 := A0.trans (hb.mono A0.size)
    clear hb
    go_wp2_with fail
    refine (Hwd.out _).mono ?_
    rintro e w' ⟨rfl, rfl⟩
    go_wp2_with fail
    refine (Hrd.out _ A0).mono ?_
    rintro e w3 ⟨rfl, hb⟩
    replace c0 := (hb.cell (p := ⟨w.heap.size, 0, none⟩) m1).trans c0
    replace c1 := (hb.cell (p := ⟨w.heap.size, 1, none⟩) m1).trans c1
    replace c2 := (hb.cell (p := ⟨w.heap.size, 2, none⟩) m1).trans c2
    replace m1 := Nat.lt_of_lt_of_le m1 hb.size
    replace A0 := A0.trans (hb.mono A0.size)
    clear hb
    go_wp2_with fail
    refine (Hcn.out _).mono ?_
    rintro e w' ⟨rfl, rfl⟩
    go_wp2
    go_ret
    exact ⟨by rw [HT.out]; rfl, A0⟩
set_option maxHeartbeats 4000000 in
set_option maxRecDepth 10000 in
theorem spec_SyncState_c {w : World} {v : Value} {l : Lb} (h : LabR w v l) {s : ByteArray} (hs : s.size ≤ maxLen) :
    Calls Tryd.prog 21 #[v, .string s] w fun e w' => e = .returned (.int .i64 (syncM l s)) ∧ Below w.heap.size w w' := by
  have H1 := Lib.hid (fun w1 (hb : Below w.heap.size w w1) => spec_IsResolving_c (LabR.frame _ _ _ _ h hb))
  have Hfr := Lib.hid (fun w1 (hb : Below w.heap.size w w1) => LabR.frame _ _ _ _ h hb)
  have H0 := Lib.hid (show syncM l s = if (resolvM l && wordM l.1 s) = true then (onlyN (readB l.2.2 s.data.toList (allN l.2.1)) : Int) else -1 from rfl)
  generalize syncM l s = T at H0 ⊢
  have Hok := Lib.hid (fun h => isLab_ok (l := l) (resolvM_lab h))
  generalize hil : resolvM l = il at H0 H1 Hok
  clear hil
  have Hge := Lib.hid (fun h => wordM_ge (k := l.1) (s := s) h)
  have Hwd := Lib.hid (fun w1 => spec_IsWord_c l.1 s w1 hs)
  have Hs := Lib.hid hs
  clear hs
  generalize hwb : wordM l.1 s = wb at Hwd H0 Hge
  clear hwb
  cases il with
  | false =>
    have HF := Lib.hid (show T = -1 from by rw [H0.out]; rfl)
    clear H0 Hok Hfr
    obtain ⟨L, S, xs⟩ := l
    obtain ⟨va, rfl, _, a, c, rfl, _, _, _, _⟩ := h
    simp only at *
    generalize hn : xs.length = n at *
    clear hn
    go_enter Tryd.func21, Tryd.ntmps21
    go_wp2_with fail
    obtain ⟨w1, ex, A0, c0, c1, c2, m1⟩ := boxA3_ex w 26 (.int .i64 L) (.int .i64 S) (.slice a n c)
    change Calls Tryd.prog _ _ (w.alloc (.cells #[.int .i64 L, .int .i64 S, .slice a n c] 26)) _
    rw [ex]
    clear ex
    refine (H1.out _ A0).mono ?_
    rintro e w2 ⟨rfl, hb⟩
    replace c0 := (hb.cell (p := ⟨w.heap.size, 0, none⟩) m1).trans c0
    replace c1 := (hb.cell (p := ⟨w.heap.size, 1, none⟩) m1).trans c1
    replace c2 := (hb.cell (p := ⟨w.heap.size, 2, none⟩) m1).trans c2
    replace m1 := Nat.lt_of_lt_of_le m1 hb.size
    replace A0 := A0.trans (hb.mono A0.size)
    clear hb
    go_wp2
    go_ret
    exact ⟨by rw [HF.out]; rfl, A0⟩
  | true =>
  cases wb with
  | false =>
    have HF := Lib.hid (show T = -1 from by rw [H0.out]; rfl)
    clear H0 Hok Hfr Hge
    obtain ⟨L, S, xs⟩ := l
    obtain ⟨va, rfl, _, a, c, rfl, _, _, _, _⟩ := h
    simp only at *
    generalize hn : xs.length = n at *
    clear hn
    go_enter Tryd.func21, Tryd.ntmps21
    go_wp2_with fail
    obtain ⟨w1, ex, A0, c0, c1, c2, m1⟩ := boxA3_ex w 26 (.int .i64 L) (.int .i64 S) (.slice a n c)
    change Calls Tryd.prog _ _ (w.alloc (.cells #[.int .i64 L, .int .i64 S, .slice a n c] 26)) _
    rw [ex]
    clear ex
    refine (H1.out _ A0).mono ?_
    rintro e w2 ⟨rfl, hb⟩
    replace c0 := (hb.cell (p := ⟨w.heap.size, 0, none⟩) m1).trans c0
    replace c1 := (hb.cell (p := ⟨w.heap.size, 1, none⟩) m1).trans c1
    replace c2 := (hb.cell (p := ⟨w.heap.size, 2, none⟩) m1).trans c2
    replace m1 := Nat.lt_of_lt_of_le m1 hb.size
    replace A0 := A0.trans (hb.mono A0.size)
    clear hb
    go_wp2_with fail
    refine (Hwd.out _).mono ?_
    rintro e w' ⟨rfl, rfl⟩
    go_wp2
    go_ret
    exact ⟨by rw [HF.out]; rfl, A0⟩
  | true =>
    obtain ⟨ho, hS1, hS2, hL1, hL2⟩ := Hok.out rfl
    have Hrd := Lib.hid (fun w1 (hb : Below w.heap.size w w1) => spec_read_c (Hfr.out w1 hb) ho hS2 (allN_lt hS2) Hs.out)
    have Hr4 := readB_lt ho hS2 s.data.toList (allN l.2.1) (allN_lt hS2)
    have Hcn := Lib.hid (fun w1 => l16Only_c _ Hr4 w1)
    have HT := Lib.hid (show T = (onlyN (readB l.2.2 s.data.toList (allN l.2.1)) : Int) from by rw [H0.out]; rfl)
    generalize readB l.2.2 s.data.toList (allN l.2.1) = r at *
    generalize onlyN r = z at *
    clear H0 Hok Hfr ho Hge
    obtain ⟨L, S, xs⟩ := l
    obtain ⟨va, rfl, _, a, c, rfl, _, _, _, _⟩ := h
    simp only at *
    generalize hn : xs.length = n at *
    clear hn
    obtain ⟨p, rfl⟩ := Int.eq_ofNat_of_zero_le (show 0 ≤ S by omega)
    obtain ⟨P, hP, hP1, hP2, hw⟩ := shl_one p (by omega)
    have Ha := Lib.hid (show allN (p : Int) = P - 1 from by unfold allN; rw [show (p : Int).toNat = p from rfl, hP])
    rw [Ha.out] at Hrd
    clear hP Ha
    have hcP : ((P - 1 : Nat) : Int) = (P : Int) - 1 := by omega
    rw [hcP] at Hrd
    clear hcP
    go_enter Tryd.func21, Tryd.ntmps21
    go_wp2_with fail
    obtain ⟨w1, ex, A0, c0, c1, c2, m1⟩ := boxA3_ex w 26 (.int .i64 L) (.int .i64 p) (.slice a n c)
    change Calls Tryd.prog _ _ (w.alloc (.cells #[.int .i64 L, .int .i64 p, .slice a n c] 26)) _
    rw [ex]
    clear ex
    refine (H1.out _ A0).mono ?_
    rintro e w2 ⟨rfl, hb⟩
    replace c0 := (hb.cell (p := ⟨w.heap.size, 0, none⟩) m1).trans c0
    replace c1 := (hb.cell (p := ⟨w.heap.size, 1, none⟩) m1).trans c1
    replace c2 := (hb.cell (p := ⟨w.heap.size, 2, none⟩) m1).trans c2
    replace m1 := Nat.lt_of_lt_of_le m1 hb.size
    replace A0 := A0.trans (hb.mono A0.size)
    clear hb
    go_wp2_with fail
    refine (Hwd.out _).mono ?_
    rintro e w' ⟨rfl, rfl⟩
    go_wp2_with fail
    refine (Hrd.out _ A0).mono ?_
    rintro e w3 ⟨rfl, hb⟩
    replace c0 := (hb.cell (p := ⟨w.heap.size, 0, none⟩) m1).trans c0
    replace c1 := (hb.cell (p := ⟨w.heap.size, 1, none⟩) m1).trans c1
    replace c2 := (hb.cell (p := ⟨w.heap.size, 2, none⟩) m1).trans c2
    replace m1 := Nat.lt_of_lt_of_le m1 hb.size
    replace A0 := A0.trans (hb.mono A0.size)
    clear hb
    go_wp2_with fail
    refine (Hcn.out _).mono ?_
    rintro e w' ⟨rfl, rfl⟩
    go_wp2
    go_ret
    exact ⟨by rw [HT.out]; rfl, A0⟩
set_option maxHeartbeats 400000 in
theorem impl_IsSynchronizing_c {w : World} {v : Value} {l : Lb} (h : LabR w v l) {s : ByteArray} (hs : s.size ≤ maxLen) :
    Calls Tryd.prog 12 #[v, .string s] w fun e w' => e = .returned (.bool (decide (rankM l s = 1))) ∧ Below w.heap.size w w' := by
  have H1 := Lib.hid (fun w1 (hb : Below w.heap.size w w1) => impl_WordRank_c (LabR.frame _ _ _ _ h hb) hs)
  have hbd := rankM_bd l s
  have H0 := Lib.hid (show decide (rankM l s = 1) = decide (rankM l s = 1) from rfl)
  obtain ⟨T, hT⟩ : ∃ T, T = decide (rankM l s = 1) := ⟨_, rfl⟩
  rw [← hT]
  replace H0 := Lib.hid (hT.trans H0.out)
  clear hT
  generalize rankM l s = r at H0 H1 hbd
  have Hs := Lib.hid hs
  clear hs
  obtain ⟨L, S, xs⟩ := l
  obtain ⟨va, rfl, _, a, c, rfl, _, _, _, _⟩ := h
  simp only at *
  generalize hn : xs.length = n at *
  clear hn
  by_cases hr : r = 1
  · have HF := Lib.hid (show T = true from by rw [H0.out, decide_eq_true hr])
    have t1 : (r == 1) = true := by simp [hr]
    go_enter Tryd.func12, Tryd.ntmps12
    go_wp2_with fail
    obtain ⟨w1, ex, A0, c0, c1, c2, m1⟩ := boxA3_ex w 26 (.int .i64 L) (.int .i64 S) (.slice a n c)
    change Calls Tryd.prog _ _ (w.alloc (.cells #[.int .i64 L, .int .i64 S, .slice a n c] 26)) _
    rw [ex]
    clear ex
    refine (H1.out _ A0).mono ?_
    rintro e w2 ⟨rfl, hb⟩
    replace A0 := A0.trans (hb.mono A0.size)
    clear hb H0 H1
    go_wp2
    go_ret
    exact ⟨by rw [HF.out]; rfl, A0⟩
  · have HF := Lib.hid (show T = false from by rw [H0.out, decide_eq_false hr])
    have t1 : (r == 1) = false := by simp [hr]
    go_enter Tryd.func12, Tryd.ntmps12
    go_wp2_with fail
    obtain ⟨w1, ex, A0, c0, c1, c2, m1⟩ := boxA3_ex w 26 (.int .i64 L) (.int .i64 S) (.slice a n c)
    change Calls Tryd.prog _ _ (w.alloc (.cells #[.int .i64 L, .int .i64 S, .slice a n c] 26)) _
    rw [ex]
    clear ex
    refine (H1.out _ A0).mono ?_
    rintro e w2 ⟨rfl, hb⟩
    replace A0 := A0.trans (hb.mono A0.size)
    clear hb H0 H1
    go_wp2
    go_ret
    exact ⟨by rw [HF.out]; rfl, A0⟩
set_option maxHeartbeats 400000 in
theorem spec_IsSynchronizing_c {w : World} {v : Value} {l : Lb} (h : LabR w v l) {s : ByteArray} (hs : s.size ≤ maxLen) :
    Calls Tryd.prog 13 #[v, .string s] w fun e w' => e = .returned (.bool (decide (rankM l s = 1))) ∧ Below w.heap.size w w' := by
  have H1 := Lib.hid (fun w1 (hb : Below w.heap.size w w1) => spec_SyncState_c (LabR.frame _ _ _ _ h hb) hs)
  have hbd := syncM_bd l s
  have H0 := Lib.hid (show decide (rankM l s = 1) = decide (0 ≤ syncM l s) from rank_sync l s)
  obtain ⟨T, hT⟩ : ∃ T, T = decide (rankM l s = 1) := ⟨_, rfl⟩
  rw [← hT]
  replace H0 := Lib.hid (hT.trans H0.out)
  clear hT
  generalize syncM l s = r at H0 H1 hbd
  have Hs := Lib.hid hs
  clear hs
  obtain ⟨L, S, xs⟩ := l
  obtain ⟨va, rfl, _, a, c, rfl, _, _, _, _⟩ := h
  simp only at *
  generalize hn : xs.length = n at *
  clear hn
  by_cases hr : 0 ≤ r
  · have HF := Lib.hid (show T = true from by rw [H0.out, decide_eq_true hr])
    have t1 : decide (0 ≤ r) = true := decide_eq_true (by omega)
    go_enter Tryd.func13, Tryd.ntmps13
    go_wp2_with fail
    obtain ⟨w1, ex, A0, c0, c1, c2, m1⟩ := boxA3_ex w 26 (.int .i64 L) (.int .i64 S) (.slice a n c)
    change Calls Tryd.prog _ _ (w.alloc (.cells #[.int .i64 L, .int .i64 S, .slice a n c] 26)) _
    rw [ex]
    clear ex
    refine (H1.out _ A0).mono ?_
    rintro e w2 ⟨rfl, hb⟩
    replace A0 := A0.trans (hb.mono A0.size)
    clear hb H0 H1
    go_wp2
    go_ret
    exact ⟨by rw [HF.out]; rfl, A0⟩
  · have HF := Lib.hid (show T = false from by rw [H0.out, decide_eq_false hr])
    have t1 : decide (0 ≤ r) = false := decide_eq_false (by omega)
    go_enter Tryd.func13, Tryd.ntmps13
    go_wp2_with fail
    obtain ⟨w1, ex, A0, c0, c1, c2, m1⟩ := boxA3_ex w 26 (.int .i64 L) (.int .i64 S) (.slice a n c)
    change Calls Tryd.prog _ _ (w.alloc (.cells #[.int .i64 L, .int .i64 S, .slice a n c] 26)) _
    rw [ex]
    clear ex
    refine (H1.out _ A0).mono ?_
    rintro e w2 ⟨rfl, hb⟩
    replace A0 := A0.trans (hb.mono A0.size)
    clear hb H0 H1
    go_wp2
    go_ret
    exact ⟨by rw [HF.out]; rfl, A0⟩
end Go.Proofs.YtcilgihmaaobeaaDoor
end

section
namespace Go.Sd
open Go.RowKit Go.Deep

/-- A box's three cells. -/
def Box3 (w : World) (b : Nat) (u0 u1 u2 : Value) : Prop := b < w.heap.size ∧ w.cell? ⟨b, 0, none⟩ = some u0 ∧ w.cell? ⟨b, 1, none⟩ = some u1 ∧ w.cell? ⟨b, 2, none⟩ = some u2
theorem Box3.below {w w' : World} {b : Nat} {u0 u1 u2 : Value} (h : Box3 w b u0 u1 u2) {B : Nat} (hb : Below B w w') (hB : b < B) : Box3 w' b u0 u1 u2 :=
  ⟨Nat.lt_of_lt_of_le h.1 hb.size, (hb.cell (p := ⟨b, 0, none⟩) hB).trans h.2.1, (hb.cell (p := ⟨b, 1, none⟩) hB).trans h.2.2.1, (hb.cell (p := ⟨b, 2, none⟩) hB).trans h.2.2.2⟩
theorem New.oneG {α : Type} {e : TypeId} {R : OwnRel α} (hR : Kept R) {lo : Nat} {w : World} {u : Value} {x : α} (h : New R lo w u x) (hlo : lo ≤ w.heap.size) :
    New (OwnOf e R) lo (w.alloc (.cells #[u] e)) (.slice (some ⟨w.heap.size, 0, none⟩) 1 1) [x] := by
  obtain ⟨F, hF, hn, hge⟩ := h
  have hlt := hR.lt _ _ _ _ hF
  refine ⟨w.heap.size :: F, ⟨[u], [F], ⟨by simp, .inr ⟨w.heap.size, 1, #[u], rfl, Nat.zero_le _, heap_alloc_new w _, Nat.le_refl _, by simp [maxLen], by simp, by simp⟩⟩, rfl, ?_, by simp [Value.ownBlock]⟩, List.nodup_cons.2 ⟨fun hm => by have := hlt _ hm; omega, hn⟩, fun b hb => by
    rcases List.mem_cons.1 hb with rfl | hb
    · exact hlo
    · exact hge b hb⟩
  intro i u' x' G hu hx hG
  cases i with
  | zero =>
    simp at hu hx hG
    subst hu hx hG
    exact hR.keep _ _ _ _ _ hF fun b hb' => ((Below.refl w.heap.size w).alloc (Nat.le_refl _) _).block b (hR.lt _ _ _ _ hF b hb')
  | succ i => simp at hu
/-- A slice literal of one number. -/
theorem New.oneInt {e : TypeId} (w : World) (x : Int) : New (OInts e) w.heap.size (w.alloc (.cells #[.int .i64 x] e)) (.slice (some ⟨w.heap.size, 0, none⟩) 1 1) [x] :=
  New.oneG OIntR.kept ⟨[], ⟨rfl, rfl⟩, by simp [Fresh]⟩ (Nat.le_refl _)
abbrev Res.ints (e : TypeId) (v : Value) (xs : List Int) : Res := Res.of (OInts e) (OInts.kept e).held v xs
/-- Where the numbers lie. -/
theorem Sep.intsAt {lo : Nat} {w : World} {e : TypeId} {v : Value} {xs : List Int} {rs : List Res} (h : Sep lo w (Res.ints e v xs :: rs)) : ∃ a c, v = .slice a xs.length c ∧ xs.length ≤ c ∧ (0 < xs.length → ∃ b, a = some ⟨b, 0, none⟩ ∧ b < w.heap.size ∧ ∀ i x, xs[i]? = some x → w.cell? ⟨b, i, none⟩ = some (.int .i64 x)) := by
  have hn := h.headNew
  obtain ⟨a, c, rfl, hc, _, h1⟩ := (New.ints hn).shape
  refine ⟨a, c, rfl, hc, fun h0 => ?_⟩
  obtain ⟨b, o, rfl, hb, hx⟩ := h1 h0
  obtain ⟨x0, hx0, _⟩ := at_lt h0
  obtain ⟨b', c', hv, _⟩ := hn.int_at hx0
  have e1 : b = b' ∧ o = 0 := by simp at hv; exact ⟨hv.1.1, hv.1.2⟩
  obtain ⟨rfl, rfl⟩ := e1
  refine ⟨b, rfl, hb, fun i x hi => ?_⟩
  obtain ⟨u, hu, rfl⟩ := hx i x hi
  simpa using hu
/-- append of a number, laid in a block of its own. -/
theorem Sep.pushInt {P : Program} {lo : Nat} {w : World} {e : TypeId} {v : Value} {xs : List Int} {rs : List Res} (t ty : TypeId) (ht : P.underlying t = some (.slice e)) (hinfo : (P.info? e).map (fun i => (i.zero, i.size, i.bytes)) = some (some (.int .i64 0), 1, 8))
    (h : Sep lo w (Res.ints e v xs :: rs)) (hlo : lo ≤ w.heap.size) (x : Int) (hl : xs.length ≤ 16777216) (el : TypeId) :
    ∃ a c w', (Builtin.append_ #[t, t] ty #[v, .slice (some ⟨w.heap.size, 0, none⟩) 1 1]).run P (w.alloc (.cells #[.int .i64 x] el)) = .ok (.slice a (xs ++ [x]).length c) w' ∧ Sep lo w' (Res.ints e (.slice a (xs ++ [x]).length c) (xs ++ [x]) :: rs) ∧ Below lo w w' := by
  obtain ⟨v', w', hr, hs, hb⟩ := Sep.push (P := P) OIntR.kept t ty (.int .i64 0) 8 ht hinfo rfl h hlo ((Below.refl _ _).alloc (Nat.le_refl _) (.cells #[.int .i64 x] el)) (q := .int .i64 x) (x := x) ⟨[], ⟨rfl, rfl⟩, by simp [Fresh]⟩ (bb := w.heap.size) (c := 1) (World.cell?_alloc_at _ _ _ 0 rfl) (by omega) (by omega)
  obtain ⟨a, c, rfl, _⟩ := hs.intsAt
  exact ⟨a, c, w', hr, hs, hb⟩
abbrev Res.row {α : Type} (e : TypeId) (sz : Nat) (f : α → List Value) (v : Value) (xs : List α) : Res := Res.of (RowG e sz f) RowG.held v xs
theorem Sep.rowAt {α : Type} {e : TypeId} {sz : Nat} {f : α → List Value} (L : Lay sz f) {lo : Nat} {w : World} {v : Value} {xs : List α} {rs : List Res} (h : Sep lo w (Res.row e sz f v xs :: rs)) : ∃ a c, v = .slice a xs.length c ∧ (0 < xs.length → ∃ b, a = some ⟨b, 0, none⟩ ∧ lo ≤ b ∧ b < w.heap.size ∧ ∀ i x j u, xs[i]? = some x → (f x)[j]? = some u → w.cell? ⟨b, i * sz + j, none⟩ = some u) := by
  have hn := h.headNew
  obtain ⟨a, c, rfl⟩ := hn.rowSlice
  refine ⟨a, c, rfl, fun h0 => ?_⟩
  obtain ⟨g, c', hv, _, _, hlo, hg, hx⟩ := hn.rowAt L h0
  simp at hv
  exact ⟨g, hv.1, hlo, hg, fun i x j u h1 h2 => (hx i x j u h1 h2).1⟩
end Go.Sd
end

section
namespace Go.Proofs.YtcilgihmaaobeaaDoor
open Go.RowKit Go.Deep Go.Sd
set_option linter.unusedSimpArgs false
abbrev natL (xs : List Nat) : List Int := xs.map fun s : Nat => (s : Int)
theorem idx_at {sets : List Nat} (h : sets.Nodup) {i t : Nat} (hi : sets[i]? = some t) : sets.idxOf t = i := by
  obtain ⟨hl, e⟩ := List.getElem?_eq_some_iff.1 hi
  have hm : t ∈ sets := List.mem_of_getElem? hi
  have h1 : sets.idxOf t < sets.length := List.idxOf_lt_length_iff.2 hm
  have h2 : sets[sets.idxOf t] = t := List.getElem_idxOf h1
  rcases Nat.lt_trichotomy (sets.idxOf t) i with h3 | h3 | h3
  · exact absurd (h2.trans e.symm) (List.pairwise_iff_getElem.1 h _ _ h1 hl h3)
  · exact h3
  · exact absurd (e.trans h2.symm) (List.pairwise_iff_getElem.1 h _ _ hl h1 h3)
set_option maxHeartbeats 4000000 in
set_option maxRecDepth 100000 in
theorem l15Sets_c {w : World} {v : Value} {l : Lb} (h : LabR w v l) (ho : okArcs l.2.1 l.2.2) (hS1 : 1 ≤ l.2.1) (hS2 : l.2.1 ≤ 12) (hL1 : 1 ≤ l.1) (hL2 : l.1 ≤ 3) :
    Calls Tryd.prog 47 #[v] w fun e w' => ∃ r s, e = .returned (.tuple #[r, s]) ∧ Apart (OInts 3) (OTab 3 47) w.heap.size w' r (natL (bfsS l.2.2 l.1.toNat 4096 [allN l.2.1] 0 []).1) s (bfsS l.2.2 l.1.toNat 4096 [allN l.2.1] 0 []).2 ∧ Below w.heap.size w w' := by
  have Hfr := Lib.hid (fun w1 (hb : Below w.heap.size w w1) => LabR.frame _ _ _ _ h hb)
  obtain ⟨L, S, xs⟩ := l
  obtain ⟨_, rfl, -, a, c, rfl, -, -, -, -⟩ := h
  simp only at *
  generalize hn : xs.length = n at *
  clear hn
  obtain ⟨N, rfl⟩ := Int.eq_ofNat_of_zero_le (show 0 ≤ L by omega)
  obtain ⟨p, rfl⟩ := Int.eq_ofNat_of_zero_le (show 0 ≤ S by omega)
  rw [show (N : Int).toNat = N from rfl]
  obtain ⟨P, hP, hP1, hP2, hwp⟩ := shl_one p (by omega)
  obtain ⟨A, rfl⟩ : ∃ x, P = x + 1 := ⟨P - 1, by omega⟩
  have hA : allN (p : Int) = A := by unfold allN; rw [show (p : Int).toNat = p from rfl, hP]; rfl
  rw [hA]
  replace hwp : wrap64 (2 ^ p) = (A : Int) + 1 := by rw [hwp]; omega
  have hwA : wrap64 (A : Int) = (A : Int) := IntWalk.wrap64_in _ (by omega)
  have hA0 : 0 < A := by
    have : 2 ^ 1 ≤ 2 ^ p := Nat.pow_le_pow_right (by decide) (by omega)
    omega
  have HO := Lib.hid (show OkS [A] from ⟨by simp, fun s hs => by simp at hs; subst hs; omega⟩)
  have HSt := Lib.hid (fun w' (hb : Below w.heap.size w w') q (hq : q < 4096) x => spec_step_c (Hfr.out w' hb) ho hS2 hq x)
  have Hlt := Lib.hid (fun q x => stepN_lt ho hS2 q x)
  simp only at HSt Hlt
  obtain ⟨T, hT⟩ : ∃ T, T = bfsS xs N 4096 [A] 0 [] := ⟨_, rfl⟩
  rw [← hT]
  have HT := Lib.hid hT.symm
  clear hT
  have hp1 : p < 64 := by omega
  have hN3 : N ≤ 3 := by omega
  clear hP hA ho hS1 hS2 hL1 hL2 hP1 hP2 hA0 Hfr
  obtain ⟨w1, ex, hb1, c0, c1, c2, m1⟩ := boxA3_ex w 26 (.int .i64 (N : Int)) (.int .i64 (p : Int)) (.slice a n c)
  have A1 := Lib.hid hb1
  clear hb1
  go_enter Tryd.func47, Tryd.ntmps47
  go_wp2
  clear hwp hwA hp1 ex
  obtain ⟨w3, e3⟩ : ∃ x, x = ((w1.alloc (.cells #[.int .i64 (A : Int)] 3)).alloc (.cells #[] 47)) := ⟨_, rfl⟩
  rw [← e3]
  have HS0 := Lib.hid (show Sep w1.heap.size w3 [Res.ints 3 (.slice (some ⟨w1.heap.size, 0, none⟩) 1 1) (natL [A]), Res.of (OTab 3 47) (OTab.kept _ _).held (.slice (some ⟨w1.heap.size + 1, 0, none⟩) 0 0) []] from by
    have h1 := (Sep.nil w1.heap.size w1).new (OInts.kept 3).held ((Below.refl _ _).alloc (Nat.le_refl _) _) (Nat.le_refl _) (New.oneInt (e := 3) w1 (A : Int))
    have hz : (w1.alloc (.cells #[.int .i64 (A : Int)] 3)).heap.size = w1.heap.size + 1 := by simp
    have h2 := h1.new (OTab.kept 3 47).held ((Below.refl _ _).alloc (Nat.le_refl _) _) (by simp) (New.empty (e := 47) (R := OInts 3) (w1.alloc (.cells #[.int .i64 (A : Int)] 3)) (Nat.le_refl _))
    rw [hz, ← e3] at h2
    exact h2.swap)
  have HB0 := Lib.hid (show Below w1.heap.size w1 w3 from by rw [e3]; exact ((Below.refl _ _).alloc (Nat.le_refl _) _).alloc (by simp) _)
  have K0 := Lib.hid c0
  have K1 := Lib.hid c1
  have K2 := Lib.hid c2
  clear e3 c0 c1 c2
  go_loopg [4, 5, 6] 4096 (fun g vs vn i wr => ∃ (k : Nat) (sets : List Nat) (next : List (List Int)) (la na : Option Addr) (lc nc : Nat), vs = .slice la sets.length lc ∧ vn = .slice na next.length nc ∧ i = .int .i64 k ∧ k + g = 4096 ∧ next.length = k ∧ Hid (OkS sets) ∧ Hid (bfsS xs N g sets k next = T) ∧ Hid (Sep w1.heap.size wr [Res.ints 3 vs (natL sets), Res.of (OTab 3 47) (OTab.kept _ _).held vn next]) ∧ Hid (Below w1.heap.size w1 wr))
  case atStart => exact ⟨0, [A], [], _, _, _, _, rfl, rfl, rfl, by omega, rfl, HO, HT, HS0, HB0⟩
  case round =>
    clear HO HT HS0 HB0
    obtain ⟨k, sets, next, la, na, lc, nc, rfl, rfl, rfl, hk, hnk, HO, HT, HS, HB⟩ := hrel
    have Hl := Lib.hid HO.out.len
    by_cases hlt : k < sets.length
    · obtain ⟨s, hs, _⟩ := at_lt hlt
      obtain ⟨wq, rfl⟩ : ∃ x, x = wr := ⟨_, rfl⟩
      have hl := Hl.out
      have hz := HB.out.size
      obtain ⟨g, rfl⟩ : ∃ x, gk = x + 1 := ⟨gk - 1, by omega⟩
      have HT2 := Lib.hid (show bfsS xs N g (rowS xs s N 0 sets []).1 (k + 1) (next ++ [(rowS xs s N 0 sets []).2]) = T from by have h := HT.out; unfold bfsS at h; rw [hs] at h; exact h)
      have Hs := Lib.hid hs
      have HS2 := Lib.hid ((HS.out.new (OInts.kept 3).held ((Below.refl _ _).alloc (Nat.le_refl _) _) hz (New.empty (e := 3) (R := OIntR) wq (Nat.le_refl _))).swap)
      have HB2 := Lib.hid (HB.out.alloc hz (.cells #[] 3))
      have hki : (k : Int) < (sets.length : Int) := by omega
      obtain ⟨w2, e2⟩ : ∃ x, x = wq.alloc (.cells #[] 3) := ⟨_, rfl⟩
      rw [← e2] at HS2 HB2
      have e2s := e2.symm
      have Hnk := Lib.hid hnk
      clear HT HS HB hs e2 hnk
      go_wp2
      clear e2s
      go_loopg [4, 7, 8] N (fun g2 vs vr i wx => ∃ (x : Nat) (sets : List Nat) (row : List Int) (la ra : Option Addr) (lc rc : Nat), vs = .slice la sets.length lc ∧ vr = .slice ra row.length rc ∧ i = .int .i64 x ∧ x + g2 = N ∧ row.length = x ∧ k < sets.length ∧ Hid (OkS sets) ∧ Hid (sets[k]? = some s) ∧ Hid (bfsS xs N g (rowS xs s g2 x sets row).1 (k + 1) (next ++ [(rowS xs s g2 x sets row).2]) = T) ∧ Hid (Sep w1.heap.size wx [Res.ints 3 vs (natL sets), Res.ints 3 vr row, Res.of (OTab 3 47) (OTab.kept _ _).held (.slice na next.length nc) next]) ∧ Hid (Below w1.heap.size w1 wx))
      case atStart => exact ⟨0, sets, [], _, _, _, _, rfl, rfl, rfl, by omega, rfl, hlt, HO, Hs, HT2, HS2, HB2⟩
      case round =>
        clear HO Hs HT2 HS2 HB2 Hl hl hlt hki hz
        obtain ⟨x, sets, row, la, ra, lc, rc, rfl, rfl, rfl, hx, hrow, hlt, HO, Hs, HT2, HS, HB⟩ := hrel
        obtain ⟨wx, rfl⟩ : ∃ x, x = wr := ⟨_, rfl⟩
        have Hl := Lib.hid HO.out.len
        have xc0 := (HB.out.cell (p := ⟨w.heap.size, 0, none⟩) m1).trans K0.out
        have xc1 := (HB.out.cell (p := ⟨w.heap.size, 1, none⟩) m1).trans K1.out
        have xc2 := (HB.out.cell (p := ⟨w.heap.size, 2, none⟩) m1).trans K2.out
        have hz := HB.out.size
        by_cases hxl : x < N
        · obtain ⟨g2, hg2⟩ : ∃ y, gk = y + 1 := ⟨gk - 1, by omega⟩
          subst hg2
          obtain ⟨_, _, hv, _, hq⟩ := HS.out.intsAt
          obtain ⟨bl, e1, hbl, hcl⟩ := hq (by simp; omega)
          simp at hv
          obtain ⟨rfl, rfl⟩ := hv
          subst e1
          have f0 := hcl k (s : Int) (by simp [Hs.out])
          have Hcl := Lib.hid hcl
          have hs4 := (HO.out.2 s (List.mem_of_getElem? Hs.out)).2
          have HA := Lib.hid (A1.out.trans (HB.out.mono A1.out.size))
          have C1 := Lib.hid (fun w' (hb : Below w.heap.size w w') => HSt.out w' hb s hs4 (x : Int))
          have Htl := Lib.hid (Hlt.out s (x : Int))
          have HTx := Lib.hid (show bfsS xs N g (rowS xs s g2 (x + 1) (addS sets (stepN xs s (x : Int))) (row ++ [posS sets (stepN xs s (x : Int))])).1 (k + 1) (next ++ [(rowS xs s g2 (x + 1) (addS sets (stepN xs s (x : Int))) (row ++ [posS sets (stepN xs s (x : Int))])).2]) = T from HT2.out)
          generalize stepN xs s (x : Int) = t at C1 Htl HTx
          have hkl : (k : Int) < (sets.length : Int) := by omega
          have hxN : (x : Int) < (N : Int) := by omega
          have hS0 : wx.cell? ⟨w.heap.size, 0, none⟩ = some (.int .i64 (N : Int)) ∧ wx.cell? ⟨w.heap.size, 1, none⟩ = some (.int .i64 (p : Int)) ∧ wx.cell? ⟨w.heap.size, 2, none⟩ = some (.slice a n c) ∧ wx.cell? ⟨bl, k, none⟩ = some (.int .i64 (s : Int)) := ⟨xc0, xc1, xc2, f0⟩
          have hSd : wx.drew.cell? ⟨w.heap.size, 0, none⟩ = some (.int .i64 (N : Int)) ∧ wx.drew.cell? ⟨w.heap.size, 1, none⟩ = some (.int .i64 (p : Int)) ∧ wx.drew.cell? ⟨w.heap.size, 2, none⟩ = some (.slice a n c) ∧ wx.drew.cell? ⟨bl, k, none⟩ = some (.int .i64 (s : Int)) := hS0
          have m1x : w.heap.size < wx.heap.size := Nat.lt_of_lt_of_le m1 hz
          have HSS := Lib.hid (fun (w' : World) (hb3 : Below wx.heap.size wx w') => (show w'.cell? ⟨w.heap.size, 0, none⟩ = some (.int .i64 (N : Int)) ∧ w'.cell? ⟨w.heap.size, 1, none⟩ = some (.int .i64 (p : Int)) ∧ w'.cell? ⟨w.heap.size, 2, none⟩ = some (.slice a n c) ∧ w'.cell? ⟨bl, k, none⟩ = some (.int .i64 (s : Int)) from ⟨(hb3.cell (p := ⟨w.heap.size, 0, none⟩) m1x).trans hS0.1, (hb3.cell (p := ⟨w.heap.size, 1, none⟩) m1x).trans hS0.2.1, (hb3.cell (p := ⟨w.heap.size, 2, none⟩) m1x).trans hS0.2.2.1, (hb3.cell (p := ⟨bl, k, none⟩) hbl).trans hS0.2.2.2⟩))
          have B1 := (Below.refl wx.heap.size wx).drew
          have HA1 := HA.out.trans (B1.mono HA.out.size)
          clear hcl hq HT2 f0 xc1 xc2 hs4
          go_wp2
          go_region_held3 (fun w' => w'.cell? ⟨w.heap.size, 0, none⟩ = some (.int .i64 (N : Int)) ∧ w'.cell? ⟨w.heap.size, 1, none⟩ = some (.int .i64 (p : Int)) ∧ w'.cell? ⟨w.heap.size, 2, none⟩ = some (.slice a n c) ∧ w'.cell? ⟨bl, k, none⟩ = some (.int .i64 (s : Int)))
            (first | with_reducible exact hS1 | with_reducible exact hSd | with_reducible exact hS0 | go_keep)
            ((first
              | (go_at_call 33; (with_reducible refine (C1.out _ HA1).mono ?_); rintro e w4 ⟨rfl, hb2⟩; have hb3 := B1.trans hb2; have hS1 := HSS.out w4 hb3; clear hb2)
              | fail))
          clear hS0 hSd HSS B1 HA1 hS1 xc0
          have H34 := Lib.hid hb3
          have hz4 := hb3.size
          have HS4 := Lib.hid (HS.out.below hb3 (Nat.le_refl _))
          have HB4 := Lib.hid (HB.out.trans (hb3.mono hz))
          have Hk := Lib.hid (fun (i z : Nat) (hi : sets[i]? = some z) => (show w4.cell? ⟨bl, i, none⟩ = some (.int .i64 (z : Int)) from (H34.out.cell (p := ⟨bl, i, none⟩) hbl).trans (Hcl.out i (z : Int) (by simp [hi]))))
          have hbl4 : bl < w4.heap.size := by omega
          have hz14 : w1.heap.size ≤ w4.heap.size := by omega
          clear HS HB H34 Hcl hbl hb3 HA C1 hz4
          have hl := Hl.out
          by_cases ht0 : t = 0
          · subst ht0
            have HTy := Lib.hid (show bfsS xs N g (rowS xs s g2 (x + 1) sets (row ++ [-1])).1 (k + 1) (next ++ [(rowS xs s g2 (x + 1) sets (row ++ [-1])).2]) = T from by have h := HTx.out; rw [show addS sets 0 = sets from by unfold addS; rw [if_pos (Or.inl rfl)], show posS sets 0 = -1 from rfl] at h; exact h)
            obtain ⟨ra', rc', w9, hr9, hs9, hb9⟩ := HS4.out.swap.pushInt (P := Tryd.prog) 47 47 Tryd.underlying47 infoI (by omega) (-1) (by omega) 3
            have e9 : (row ++ [(-1)]).length = x + 1 := by simp [hrow]
            rw [e9] at hr9 hs9
            have HS9 := Lib.hid hs9.swap
            have HB9 := Lib.hid (HB4.out.trans hb9)
            have Hr9 := Lib.hid hr9
            have E9 := Lib.hid e9
            rw [hrow] at Hr9
            clear hr9 hs9 hb9 e9
            clear HTx Hk HS4 HB4
            go_wp2
            go_loopg [10, 11] 0 (fun g3 va i wy => va = .int .i64 (-1) ∧ i = .int .i64 0 ∧ w4 = wy)
            case atStart => exact ⟨rfl, rfl, rfl⟩
            case round =>
              obtain ⟨rfl, rfl, rfl⟩ := hrel
              go_wp2_with (first
                | (at_builtin; refine wpl_append_run rfl (.tmp 68) (.tmp 70) 47 rfl rfl rfl Hr9.out ?_)
                | fail)
              go_roundg (N - (x + 1))
              case measure => omega
              case rel => exact ⟨x + 1, sets, row ++ [-1], _, _, _, _, rfl, by rw [E9.out], by go_num, by omega, E9.out, hlt, HO, Hs, by rw [show N - (x + 1) = g2 by omega]; exact HTy, HS9, HB9⟩
          · have ht1 : 0 < t := by omega
            have ht2 : (0 : Int) < (t : Int) := by omega
            go_wp2
            go_loopg [10, 11] sets.length (fun g3 va i wy => ∃ (j : Nat) (q : Int), va = .int .i64 q ∧ i = .int .i64 j ∧ j + g3 = sets.length ∧ Hid (q = if t ∈ sets.take j then (sets.idxOf t : Int) else -1) ∧ w4 = wy)
            case atStart => exact ⟨0, -1, rfl, rfl, by omega, Lib.hid (by simp), rfl⟩
            case round =>
              obtain ⟨j, q, rfl, rfl, hj, HK, rfl⟩ := hrel
              by_cases hjl : j < sets.length
              · obtain ⟨z, hzz, _⟩ := at_lt hjl
                have g0 := Hk.out j z hzz
                have HTk := Lib.hid (show sets.take (j + 1) = sets.take j ++ [z] from (take_snoc' hzz).symm)
                have Hzz := Lib.hid hzz
                have hji : (j : Int) < (sets.length : Int) := by omega
                clear hzz
                by_cases q1 : z = t
                · subst q1
                  have t1 : ((z : Int) == (z : Int)) = true := by simp
                  go_wp2
                  go_roundg (sets.length - (j + 1))
                  case measure => omega
                  case rel => exact ⟨j + 1, (j : Int), rfl, by go_num, by omega, Lib.hid (by rw [HTk.out, if_pos (by simp), idx_at HO.out.1 Hzz.out]), rfl⟩
                · have t1 : ((z : Int) == (t : Int)) = false := by simp; omega
                  have HK2 := Lib.hid (show q = if t ∈ sets.take (j + 1) then (sets.idxOf t : Int) else -1 from by rw [HK.out, HTk.out]; have e : (t ∈ sets.take j ++ [z]) ↔ t ∈ sets.take j := (by simp; intro e; exact absurd e.symm q1); simp only [e])
                  clear HK
                  go_wp2
                  go_roundg (sets.length - (j + 1))
                  case measure => omega
                  case rel => exact ⟨j + 1, q, rfl, by go_num, by omega, HK2, rfl⟩
              · have hje : j = sets.length := by omega
                have HK2 := Lib.hid (show q = if t ∈ sets then (sets.idxOf t : Int) else -1 from by rw [HK.out, hje, List.take_of_length_le (Nat.le_refl _)])
                have hji : ¬ ((j : Int) < (sets.length : Int)) := by omega
                clear HK Hk hj hje hjl
                by_cases hm : t ∈ sets
                · have hq : q = (sets.idxOf t : Int) := by rw [HK2.out, if_pos hm]
                  have hq0 : ¬ (q < 0) := by omega
                  have HTy := Lib.hid (show bfsS xs N g (rowS xs s g2 (x + 1) sets (row ++ [q])).1 (k + 1) (next ++ [(rowS xs s g2 (x + 1) sets (row ++ [q])).2]) = T from by have h := HTx.out; rw [show addS sets t = sets from (by unfold addS; rw [if_pos (Or.inr hm)]), show posS sets t = q from (by unfold posS; rw [if_neg ht0, hq])] at h; exact h)
                  obtain ⟨ra', rc', w9, hr9, hs9, hb9⟩ := HS4.out.swap.pushInt (P := Tryd.prog) 47 47 Tryd.underlying47 infoI (by omega) q (by omega) 3
                  have e9 : (row ++ [q]).length = x + 1 := by simp [hrow]
                  rw [e9] at hr9 hs9
                  have HS9 := Lib.hid hs9.swap
                  have HB9 := Lib.hid (HB4.out.trans hb9)
                  have Hr9 := Lib.hid hr9
                  have E9 := Lib.hid e9
                  rw [hrow] at Hr9
                  clear hr9 hs9 hb9 e9
                  clear HTx HS4 HB4 HK2 hq hm
                  go_wp2_with (first
                    | (at_builtin; refine wpl_append_run rfl (.tmp 68) (.tmp 70) 47 rfl rfl rfl Hr9.out ?_)
                    | fail)
                  go_roundg (N - (x + 1))
                  case measure => omega
                  case rel => exact ⟨x + 1, sets, row ++ [q], _, _, _, _, rfl, by rw [E9.out], by go_num, by omega, E9.out, hlt, HO, Hs, by rw [show N - (x + 1) = g2 by omega]; exact HTy, HS9, HB9⟩
                · have hq : q = -1 := by rw [HK2.out, if_neg hm]
                  subst hq
                  have HTy := Lib.hid (show bfsS xs N g (rowS xs s g2 (x + 1) (sets ++ [t]) (row ++ [(sets.length : Int)])).1 (k + 1) (next ++ [(rowS xs s g2 (x + 1) (sets ++ [t]) (row ++ [(sets.length : Int)])).2]) = T from by have h := HTx.out; rw [show addS sets t = sets ++ [t] from (by unfold addS; rw [if_neg (by simp [ht0, hm])]), show posS sets t = (sets.length : Int) from (by unfold posS; rw [if_neg ht0, List.idxOf_eq_length hm])] at h; exact h)
                  have HO2 := Lib.hid (show OkS (sets ++ [t]) from by have h := HO.out.add Htl.out; rwa [show addS sets t = sets ++ [t] from (by unfold addS; rw [if_neg (by simp [ht0, hm])])] at h)
                  obtain ⟨la', lc', w8, hr8, hs8, hb8⟩ := HS4.out.pushInt (P := Tryd.prog) 47 47 Tryd.underlying47 infoI hz14 (t : Int) (by simp; omega) 3
                  have e8 : natL sets ++ [(t : Int)] = natL (sets ++ [t]) := by simp
                  have e8' : (natL (sets ++ [t])).length = sets.length + 1 := by simp
                  rw [e8, e8'] at hr8 hs8
                  have HS8 := Lib.hid hs8
                  have HB8 := Lib.hid (HB4.out.trans hb8)
                  have hz8 := hb8.size
                  have Hr8 := Lib.hid hr8
                  have Hs2 := Lib.hid (show (sets ++ [t])[k]? = some s from by rw [List.getElem?_append_left hlt]; exact Hs.out)
                  have Hlt2 := Lib.hid (show k < (sets ++ [t]).length from by simp; omega)
                  have E8 := Lib.hid (show (sets ++ [t]).length = sets.length + 1 from by simp)
                  clear hs8 hb8 hr8 e8 e8'
                  obtain ⟨ra', rc', w9, hr9, hs9, hb9⟩ := HS8.out.swap.pushInt (P := Tryd.prog) 47 47 Tryd.underlying47 infoI (by omega) (sets.length : Int) (by omega) 3
                  have e9 : (row ++ [(sets.length : Int)]).length = x + 1 := by simp [hrow]
                  rw [e9] at hr9 hs9
                  have HS9 := Lib.hid hs9.swap
                  have HB9 := Lib.hid (HB8.out.trans hb9)
                  have Hr9 := Lib.hid hr9
                  have E9 := Lib.hid e9
                  rw [hrow] at Hr9
                  clear hr9 hs9 hb9 e9
                  clear HTx HS4 HB4 HK2 hm HS8 HB8
                  go_wp2_with (first
                    | (at_builtin; refine wpl_append_run rfl (.tmp 64) (.tmp 66) 47 rfl rfl rfl Hr8.out ?_)
                    | (at_builtin; refine wpl_append_run rfl (.tmp 68) (.tmp 70) 47 rfl rfl rfl Hr9.out ?_)
                    | fail)
                  go_roundg (N - (x + 1))
                  case measure => omega
                  case rel => exact ⟨x + 1, sets ++ [t], row ++ [(sets.length : Int)], _, _, _, _, by rw [E8.out], by rw [E9.out], by go_num, by omega, E9.out, Hlt2.out, HO2, Hs2, by rw [show N - (x + 1) = g2 by omega]; exact HTy, HS9, HB9⟩
        · have hg : gk = 0 := by omega
          have HTy := Lib.hid (show bfsS xs N g sets (k + 1) (next ++ [row]) = T from by have h := HT2.out; rw [hg] at h; exact h)
          have hxi : ¬ ((x : Int) < (N : Int)) := by omega
          have hl := Hl.out
          have hnk := Hnk.out
          obtain ⟨v', w6, hr6, hs6, hb6⟩ := HS.out.third.swap23.absorb (P := Tryd.prog) (OInts.kept 3) 61 61 (.slice none 0 0) 24 Tryd.underlying61 infoR rfl hz (w1 := wx.alloc (.cells #[.slice ra row.length rc] 47)) ((Below.refl _ _).alloc (Nat.le_refl _) _) (bb := wx.heap.size) (c := 1) (World.cell?_alloc_at _ _ _ 0 rfl) (by omega) (by omega)
          obtain ⟨na', nc', ev, _⟩ := (New.tab hs6.headNew).shape
          rw [ev] at hr6 hs6
          have e6 : (next ++ [row]).length = k + 1 := by simp; exact Hnk.out
          rw [e6] at hr6 hs6
          have HS6 := Lib.hid hs6.swap
          have HB6 := Lib.hid (HB.out.trans hb6)
          rw [hrow] at hr6 ⊢
          have Hr6 := Lib.hid hr6
          clear hrow
          have E6 := Lib.hid e6
          clear hnk hr6 hs6 hb6 ev e6 HS HB HT2 xc1 xc2
          go_wp2_with (first
            | (at_builtin; refine wpl_append_run rfl (.tmp 72) (.tmp 74) 61 rfl rfl rfl Hr6.out ?_)
            | fail)
          go_roundg g
          case measure => omega
          case rel => exact ⟨k + 1, sets, next ++ [row], _, _, _, _, rfl, by rw [E6.out], by go_num, by omega, E6.out, HO, HTy, HS6, HB6⟩
    · have HF := Lib.hid (show T = (sets, next) from by
        rw [← HT.out]
        cases gk with
        | zero => rfl
        | succ g => unfold bfsS; rw [List.getElem?_eq_none (by omega)])
      have Hz := Lib.hid (A1.out.trans (HB.out.mono A1.out.size))
      have hki : ¬ ((k : Int) < (sets.length : Int)) := by omega
      have HP := Lib.hid HS.out
      have hz := A1.out.size
      clear HS HB HT hnk
      go_wp2
      go_ret2
      refine ⟨_, _, rfl, ?_, Hz.out⟩
      rw [HF.out]
      exact (HP.out.apart).mono hz
end Go.Proofs.YtcilgihmaaobeaaDoor
end

section
namespace Go.Proofs.YtcilgihmaaobeaaDoor
open Go.RowKit Go.Deep Go.Sd
set_option linter.unusedSimpArgs false
def popI (s : Nat) : Int := (popN s : Int)
def leastRM (l : Lb) : Int := if resolvM l = true then (bfsS l.2.2 l.1.toNat 4096 [allN l.2.1] 0 []).1.foldl (minF popI) l.2.1 else 0
theorem resolv_facts {l : Lb} (h : resolvM l = true) : okArcs l.2.1 l.2.2 ∧ 1 ≤ l.2.1 ∧ l.2.1 ≤ 12 ∧ 1 ≤ l.1 ∧ l.1 ≤ 3 := isLab_ok (resolvM_lab h)
theorem bfs_ok {xs : List Arc3} {S : Int} (ho : okArcs S xs) (hS1 : 1 ≤ S) (hS2 : S ≤ 12) (L : Nat) : ∀ (f : Nat) (sets : List Nat) (k : Nat) (next : List (List Int)), OkS sets → OkS (bfsS xs L f sets k next).1
  | 0, _, _, _, h => h
  | f + 1, sets, k, next, h => by
    unfold bfsS
    split
    · exact h
    · exact bfs_ok ho hS1 hS2 L f _ _ _ (rowS_ok (fun s x => stepN_lt ho hS2 s x) _ _ _ _ _ h)
theorem all_ok {S : Int} (hS1 : 1 ≤ S) (hS2 : S ≤ 12) : OkS [allN S] := by
  have h1 := allN_lt hS2
  have h2 : 2 ^ 1 ≤ 2 ^ S.toNat := Nat.pow_le_pow_right (by decide) (by omega)
  refine ⟨by simp, fun s hs => ?_⟩
  simp at hs
  subst hs
  exact ⟨by unfold allN; omega, h1⟩
theorem minF_eq (f : Nat → Int) (a : Int) (s : Nat) : minF f a s = if a < f s then a else f s := by
  unfold minF
  split <;> split <;> omega
theorem l1Min_c (a b : Int) (w : World) : Calls Tryd.prog 48 #[.int .i64 a, .int .i64 b] w fun e w' => e = .returned (.int .i64 (if a < b then a else b)) ∧ w = w' := by
  by_cases h : a < b
  · rw [if_pos h]
    go_enter Tryd.func48, Tryd.ntmps48
    go_wp2
    go_ret
    exact ⟨rfl, rfl⟩
  · rw [if_neg h]
    go_enter Tryd.func48, Tryd.ntmps48
    go_wp2
    go_ret
    exact ⟨rfl, rfl⟩
set_option maxHeartbeats 4000000 in
set_option maxRecDepth 100000 in
theorem spec_LeastRank_c {w : World} {v : Value} {l : Lb} (h : LabR w v l) :
    Calls Tryd.prog 19 #[v] w fun e w' => e = .returned (.int .i64 (leastRM l)) ∧ Below w.heap.size w w' := by
  have H1 := Lib.hid (fun w1 (hb : Below w.heap.size w w1) => spec_IsResolving_c (LabR.frame _ _ _ _ h hb))
  have Hfr := Lib.hid (fun w1 (hb : Below w.heap.size w w1) => LabR.frame _ _ _ _ h hb)
  obtain ⟨T, hT⟩ : ∃ T, T = leastRM l := ⟨_, rfl⟩
  rw [← hT]
  have HT := Lib.hid hT
  clear hT
  have Hok := Lib.hid (fun h => resolv_facts (l := l) h)
  have HF0 := Lib.hid (fun (h : resolvM l = false) => (show leastRM l = 0 from by unfold leastRM; rw [h]; rfl))
  generalize hil : resolvM l = il at H1
  have Hil := Lib.hid hil
  clear hil
  obtain ⟨L, S, xs⟩ := l
  obtain ⟨_, rfl, -, a, c, rfl, -, -, -, -⟩ := h
  simp only at *
  generalize hn : xs.length = n at *
  clear hn
  obtain ⟨w1, ex, hb1, c0, c1, c2, m1⟩ := boxA3_ex w 26 (.int .i64 L) (.int .i64 S) (.slice a n c)
  have A1 := Lib.hid hb1
  clear hb1
  go_enter Tryd.func19, Tryd.ntmps19
  go_wp2_with fail
  refine (H1.out _ A1.out).mono ?_
  rintro e w2 ⟨rfl, hb1⟩
  replace c0 := (hb1.cell (p := ⟨w.heap.size, 0, none⟩) m1).trans c0
  replace c1 := (hb1.cell (p := ⟨w.heap.size, 1, none⟩) m1).trans c1
  replace c2 := (hb1.cell (p := ⟨w.heap.size, 2, none⟩) m1).trans c2
  have m2 : w.heap.size < w2.heap.size := Nat.lt_of_lt_of_le m1 hb1.size
  replace A1 := Lib.hid (A1.out.trans (hb1.mono A1.out.size))
  clear hb1 ex H1 m1
  cases il with
  | false =>
    have HF := Lib.hid (show T = 0 from by rw [HT.out]; exact HF0.out Hil.out)
    clear HT HF0 Hil Hok Hfr
    go_wp2
    go_ret
    exact ⟨by rw [HF.out]; rfl, A1.out⟩
  | true =>
  have Hil2 := Lib.hid (Hok.out Hil.out)
  clear Hok HF0
  obtain ⟨ho, hS1, hS2, hL1, hL2⟩ := Hil2.out
  have HT2 := Lib.hid (show T = (bfsS xs L.toNat 4096 [allN S] 0 []).1.foldl (minF popI) S from by rw [HT.out]; unfold leastRM; rw [Hil.out]; rfl)
  have HLS := Lib.hid (fun w1 (hb : Below w.heap.size w w1) => l15Sets_c (Hfr.out w1 hb) ho hS1 hS2 hL1 hL2)
  have HOS := Lib.hid (bfs_ok ho hS1 hS2 L.toNat 4096 [allN S] 0 [] (all_ok hS1 hS2))
  simp only at HLS
  generalize (bfsS xs L.toNat 4096 [allN S] 0 []).2 = next at HLS
  generalize (bfsS xs L.toNat 4096 [allN S] 0 []).1 = sets at HLS HT2 HOS
  clear HT Hil Hil2 ho hS1 hS2 hL1 hL2 Hfr
  go_wp2_with fail
  refine (HLS.out _ A1.out).mono ?_
  rintro e w3 ⟨r, s, rfl, hap, hb⟩
  have A3 := Lib.hid (A1.out.trans (hb.mono A1.out.size))
  obtain ⟨ra, rc, rfl, _, _, hcell⟩ := (New.ints hap.left).shape
  have Hcell := Lib.hid hcell
  have hl := HOS.out.len
  rw [List.length_map] at Hcell ⊢
  clear hap hb HLS A1 c0 c1 c2 m2 hcell
  go_wp2
  go_loopg [3, 6] sets.length (fun g b i wr => ∃ (k : Nat) (q : Int), b = .int .i64 q ∧ i = .int .i64 k ∧ k + g = sets.length ∧ Hid (T = (sets.drop k).foldl (minF popI) q) ∧ w3 = wr)
  case atStart => exact ⟨0, S, rfl, rfl, by omega, HT2, rfl⟩
  case round =>
    clear HT2
    obtain ⟨k, q, rfl, rfl, hk, HK, rfl⟩ := hrel
    by_cases hlt : k < sets.length
    · obtain ⟨x, hx, hd⟩ := at_lt hlt
      obtain ⟨b, o, rfl, hb, hx0⟩ := Hcell.out (by omega)
      obtain ⟨u, hu, rfl⟩ := hx0 k (x : Int) (by simp [hx])
      have hx4 := (HOS.out.2 x (List.mem_of_getElem? hx)).2
      have C1 := Lib.hid (fun w => l16Size_c x hx4 w)
      have C2 := Lib.hid (fun w => l1Min_c q (popI x) w)
      have HK2 := Lib.hid (show T = (sets.drop (k + 1)).foldl (minF popI) (if q < popI x then q else popI x) from by rw [HK.out, hd, List.foldl_cons, minF_eq])
      generalize (if q < popI x then q else popI x) = q' at C2 HK2
      have C1' := Lib.hid (fun w => show Calls Tryd.prog 44 #[.int .i64 x] w fun e w' => e = .returned (.int .i64 (popI x)) ∧ w = w' from C1.out w)
      generalize popI x = y at C1' C2
      have hki : (k : Int) < (sets.length : Int) := by omega
      clear HK hx0 hx hd hx4 C1
      go_wp2_with fail
      refine (C1'.out _).mono ?_
      rintro e w' ⟨rfl, rfl⟩
      go_wp2_with fail
      refine (C2.out _).mono ?_
      rintro e w' ⟨rfl, rfl⟩
      go_wp2
      go_roundg (sets.length - (k + 1))
      case measure => omega
      case rel => exact ⟨k + 1, q', rfl, by go_num, by omega, HK2, rfl⟩
    · have HF := Lib.hid (show T = q from by rw [HK.out, drop_len hlt]; rfl)
      have hki : ¬ ((k : Int) < (sets.length : Int)) := by omega
      clear HK Hcell HOS
      go_wp2
      go_ret
      exact ⟨by rw [HF.out]; rfl, A3.out⟩
end Go.Proofs.YtcilgihmaaobeaaDoor
end

section
namespace Go.Proofs.YtcilgihmaaobeaaDoor
open Go.RowKit Go.Deep Go.Sd
set_option linter.unusedSimpArgs false
/-- A word as a text. -/
def wordT (wd : List Nat) : ByteArray := ⟨(wd.map fun x => UInt8.ofNat (97 + x)).toArray⟩
def cbShort (st : Option (List Nat)) (e : Ent) : Option (List Nat) × Bool := if popN e.1 = 1 then (some e.2, true) else (st, false)
def shortB (c : Nat) : Option (List Nat) → List Res
  | none => [Res.box c [.string ⟨#[]⟩], Res.box (c + 1) [.bool false]]
  | some wd => [Res.box c [.string (wordT wd)], Res.box (c + 1) [.bool true]]
/-- All letters are below N. -/
def LetsE (N : Nat) (es : List Ent) : Prop := ∀ e, e ∈ es → ∀ x, x ∈ e.2 → x < N
theorem addE_lets {N : Nat} {es : List Ent} (h : LetsE N es) {t : Nat} {w : List Nat} (hw : ∀ x, x ∈ w → x < N) : LetsE N (addE es t w) := by
  unfold addE
  split
  · exact h
  · intro e he
    rcases List.mem_append.1 he with he | he
    · exact h e he
    · simp at he; subst he; exact hw
theorem conv_word {w : World} {src dst e : TypeId} (hs : Tryd.prog.underlying src = some (.slice e)) (he : Tryd.prog.underlying e = some (.int .u8)) (hd : Tryd.prog.underlying dst = some .string) {a : Option Addr} {n c : Nat} {wd : List Nat} (h : SlOf (ValR letV) w (.slice a n c) wd) (hw : ∀ x, x ∈ wd → x < 3) :
    (convert src dst (.slice a n c)).run Tryd.prog w = .ok (.string (wordT wd)) w := by
  obtain ⟨a', c', hv, _, _, hx⟩ := h.shape
  simp at hv
  obtain ⟨rfl, rfl, rfl⟩ := hv
  cases a with
  | none =>
    have h0 : wd = [] := by
      cases wd with
      | nil => rfl
      | cons x t => obtain ⟨b, o, h1, _⟩ := hx (by simp); cases h1
    subst h0
    exact run_convert_bytes_nil w src e hs he _ _ dst hd
  | some ad =>
    have h1 := run_convert_bytes_back (P := Tryd.prog) w src dst e ad c (wd.map fun x => UInt8.ofNat (97 + x)) hs he hd (fun j hj => by
      have hjl : j < wd.length := by simpa using hj
      obtain ⟨b, o, e1, _, hc⟩ := hx (by omega)
      cases e1
      obtain ⟨x, hxj, _⟩ := at_lt hjl
      obtain ⟨u, hu, rfl⟩ := hc j x hxj
      have e2 : (⟨b, o, none⟩ : Addr).add j = ⟨b, o + j, none⟩ := by unfold Addr.add; split <;> simp_all
      have hx3 := hw x (List.mem_of_getElem? hxj)
      have e3 : wd[j] = x := by rw [List.getElem?_eq_getElem hjl] at hxj; exact Option.some.inj hxj
      rw [e2, hu]
      simp only [List.getElem_map, e3, letV]
      have e4 : (UInt8.ofNat (97 + x)).toNat = 97 + x := by simp; omega
      rw [e4]
      rfl)
    rw [List.length_map] at h1
    exact h1
set_option maxHeartbeats 2000000 in
set_option maxRecDepth 100000 in
theorem shortclo_c {w : World} {lo c : Nat} {rest : List Res} (hs : Sep lo w (Res.box c [.string ⟨#[]⟩] :: Res.box (c + 1) [.bool false] :: rest)) (hlo : lo ≤ w.heap.size) {s : Nat} (hs4 : s < 4096) {vw : Value} {wd : List Nat} (hrd : SlOf (ValR letV) w vw wd) (hw : ∀ x, x ∈ wd → x < 3) :
    Calls Tryd.prog 30 #[.int .i64 s, vw, .pointer (some ⟨c, 0, none⟩), .pointer (some ⟨c + 1, 0, none⟩)] w fun e w' => e = .returned (.bool (decide (popN s = 1))) ∧ Sep lo w' (shortB c (if popN s = 1 then some wd else none) ++ rest) ∧ Below lo w w' ∧ ∀ p : Addr, p.block ≠ c → p.block ≠ c + 1 → w'.cell? p = w.cell? p := by
  have C1 := Lib.hid (fun w => OnesCount_c s hs4 w)
  obtain ⟨hlc, hcs⟩ := hs.headBox
  obtain ⟨hc0, hf0⟩ := hcs.2 0 _ rfl
  obtain ⟨hlc2, hcs2⟩ := hs.tail.headBox
  obtain ⟨hc1, hf1⟩ := hcs2.2 0 _ rfl
  obtain ⟨a, vc, rfl, _, _, _⟩ := hrd.shape
  have hcv := conv_word Tryd.underlying22 Tryd.underlying5 Tryd.underlying9 hrd hw
  have h1 := hs.boxStore hlo (j := 0) (u0 := .string ⟨#[]⟩) rfl (.string (wordT wd))
  have h2 := (h1.swap).boxStore (by simp; exact hlo) (j := 0) (u0 := .bool false) rfl (.bool true)
  have HS := Lib.hid h2.swap
  have HS0 := Lib.hid hs
  have HB := Lib.hid (((Below.refl lo w).setCell (p := ⟨c, 0, none⟩) hlc (.string (wordT wd))).setCell (p := ⟨c + 1, 0, none⟩) (by simp; omega) (.bool true))
  have hur : IntKind.u64.wrap (s : Int) = (s : Int) := IntWalk.u64_in _ (by omega)
  generalize popN s = y at C1 ⊢
  clear hs hlo hs4 hlc hcs hcs2 hlc2 h1 h2 hrd hw
  by_cases hy : y = 1
  · subst hy
    go_enter Tryd.func30, Tryd.ntmps30
    go_wp2_with fail
    refine (C1.out _).mono ?_
    rintro e w' ⟨rfl, rfl⟩
    go_wp2
    go_ret
    exact ⟨rfl, HS.out, HB.out, fun p hp hq => (World.cell?_setCell_other _ _ _ _ (fun e2 => hq (by rw [← e2]))).trans (World.cell?_setCell_other _ _ _ _ (fun e2 => hp (by rw [← e2])))⟩
  · have t1 : ((y : Int) == 1) = false := by simp; omega
    have HF := Lib.hid (show decide (y = 1) = false from decide_eq_false hy)
    have HN := Lib.hid (show (if y = 1 then some wd else none) = none from if_neg hy)
    rw [HF.out, HN.out]
    go_enter Tryd.func30, Tryd.ntmps30
    go_wp2_with fail
    refine (C1.out _).mono ?_
    rintro e w' ⟨rfl, rfl⟩
    go_wp2
    go_ret
    exact ⟨rfl, HS0.out, Below.refl _ _, fun _ _ _ => rfl⟩
end Go.Proofs.YtcilgihmaaobeaaDoor
end
