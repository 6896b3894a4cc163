/-
  Texts of this claim joined: laws for its walks, contracts of the functions that the law reaches.
-/
import Derived.Test.YtcilgihmaaobeaaRows
import Derived.Test.YtcilgihmaaobeaaFnResolvedM1
import Derived.Test.YtcilgihmaaobeaaFnResolvedM2
import Derived.Test.YtcilgihmaaobeaaFnResolvedM3
import Derived.IntWalk
import Derived.Deep.RegionHeld3
import Derived.Deep.DeepCutAuto
import Derived.Deep.OwnRows
import Derived.OwnWalk
import Derived.Laws.IdiomStrings
import Derived.Laws.BytesArg
set_option linter.unusedVariables false
set_option linter.unusedSimpArgs false
section
namespace Go.Proofs.Ytcilgihmaaobeaa
open Go.RowKit Go.Deep Go.Sd

def readB (xs : List Arc3) : List UInt8 → Nat → Nat
  | [], s => s
  | c :: l, s => readB xs l (stepN xs s ((c.toNat : Int) - 97))
theorem str_mem (s : ByteArray) (k : Nat) (h : k < s.size) : s[k] ∈ s.data.toList := by
  have h1 := str_drop s k h
  exact List.mem_of_mem_drop (i := k) (by rw [h1]; simp)
set_option maxHeartbeats 4000000 in
set_option maxRecDepth 10000 in
theorem impl_read_c {w : World} {v : Value} {l : Lb} (h : LabR w v l) (hv : okArcs l.2.1 l.2.2) (hS : l.2.1 ≤ 12) {q0 : Nat} (hq0 : q0 < 4096) {s : ByteArray} (hs : s.size ≤ maxLen) (hw : ∀ c, c ∈ s.data.toList → 97 ≤ c.toNat) :
    Calls Try.prog 53 #[v, .int .i64 q0, .string s] w fun e w' => e = .returned (.int .i64 (readB l.2.2 s.data.toList q0)) ∧ Below w.heap.size w w' := by
  unfold maxLen at hs
  have Hst := Lib.hid (fun w1 (hb : Below w.heap.size w w1) q (hq : q < 4096) x => impl_step_c (LabR.frame _ _ _ _ h hb) hv hS hq x)
  obtain ⟨L, S, xs⟩ := l
  obtain ⟨va, rfl, _, a, c, rfl, _, _, _, _⟩ := h
  simp only at hv hS
  simp only at Hst
  simp only
  have H0 := Lib.hid (show readB xs s.data.toList q0 = readB xs (s.data.toList.drop 0) q0 from rfl)
  generalize readB xs s.data.toList q0 = T at H0 ⊢
  have Hlt := Lib.hid (fun q x => stepN_lt hv hS q x)
  have Hw := Lib.hid hw
  clear hw
  generalize xs.length = n at *
  clear hv hS
  go_enter Try.func53, Try.ntmps53
  have q0' : (w.alloc (.cells #[.int .i64 L, .int .i64 S, .slice a n c] 26)).cell? ⟨w.heap.size, 0, none⟩ = some (.int .i64 L) := by simp
  have q1' : (w.alloc (.cells #[.int .i64 L, .int .i64 S, .slice a n c] 26)).cell? ⟨w.heap.size, 1, none⟩ = some (.int .i64 S) := by simp
  have q2' : (w.alloc (.cells #[.int .i64 L, .int .i64 S, .slice a n c] 26)).cell? ⟨w.heap.size, 2, none⟩ = some (.slice a n c) := by simp
  have hb1 : Below w.heap.size w (w.alloc (.cells #[.int .i64 L, .int .i64 S, .slice a n c] 26)) := (Below.refl _ _).alloc (Nat.le_refl _) _
  have m1 : w.heap.size < (w.alloc (.cells #[.int .i64 L, .int .i64 S, .slice a n c] 26)).heap.size := by simp
  go_wp2
  generalize w.alloc (.cells #[.int .i64 L, .int .i64 S, .slice a n c] 26) = w1 at *
  have Hb1 := Lib.hid hb1
  have hz := hb1.size
  clear hb1
  go_loopg [1, 10] (s.size) (fun g u i wr => ∃ (k q : Nat), i = .int .i64 k ∧ u = .int .i64 q ∧ q < 4096 ∧ k + g = s.size ∧ Hid (T = readB xs (s.data.toList.drop k) q) ∧ Below w1.heap.size w1 wr)
  case atStart => exact ⟨0, q0, rfl, rfl, hq0, by omega, H0, Below.refl _ _⟩
  case round =>
    obtain ⟨k, q, rfl, rfl, hq, hk, HK, hbel⟩ := hrel
    by_cases hlt : k < s.size
    · have HK1 := Lib.hid (show T = readB xs (s.data.toList.drop (k + 1)) (stepN xs q ((s[k].toNat : Int) - 97)) from by rw [HK.out, str_drop s k hlt]; rfl)
      have hc := byte_lt s[k]
      have hc97 := Hw.out _ (str_mem s k hlt)
      have hS0 : wr.cell? ⟨w.heap.size, 0, none⟩ = some (.int .i64 L) ∧ wr.cell? ⟨w.heap.size, 1, none⟩ = some (.int .i64 S) ∧ wr.cell? ⟨w.heap.size, 2, none⟩ = some (.slice a n c) := ⟨(hbel.cell (p := ⟨w.heap.size, 0, none⟩) m1).trans q0', (hbel.cell (p := ⟨w.heap.size, 1, none⟩) m1).trans q1', (hbel.cell (p := ⟨w.heap.size, 2, none⟩) m1).trans q2'⟩
      have hSd : wr.drew.cell? ⟨w.heap.size, 0, none⟩ = some (.int .i64 L) ∧ wr.drew.cell? ⟨w.heap.size, 1, none⟩ = some (.int .i64 S) ∧ wr.drew.cell? ⟨w.heap.size, 2, none⟩ = some (.slice a n c) := hS0
      have hz2 := hbel.size
      have hwr : w.heap.size < wr.heap.size := by omega
      have Hbel := Lib.hid hbel
      have HB := Lib.hid ((Hb1.out.trans (hbel.mono hz)).drew)
      have HS := Lib.hid (fun (w2 : World) (hb3 : Below wr.heap.size wr w2) => (show w2.cell? ⟨w.heap.size, 0, none⟩ = some (.int .i64 L) ∧ w2.cell? ⟨w.heap.size, 1, none⟩ = some (.int .i64 S) ∧ w2.cell? ⟨w.heap.size, 2, none⟩ = some (.slice a n c) from ⟨(hb3.cell (p := ⟨w.heap.size, 0, none⟩) hwr).trans hS0.1, (hb3.cell (p := ⟨w.heap.size, 1, none⟩) hwr).trans hS0.2.1, (hb3.cell (p := ⟨w.heap.size, 2, none⟩) hwr).trans hS0.2.2⟩))
      have Hc := Lib.hid (Hst.out _ HB.out q hq ((s[k].toNat : Int) - 97))
      have Hl := Lib.hid (Hlt.out q ((s[k].toNat : Int) - 97))
      generalize stepN xs q ((s[k].toNat : Int) - 97) = q' at HK1 Hc Hl
      have hw8 : IntKind.u8.wrap ((s[k].toNat : Int) - 97) = (s[k].toNat : Int) - 97 := IntWalk.u8_in _ (by omega)
      have hw64 : IntKind.i64.wrap ((s[k].toNat : Int) - 97) = (s[k].toNat : Int) - 97 := IntWalk.i64_in _ (by omega)
      clear HK hbel H0 q0' q1' q2'
      go_wp2
      go_region_held3 (fun w' => w'.cell? ⟨w.heap.size, 0, none⟩ = some (.int .i64 L) ∧ w'.cell? ⟨w.heap.size, 1, none⟩ = some (.int .i64 S) ∧ w'.cell? ⟨w.heap.size, 2, none⟩ = some (.slice a n c))
        (first | with_reducible exact hS1 | with_reducible exact hSd | with_reducible exact hS0 | go_keep)
        ((first
          | (go_at_call 39; (with_reducible refine Hc.out.mono ?_); rintro e w2 ⟨rfl, hb2⟩; have hb3 := ((Below.refl wr.heap.size wr).drew).trans hb2; have hS1 := HS.out w2 hb3; have Hb3 := Lib.hid (Hbel.out.trans (hb3.mono hz2)); clear hb2 hb3)
          | fail))
      go_wp2
      go_roundg (s.size - (k + 1))
      case measure => omega
      case rel => exact ⟨k + 1, q', by go_num, rfl, Hl.out, by omega, HK1, Hb3.out⟩
    · have HF := Lib.hid (show T = q from by rw [HK.out, str_end s k hlt]; rfl)
      have Hbz := Lib.hid (Hb1.out.trans (hbel.mono hz))
      clear HK hbel H0
      go_wp2
      go_ret
      exact ⟨by rw [HF.out]; rfl, Hbz.out⟩
set_option maxHeartbeats 4000000 in
set_option maxRecDepth 10000 in
theorem spec_read_c {w : World} {v : Value} {l : Lb} (h : LabR w v l) (hv : okArcs l.2.1 l.2.2) (hS : l.2.1 ≤ 12) {q0 : Nat} (hq0 : q0 < 4096) {s : ByteArray} (hs : s.size ≤ maxLen) :
    Calls Try.prog 56 #[v, .int .i64 q0, .string s] w fun e w' => e = .returned (.int .i64 (readB l.2.2 s.data.toList q0)) ∧ Below w.heap.size w w' := by
  unfold maxLen at hs
  have Hst := Lib.hid (fun w1 (hb : Below w.heap.size w w1) q (hq : q < 4096) x => spec_step_c (LabR.frame _ _ _ _ h hb) hv hS hq x)
  obtain ⟨L, S, xs⟩ := l
  obtain ⟨va, rfl, _, a, c, rfl, _, _, _, _⟩ := h
  simp only at hv hS
  simp only at Hst
  simp only
  have H0 := Lib.hid (show readB xs s.data.toList q0 = readB xs (s.data.toList.drop 0) q0 from rfl)
  generalize readB xs s.data.toList q0 = T at H0 ⊢
  have Hlt := Lib.hid (fun q x => stepN_lt hv hS q x)
  generalize xs.length = n at *
  clear hv hS
  go_enter Try.func56, Try.ntmps56
  have q0' : (w.alloc (.cells #[.int .i64 L, .int .i64 S, .slice a n c] 26)).cell? ⟨w.heap.size, 0, none⟩ = some (.int .i64 L) := by simp
  have q1' : (w.alloc (.cells #[.int .i64 L, .int .i64 S, .slice a n c] 26)).cell? ⟨w.heap.size, 1, none⟩ = some (.int .i64 S) := by simp
  have q2' : (w.alloc (.cells #[.int .i64 L, .int .i64 S, .slice a n c] 26)).cell? ⟨w.heap.size, 2, none⟩ = some (.slice a n c) := by simp
  have hb1 : Below w.heap.size w (w.alloc (.cells #[.int .i64 L, .int .i64 S, .slice a n c] 26)) := (Below.refl _ _).alloc (Nat.le_refl _) _
  have m1 : w.heap.size < (w.alloc (.cells #[.int .i64 L, .int .i64 S, .slice a n c] 26)).heap.size := by simp
  go_wp2
  generalize w.alloc (.cells #[.int .i64 L, .int .i64 S, .slice a n c] 26) = w1 at *
  have Hb1 := Lib.hid hb1
  have hz := hb1.size
  clear hb1
  go_loopg [1, 7] (s.size) (fun g u i wr => ∃ (k q : Nat), i = .int .i64 k ∧ u = .int .i64 q ∧ q < 4096 ∧ k + g = s.size ∧ Hid (T = readB xs (s.data.toList.drop k) q) ∧ Below w1.heap.size w1 wr)
  case atStart => exact ⟨0, q0, rfl, rfl, hq0, by omega, H0, Below.refl _ _⟩
  case round =>
    obtain ⟨k, q, rfl, rfl, hq, hk, HK, hbel⟩ := hrel
    by_cases hlt : k < s.size
    · have HK1 := Lib.hid (show T = readB xs (s.data.toList.drop (k + 1)) (stepN xs q ((s[k].toNat : Int) - 97)) from by rw [HK.out, str_drop s k hlt]; rfl)
      have hc := byte_lt s[k]
      have hS0 : wr.cell? ⟨w.heap.size, 0, none⟩ = some (.int .i64 L) ∧ wr.cell? ⟨w.heap.size, 1, none⟩ = some (.int .i64 S) ∧ wr.cell? ⟨w.heap.size, 2, none⟩ = some (.slice a n c) := ⟨(hbel.cell (p := ⟨w.heap.size, 0, none⟩) m1).trans q0', (hbel.cell (p := ⟨w.heap.size, 1, none⟩) m1).trans q1', (hbel.cell (p := ⟨w.heap.size, 2, none⟩) m1).trans q2'⟩
      have hSd : wr.drew.cell? ⟨w.heap.size, 0, none⟩ = some (.int .i64 L) ∧ wr.drew.cell? ⟨w.heap.size, 1, none⟩ = some (.int .i64 S) ∧ wr.drew.cell? ⟨w.heap.size, 2, none⟩ = some (.slice a n c) := hS0
      have hz2 := hbel.size
      have hwr : w.heap.size < wr.heap.size := by omega
      have Hbel := Lib.hid hbel
      have HB := Lib.hid ((Hb1.out.trans (hbel.mono hz)).drew)
      have HS := Lib.hid (fun (w2 : World) (hb3 : Below wr.heap.size wr w2) => (show w2.cell? ⟨w.heap.size, 0, none⟩ = some (.int .i64 L) ∧ w2.cell? ⟨w.heap.size, 1, none⟩ = some (.int .i64 S) ∧ w2.cell? ⟨w.heap.size, 2, none⟩ = some (.slice a n c) from ⟨(hb3.cell (p := ⟨w.heap.size, 0, none⟩) hwr).trans hS0.1, (hb3.cell (p := ⟨w.heap.size, 1, none⟩) hwr).trans hS0.2.1, (hb3.cell (p := ⟨w.heap.size, 2, none⟩) hwr).trans hS0.2.2⟩))
      have Hc := Lib.hid (Hst.out _ HB.out q hq ((s[k].toNat : Int) - 97))
      have Hl := Lib.hid (Hlt.out q ((s[k].toNat : Int) - 97))
      generalize stepN xs q ((s[k].toNat : Int) - 97) = q' at HK1 Hc Hl
      have hwb : IntKind.i64.wrap (s[k].toNat : Int) = (s[k].toNat : Int) := IntWalk.i64_in _ (by omega)
      have hw64 : IntKind.i64.wrap ((s[k].toNat : Int) - 97) = (s[k].toNat : Int) - 97 := IntWalk.i64_in _ (by omega)
      clear HK hbel H0 q0' q1' q2'
      go_wp2
      go_region_held3 (fun w' => w'.cell? ⟨w.heap.size, 0, none⟩ = some (.int .i64 L) ∧ w'.cell? ⟨w.heap.size, 1, none⟩ = some (.int .i64 S) ∧ w'.cell? ⟨w.heap.size, 2, none⟩ = some (.slice a n c))
        (first | with_reducible exact hS1 | with_reducible exact hSd | with_reducible exact hS0 | go_keep)
        ((first
          | (go_at_call 50; (with_reducible refine Hc.out.mono ?_); rintro e w2 ⟨rfl, hb2⟩; have hb3 := ((Below.refl wr.heap.size wr).drew).trans hb2; have hS1 := HS.out w2 hb3; have Hb3 := Lib.hid (Hbel.out.trans (hb3.mono hz2)); clear hb2 hb3)
          | fail))
      go_wp2
      go_roundg (s.size - (k + 1))
      case measure => omega
      case rel => exact ⟨k + 1, q', by go_num, rfl, Hl.out, by omega, HK1, Hb3.out⟩
    · have HF := Lib.hid (show T = q from by rw [HK.out, str_end s k hlt]; rfl)
      have Hbz := Lib.hid (Hb1.out.trans (hbel.mono hz))
      clear HK hbel H0
      go_wp2
      go_ret
      exact ⟨by rw [HF.out]; rfl, Hbz.out⟩
end Go.Proofs.Ytcilgihmaaobeaa
end

section
namespace Go.Proofs.Ytcilgihmaaobeaa
open Go.RowKit Go.Deep Go.Sd

/-- All states. -/
def allN (S : Int) : Nat := 2 ^ S.toNat - 1
theorem shl_one (p : Nat) (h : p ≤ 12) : ∃ P : Nat, 2 ^ p = P ∧ 1 ≤ P ∧ P ≤ 4096 ∧ wrap64 ((2 : Int) ^ p) = (P : Int) := by
  have h1 : 2 ^ p ≤ 2 ^ 12 := Nat.pow_le_pow_right (by decide) h
  have h0 : 0 < 2 ^ p := Nat.pow_pos (by decide)
  refine ⟨2 ^ p, rfl, h0, h1, ?_⟩
  rw [show ((2 : Int) ^ p) = ((2 ^ p : Nat) : Int) by simp]
  generalize 2 ^ p = P at h0 h1 ⊢
  exact IntWalk.wrap64_in _ (by omega)
theorem allN_lt {S : Int} (h : S ≤ 12) : allN S < 4096 := by
  have h1 : 2 ^ S.toNat ≤ 2 ^ 12 := Nat.pow_le_pow_right (by decide) (by omega)
  have h0 : 0 < 2 ^ S.toNat := Nat.pow_pos (by decide)
  unfold allN
  omega
def readsM (l : Lb) (s : ByteArray) : Bool := isLab l && (wordM l.1 s && decide (0 < readB l.2.2 s.data.toList (allN l.2.1)))
set_option maxHeartbeats 400000 in
theorem impl_all_c {w : World} {v : Value} {l : Lb} (h : LabR w v l) (h1 : 1 ≤ l.2.1) (h2 : l.2.1 ≤ 12) :
    Calls Try.prog 38 #[v] w fun e w' => e = .returned (.int .i64 (allN l.2.1)) ∧ Below w.heap.size w w' := by
  obtain ⟨L, S, xs⟩ := l
  obtain ⟨va, rfl, _⟩ := h
  simp only at h1 h2
  obtain ⟨p, rfl⟩ := Int.eq_ofNat_of_zero_le (show 0 ≤ S by omega)
  obtain ⟨P, hP, hP1, hP2, hw⟩ := shl_one p (by omega)
  have H := Lib.hid (show allN (p : Int) = P - 1 from by unfold allN; rw [show (p : Int).toNat = p from rfl, hP])
  clear hP
  go_enter Try.func38, Try.ntmps38
  go_wp2
  go_ret
  exact ⟨by simp only [H.out]; rw [show ((P - 1 : Nat) : Int) = (P : Int) - 1 by omega]; rfl, (Below.refl _ _).alloc (Nat.le_refl _) _⟩
set_option maxHeartbeats 1000000 in
set_option maxRecDepth 10000 in
theorem spec_ReadsWord_c {w : World} {v : Value} {l : Lb} (h : LabR w v l) {s : ByteArray} (hs : s.size ≤ maxLen) :
    Calls Try.prog 61 #[v, .string s] w fun e w' => e = .returned (.bool (readsM l s)) ∧ Below w.heap.size w w' := by
  have H1 := Lib.hid (fun w1 (hb : Below w.heap.size w w1) => spec_IsLabels_c (LabR.frame _ _ _ _ h hb))
  have Hfr := Lib.hid (fun w1 (hb : Below w.heap.size w w1) => LabR.frame _ _ _ _ h hb)
  have H0 := Lib.hid (show readsM l s = (isLab l && (wordM l.1 s && decide (0 < readB l.2.2 s.data.toList (allN l.2.1)))) from rfl)
  generalize readsM l s = T at H0 ⊢
  have Hok := Lib.hid (fun h => isLab_ok (l := l) h)
  generalize hil : isLab l = il at H0 H1 Hok
  clear hil
  obtain ⟨L, S, xs⟩ := l
  obtain ⟨va, rfl, _, a, c, rfl, _, _, _, _⟩ := h
  have Hwd := Lib.hid (fun w1 => spec_IsWord_c L s w1 hs)
  have Hs := Lib.hid hs
  clear hs
  simp only at *
  generalize hn : xs.length = n at *
  clear hn
  generalize hwb : wordM L s = wb at Hwd H0
  clear hwb
  cases il with
  | false =>
    have HF := Lib.hid (show T = false from by rw [H0.out]; rfl)
    clear H0 Hok Hfr
    go_enter Try.func61, Try.ntmps61
    go_wp2_with fail
    obtain ⟨w1, ex, A0, c0, c1, c2, m1⟩ := boxA3_ex w 26 (.int .i64 L) (.int .i64 S) (.slice a n c)
    change Calls Try.prog _ _ (w.alloc (.cells #[.int .i64 L, .int .i64 S, .slice a n c] 26)) _
    rw [ex]
    clear ex
    refine (H1.out _ A0).mono ?_
    rintro e w2 ⟨rfl, hb⟩
    replace c0 := (hb.cell (p := ⟨w.heap.size, 0, none⟩) m1).trans c0
    replace c1 := (hb.cell (p := ⟨w.heap.size, 1, none⟩) m1).trans c1
    replace c2 := (hb.cell (p := ⟨w.heap.size, 2, none⟩) m1).trans c2
    replace m1 := Nat.lt_of_lt_of_le m1 hb.size
    replace A0 := A0.trans (hb.mono A0.size)
    clear hb
    go_wp2
    go_ret
    exact ⟨by rw [HF.out]; rfl, A0⟩
  | true =>
  obtain ⟨ho, hS1, hS2, hL1, hL2⟩ := Hok.out rfl
  have Hrd := Lib.hid (fun w1 (hb : Below w.heap.size w w1) => spec_read_c (Hfr.out w1 hb) ho hS2 (allN_lt hS2) Hs.out)
  simp only at *
  clear Hok Hfr ho
  obtain ⟨p, rfl⟩ := Int.eq_ofNat_of_zero_le (show 0 ≤ S by omega)
  obtain ⟨P, hP, hP1, hP2, hw⟩ := shl_one p (by omega)
  have Ha := Lib.hid (show allN (p : Int) = P - 1 from by unfold allN; rw [show (p : Int).toNat = p from rfl, hP])
  rw [Ha.out] at H0 Hrd
  clear hP Ha
  generalize readB xs s.data.toList (P - 1) = r at H0 Hrd
  have hcP : ((P - 1 : Nat) : Int) = (P : Int) - 1 := by omega
  rw [hcP] at Hrd
  clear hcP
  cases wb with
  | false =>
    have HF := Lib.hid (show T = false from by rw [H0.out]; rfl)
    clear H0 Hrd
    go_enter Try.func61, Try.ntmps61
    go_wp2_with fail
    obtain ⟨w1, ex, A0, c0, c1, c2, m1⟩ := boxA3_ex w 26 (.int .i64 L) (.int .i64 p) (.slice a n c)
    change Calls Try.prog _ _ (w.alloc (.cells #[.int .i64 L, .int .i64 p, .slice a n c] 26)) _
    rw [ex]
    clear ex
    refine (H1.out _ A0).mono ?_
    rintro e w2 ⟨rfl, hb⟩
    replace c0 := (hb.cell (p := ⟨w.heap.size, 0, none⟩) m1).trans c0
    replace c1 := (hb.cell (p := ⟨w.heap.size, 1, none⟩) m1).trans c1
    replace c2 := (hb.cell (p := ⟨w.heap.size, 2, none⟩) m1).trans c2
    replace m1 := Nat.lt_of_lt_of_le m1 hb.size
    replace A0 := A0.trans (hb.mono A0.size)
    clear hb
    go_wp2_with fail
    refine (Hwd.out _).mono ?_
    rintro e w' ⟨rfl, rfl⟩
    go_wp2
    go_ret
    exact ⟨by rw [HF.out]; rfl, A0⟩
  | true =>
    have HF := Lib.hid (show T = decide (0 < r) from by rw [H0.out]; rfl)
    clear H0
    go_enter Try.func61, Try.ntmps61
    go_wp2_with fail
    obtain ⟨w1, ex, A0, c0, c1, c2, m1⟩ := boxA3_ex w 26 (.int .i64 L) (.int .i64 p) (.slice a n c)
    change Calls Try.prog _ _ (w.alloc (.cells #[.int .i64 L, .int .i64 p, .slice a n c] 26)) _
    rw [ex]
    clear ex
    refine (H1.out _ A0).mono ?_
    rintro e w2 ⟨rfl, hb⟩
    replace c0 := (hb.cell (p := ⟨w.heap.size, 0, none⟩) m1).trans c0
    replace c1 := (hb.cell (p := ⟨w.heap.size, 1, none⟩) m1).trans c1
    replace c2 := (hb.cell (p := ⟨w.heap.size, 2, none⟩) m1).trans c2
    replace m1 := Nat.lt_of_lt_of_le m1 hb.size
    replace A0 := A0.trans (hb.mono A0.size)
    clear hb
    go_wp2_with fail
    refine (Hwd.out _).mono ?_
    rintro e w' ⟨rfl, rfl⟩
    go_wp2_with fail
    refine (Hrd.out _ A0).mono ?_
    rintro e w3 ⟨rfl, hb⟩
    replace c0 := (hb.cell (p := ⟨w.heap.size, 0, none⟩) m1).trans c0
    replace c1 := (hb.cell (p := ⟨w.heap.size, 1, none⟩) m1).trans c1
    replace c2 := (hb.cell (p := ⟨w.heap.size, 2, none⟩) m1).trans c2
    replace m1 := Nat.lt_of_lt_of_le m1 hb.size
    replace A0 := A0.trans (hb.mono A0.size)
    clear hb
    go_wp2
    go_ret
    exact ⟨by rw [HF.out]; rfl, A0⟩
end Go.Proofs.Ytcilgihmaaobeaa
end

section
namespace Go.Proofs.Ytcilgihmaaobeaa
open Go.RowKit Go.Deep Go.Sd

theorem resolvM_lab {l : Lb} (h : resolvM l = true) : isLab l = true := by
  unfold resolvM at h
  rw [Bool.and_eq_true] at h
  exact h.1
end Go.Proofs.Ytcilgihmaaobeaa
end

section
namespace Go.Sd
open Go.RowKit Go.Deep

/-- Two boxes laid one behind the other. -/
theorem boxB3_ex (w : World) (t1 t2 : TypeId) (u0 u1 u2 v0 v1 v2 : Value) : ∃ w', w' = (w.alloc (.cells #[u0, u1, u2] t1)).alloc (.cells #[v0, v1, v2] t2) ∧ Below w.heap.size w w' ∧ w'.heap.size = w.heap.size + 1 + 1 ∧
    (w'.cell? ⟨w.heap.size, 0, none⟩ = some u0 ∧ w'.cell? ⟨w.heap.size, 1, none⟩ = some u1 ∧ w'.cell? ⟨w.heap.size, 2, none⟩ = some u2) ∧
    (w'.cell? ⟨w.heap.size + 1, 0, none⟩ = some v0 ∧ w'.cell? ⟨w.heap.size + 1, 1, none⟩ = some v1 ∧ w'.cell? ⟨w.heap.size + 1, 2, none⟩ = some v2) :=
  ⟨_, rfl, ((Below.refl _ _).alloc (Nat.le_refl _) _).alloc (by simp) _, by simp, by simp [go_sem], by simp [go_sem]⟩
/-- A box's three cells. -/
def Box3 (w : World) (b : Nat) (u0 u1 u2 : Value) : Prop := b < w.heap.size ∧ w.cell? ⟨b, 0, none⟩ = some u0 ∧ w.cell? ⟨b, 1, none⟩ = some u1 ∧ w.cell? ⟨b, 2, none⟩ = some u2
theorem Box3.below {w w' : World} {b : Nat} {u0 u1 u2 : Value} (h : Box3 w b u0 u1 u2) {B : Nat} (hb : Below B w w') (hB : b < B) : Box3 w' b u0 u1 u2 :=
  ⟨Nat.lt_of_lt_of_le h.1 hb.size, (hb.cell (p := ⟨b, 0, none⟩) hB).trans h.2.1, (hb.cell (p := ⟨b, 1, none⟩) hB).trans h.2.2.1, (hb.cell (p := ⟨b, 2, none⟩) hB).trans h.2.2.2⟩
theorem New.oneG {α : Type} {e : TypeId} {R : OwnRel α} (hR : Kept R) {lo : Nat} {w : World} {u : Value} {x : α} (h : New R lo w u x) (hlo : lo ≤ w.heap.size) :
    New (OwnOf e R) lo (w.alloc (.cells #[u] e)) (.slice (some ⟨w.heap.size, 0, none⟩) 1 1) [x] := by
  obtain ⟨F, hF, hn, hge⟩ := h
  have hlt := hR.lt _ _ _ _ hF
  refine ⟨w.heap.size :: F, ⟨[u], [F], ⟨by simp, .inr ⟨w.heap.size, 1, #[u], rfl, Nat.zero_le _, heap_alloc_new w _, Nat.le_refl _, by simp [maxLen], by simp, by simp⟩⟩, rfl, ?_, by simp [Value.ownBlock]⟩, List.nodup_cons.2 ⟨fun hm => by have := hlt _ hm; omega, hn⟩, fun b hb => by
    rcases List.mem_cons.1 hb with rfl | hb
    · exact hlo
    · exact hge b hb⟩
  intro i u' x' G hu hx hG
  cases i with
  | zero =>
    simp at hu hx hG
    subst hu hx hG
    exact hR.keep _ _ _ _ _ hF fun b hb' => ((Below.refl w.heap.size w).alloc (Nat.le_refl _) _).block b (hR.lt _ _ _ _ hF b hb')
  | succ i => simp at hu
/-- A slice literal of one number. -/
theorem New.oneInt {e : TypeId} (w : World) (x : Int) : New (OInts e) w.heap.size (w.alloc (.cells #[.int .i64 x] e)) (.slice (some ⟨w.heap.size, 0, none⟩) 1 1) [x] :=
  New.oneG OIntR.kept ⟨[], ⟨rfl, rfl⟩, by simp [Fresh]⟩ (Nat.le_refl _)
abbrev Res.ints (e : TypeId) (v : Value) (xs : List Int) : Res := Res.of (OInts e) (OInts.kept e).held v xs
/-- Where the numbers lie. -/
theorem Sep.intsAt {lo : Nat} {w : World} {e : TypeId} {v : Value} {xs : List Int} {rs : List Res} (h : Sep lo w (Res.ints e v xs :: rs)) : ∃ a c, v = .slice a xs.length c ∧ xs.length ≤ c ∧ (0 < xs.length → ∃ b, a = some ⟨b, 0, none⟩ ∧ b < w.heap.size ∧ ∀ i x, xs[i]? = some x → w.cell? ⟨b, i, none⟩ = some (.int .i64 x)) := by
  have hn := h.headNew
  obtain ⟨a, c, rfl, hc, _, h1⟩ := (New.ints hn).shape
  refine ⟨a, c, rfl, hc, fun h0 => ?_⟩
  obtain ⟨b, o, rfl, hb, hx⟩ := h1 h0
  obtain ⟨x0, hx0, _⟩ := at_lt h0
  obtain ⟨b', c', hv, _⟩ := hn.int_at hx0
  have e1 : b = b' ∧ o = 0 := by simp at hv; exact ⟨hv.1.1, hv.1.2⟩
  obtain ⟨rfl, rfl⟩ := e1
  refine ⟨b, rfl, hb, fun i x hi => ?_⟩
  obtain ⟨u, hu, rfl⟩ := hx i x hi
  simpa using hu
/-- append of a number, laid in a block of its own. -/
theorem Sep.pushInt {P : Program} {lo : Nat} {w : World} {e : TypeId} {v : Value} {xs : List Int} {rs : List Res} (t ty : TypeId) (ht : P.underlying t = some (.slice e)) (hinfo : (P.info? e).map (fun i => (i.zero, i.size, i.bytes)) = some (some (.int .i64 0), 1, 8))
    (h : Sep lo w (Res.ints e v xs :: rs)) (hlo : lo ≤ w.heap.size) (x : Int) (hl : xs.length ≤ 16777216) (el : TypeId) :
    ∃ a c w', (Builtin.append_ #[t, t] ty #[v, .slice (some ⟨w.heap.size, 0, none⟩) 1 1]).run P (w.alloc (.cells #[.int .i64 x] el)) = .ok (.slice a (xs ++ [x]).length c) w' ∧ Sep lo w' (Res.ints e (.slice a (xs ++ [x]).length c) (xs ++ [x]) :: rs) ∧ Below lo w w' := by
  obtain ⟨v', w', hr, hs, hb⟩ := Sep.push (P := P) OIntR.kept t ty (.int .i64 0) 8 ht hinfo rfl h hlo ((Below.refl _ _).alloc (Nat.le_refl _) (.cells #[.int .i64 x] el)) (q := .int .i64 x) (x := x) ⟨[], ⟨rfl, rfl⟩, by simp [Fresh]⟩ (bb := w.heap.size) (c := 1) (World.cell?_alloc_at _ _ _ 0 rfl) (by omega) (by omega)
  obtain ⟨a, c, rfl, _⟩ := hs.intsAt
  exact ⟨a, c, w', hr, hs, hb⟩
/-- A slice literal of one element of sz cells. -/
theorem New.oneRow {α : Type} {e : TypeId} {sz : Nat} {f : α → List Value} (L : Lay sz f) (w : World) (x : α) (hs : sz ≤ maxLen) : New (RowG e sz f) w.heap.size (w.alloc (.cells (f x).toArray e)) (.slice (some ⟨w.heap.size, 0, none⟩) 1 1) [x] :=
  ⟨[w.heap.size], ⟨⟨by simp [L.len], .inr ⟨w.heap.size, 1, (f x).toArray, rfl, Nat.zero_le _, heap_alloc_new w _, Nat.le_refl _, by simp [maxLen], by simp [L.len], by simp; exact List.take_of_length_le (by rw [L.len]; omega)⟩⟩, by simp [Value.ownBlock]⟩, by simp [Fresh]⟩
abbrev Res.row {α : Type} (e : TypeId) (sz : Nat) (f : α → List Value) (v : Value) (xs : List α) : Res := Res.of (RowG e sz f) RowG.held v xs
theorem Sep.rowAt {α : Type} {e : TypeId} {sz : Nat} {f : α → List Value} (L : Lay sz f) {lo : Nat} {w : World} {v : Value} {xs : List α} {rs : List Res} (h : Sep lo w (Res.row e sz f v xs :: rs)) : ∃ a c, v = .slice a xs.length c ∧ (0 < xs.length → ∃ b, a = some ⟨b, 0, none⟩ ∧ lo ≤ b ∧ b < w.heap.size ∧ ∀ i x j u, xs[i]? = some x → (f x)[j]? = some u → w.cell? ⟨b, i * sz + j, none⟩ = some u) := by
  have hn := h.headNew
  obtain ⟨a, c, rfl⟩ := hn.rowSlice
  refine ⟨a, c, rfl, fun h0 => ?_⟩
  obtain ⟨g, c', hv, _, _, hlo, hg, hx⟩ := hn.rowAt L h0
  simp at hv
  exact ⟨g, hv.1, hlo, hg, fun i x j u h1 h2 => (hx i x j u h1 h2).1⟩
end Go.Sd
end

section
namespace Go.Sd

def rowOf' (r : Nat) (f : Nat → Int) : List Int := (List.range r).map f
def tabOf (p r : Nat) (f : Nat → Nat → Int) : List (List Int) := (List.range p).map fun i => rowOf' r (f i)

theorem rowOf_len (r : Nat) (f : Nat → Int) : (rowOf' r f).length = r := by simp [rowOf']
theorem tabOf_len (p r : Nat) (f : Nat → Nat → Int) : (tabOf p r f).length = p := by simp [tabOf]
theorem rowOf_at {r : Nat} {f : Nat → Int} {j : Nat} (h : j < r) : (rowOf' r f)[j]? = some (f j) := by simp [rowOf', h]
theorem tabOf_at {p r : Nat} {f : Nat → Nat → Int} {i : Nat} (h : i < p) : (tabOf p r f)[i]? = some (rowOf' r (f i)) := by simp [tabOf, h]
theorem rowOf_congr {r : Nat} {f g : Nat → Int} (h : ∀ j, j < r → f j = g j) : rowOf' r f = rowOf' r g := List.map_congr_left fun j hj => h j (List.mem_range.1 hj)
theorem tabOf_congr {p r : Nat} {f g : Nat → Nat → Int} (h : ∀ i, i < p → ∀ j, j < r → f i j = g i j) : tabOf p r f = tabOf p r g := List.map_congr_left fun i hi => rowOf_congr fun j hj => h i (List.mem_range.1 hi) j hj
theorem rowOf_set (r : Nat) (f : Nat → Int) (j : Nat) (y : Int) : (rowOf' r f).set j y = rowOf' r (fun j' => if j' = j then y else f j') := by
  apply List.ext_getElem?
  intro k
  unfold rowOf'
  by_cases hk : k < r
  · by_cases hj : j = k
    · subst hj; simp [hk]
    · rw [List.getElem?_set_ne hj]; simp [hk, Ne.symm hj]
  · rw [List.getElem?_eq_none (by simp; omega), List.getElem?_eq_none (by simp; omega)]
theorem tabOf_set (p r : Nat) (f : Nat → Nat → Int) (i : Nat) (g : Nat → Int) : (tabOf p r f).set i (rowOf' r g) = tabOf p r (fun i' => if i' = i then g else f i') := by
  apply List.ext_getElem?
  intro k
  unfold tabOf
  by_cases hk : k < p
  · by_cases hj : i = k
    · subst hj; simp [hk]
    · rw [List.getElem?_set_ne hj]; simp [hk, Ne.symm hj]
  · rw [List.getElem?_eq_none (by simp; omega), List.getElem?_eq_none (by simp; omega)]
theorem tabOf_set2 (p r : Nat) (f : Nat → Nat → Int) (i j : Nat) (y : Int) : (tabOf p r f).set i ((rowOf' r (f i)).set j y) = tabOf p r (fun i' j' => if i' = i ∧ j' = j then y else f i' j') := by
  rw [rowOf_set, tabOf_set]
  refine tabOf_congr fun i' _ j' _ => ?_
  by_cases h : i' = i
  · subst h; by_cases h2 : j' = j <;> simp [h2]
  · simp [h]
theorem take_snoc' {α : Type} {xs : List α} {i : Nat} {x : α} (h : xs[i]? = some x) : xs.take i ++ [x] = xs.take (i + 1) := by
  rw [List.take_add_one, h]; rfl
theorem rowOf_take {r : Nat} {f : Nat → Int} {i : Nat} (h : i < r) : (rowOf' r f).take i ++ [f i] = (rowOf' r f).take (i + 1) := take_snoc' (rowOf_at h)
theorem rowOf_const (r : Nat) (c : Int) : rowOf' r (fun _ => c) = List.replicate r c := by
  unfold rowOf'
  apply List.ext_getElem?
  intro k
  by_cases hk : k < r <;> simp [hk]
theorem tabOf_const (p r : Nat) (c : Int) : tabOf p r (fun _ _ => c) = List.replicate p (List.replicate r c) := by
  unfold tabOf
  rw [show (fun (i : Nat) => rowOf' r ((fun _ _ => c) i)) = fun _ => List.replicate r c from funext fun _ => rowOf_const r c]
  apply List.ext_getElem?
  intro k
  by_cases hk : k < p <;> simp [hk]

theorem ent_tabOf {p r : Nat} {f : Nat → Nat → Int} {i j : Nat} (hi : i < p) (hj : j < r) : ent (tabOf p r f) i j = f i j := by
  simp [ent, List.getD, tabOf_at hi, rowOf_at hj]
theorem mem_tabOf {p r : Nat} {f : Nat → Nat → Int} {x : List Int} (h : x ∈ tabOf p r f) : x.length = r := by
  obtain ⟨i, _, rfl⟩ := List.mem_map.1 h
  exact rowOf_len _ _
open Go.RowKit in
theorem EntAt.frame {w w' : World} {b o n l : Nat} {m : List (List Int)} (h : EntAt w b o n l m) (hb : b < w.heap.size) (hw : Below w.heap.size w w') : EntAt w' b o n l m := by
  intro i hi
  obtain ⟨a', c', h1, h2, h3⟩ := h i hi
  refine ⟨a', c', (hw.cell (p := ⟨b, o + i, none⟩) hb).trans h1, Ints.frame _ _ _ _ h2 hw, fun hl => ?_⟩
  obtain ⟨b', o', e, h4, h5⟩ := h3 hl
  exact ⟨b', o', e, Nat.lt_of_lt_of_le h4 hw.size, fun j hj => (hw.cell (p := ⟨b', o' + j, none⟩) h4).trans (h5 j hj)⟩

theorem New.heap {α : Type} {R : OwnRel α} (hR : Kept R) {lo : Nat} {w w' : World} {v : Value} {x : α} (h : New R lo w v x) (e : w'.heap = w.heap) : New R lo w' v x := by
  obtain ⟨F, hF, hf⟩ := h
  exact ⟨F, hR.keep _ _ _ _ _ hF fun b _ => by rw [e], hf⟩

/-- A plain value of an own slice: its cell, and what a store leaves. -/
theorem New.val_at {α : Type} {f : α → Value} (hf : ∀ x, (f x).oneCell' = true) {e : TypeId} {lo : Nat} {w : World} {v : Value} {xs : List α} (h : New (OwnOf e (OValR f)) lo w v xs) {i : Nat} {x : α} (hx : xs[i]? = some x) :
    ∃ b c, v = .slice (some ⟨b, 0, none⟩) xs.length c ∧ xs.length ≤ c ∧ lo ≤ b ∧ b < w.heap.size ∧ w.cell? ⟨b, i, none⟩ = some (f x) ∧ w.frozen? ⟨b, i, none⟩ = false ∧
      ∀ y, New (OwnOf e (OValR f)) lo (w.setCell ⟨b, i, none⟩ (f y)) v (xs.set i y) := by
  have hK : Kept (OValR f) := ⟨fun _ _ _ _ _ h _ => h, fun _ _ _ _ h b hb => by rw [h.2] at hb; simp at hb, fun _ _ x _ h => by rw [h.1]; exact hf x⟩
  obtain ⟨F, hF, hn, hge⟩ := h
  obtain ⟨b, c, u, G, hv, hc, hbF, hbG, hcell, hfr, ⟨rfl, rfl⟩, _, _, _, hst⟩ := hF.focus hK hn hx
  refine ⟨b, c, hv, hc, hge b hbF, (OwnOf.kept hK).lt _ _ _ _ hF b hbF, hcell, hfr, fun y => ?_⟩
  obtain ⟨F', hF', hsub, hn', _⟩ := hst w (f y) y [] ⟨rfl, rfl⟩ (by simp) (fun _ _ _ => rfl)
  exact ⟨F', hF', hn' (by simp) (by simp), fun q hq => (hsub q hq).elim (hge q) (by simp)⟩

theorem OVal.kept {α : Type} {f : α → Value} (hf : ∀ x, (f x).oneCell' = true) : Kept (OValR f) :=
  ⟨fun _ _ _ _ _ h _ => h, fun _ _ _ _ h b hb => by rw [h.2] at hb; simp at hb, fun _ _ x _ h => by rw [h.1]; exact hf x⟩

theorem Sq.set {n : Nat} {m : List (List Int)} (h : Sq n m) {i : Nat} (hi : i < n) (j : Nat) (y : Int) : Sq n (m.set i ((m.getD i []).set j y)) := by
  refine ⟨by rw [List.length_set]; exact h.1, fun r hr => ?_⟩
  rcases List.mem_or_eq_of_mem_set hr with hr | hr
  · exact h.2 r hr
  · rw [hr, List.length_set]
    exact h.2 _ (by simp [List.getD, show i < m.length by have := h.1; omega])
theorem Sq.row {n : Nat} {m : List (List Int)} (h : Sq n m) {i : Nat} (hi : i < n) : m[i]? = some (m.getD i []) ∧ (m.getD i []).length = n := by
  have h1 : i < m.length := by have := h.1; omega
  have h2 : m[i]? = some (m.getD i []) := by simp [List.getD, h1]
  exact ⟨h2, h.2 _ (List.mem_of_getElem? h2)⟩
theorem Sq.entry {n : Nat} {m : List (List Int)} (h : Sq n m) {i j : Nat} (hi : i < n) (hj : j < n) : (m.getD i [])[j]? = some (ent m i j) := by
  have h1 := (h.row hi).2
  unfold ent
  generalize m.getD i [] = r at h1 ⊢
  simp [List.getD, show j < r.length by omega]
theorem Sq.zeros (n : Nat) : Sq n (List.replicate n (List.replicate n 0)) := ⟨by simp, fun r hr => by rw [(List.mem_replicate.1 hr).2]; simp⟩

end Go.Sd
end

section
namespace Go.Sd
open Go.RowKit Go.Deep

section
variable {P : Program} {α β : Type} {R : OwnRel α} {S : OwnRel β} {lo : Nat} {w : World} {v u : Value} {e : TypeId}
theorem Apart.mono {R : OwnRel α} {x : α} {y : β} {lo' : Nat} (h : Apart R S lo w v x u y) (hl : lo' ≤ lo) : Apart R S lo' w v x u y := by
  obtain ⟨F, G, h1, h2, h3, h4, h5⟩ := h
  exact ⟨F, G, h1, h2, ⟨h3.1, fun b hb => Nat.le_trans hl (h3.2 b hb)⟩, ⟨h4.1, fun b hb => Nat.le_trans hl (h4.2 b hb)⟩, h5⟩
end

/-- 'make([]T, n)' whose world is hidden. -/
theorem wpl_make {P : Program} {α : Type} {R : OwnRel α} {w : World} {ops : Array Oper} {rest : List Oper} {o : Oper} {a : Act} {Q : Exit → Act → World → Prop}
    (hg : o.guard = none) (l c : Operand) (t : TypeId) (hop : o.op = Op.makeSlice t l c)
    (e : TypeId) (z : Value) (bytes : Nat) (ht : P.underlying t = some (.slice e)) (hinfo : (P.info? e).map (fun i => (i.zero, i.size, i.bytes)) = some (some z, 1, bytes)) (hz1 : z.cells = #[z])
    (n : Nat) (hl : a.eval l = .int .i64 (n : Int)) (hc : a.eval c = .int .i64 (n : Int)) (hbytes : bytes * n ≤ 281474976710656) (h63 : n ≤ 9223372036854775807) {d : α} (hd : ∀ w, R w z d [])
    (hK : ∀ w', w'.heap.size = w.heap.size + 1 → New (OwnOf e R) w.heap.size w' (.slice (some ⟨w.heap.size, 0, none⟩) n n) (List.replicate n d) → Below w.heap.size w w' → wpList P ops Q rest (a.put o.dst (.slice (some ⟨w.heap.size, 0, none⟩) n n)) w') :
    wpList P ops Q (o :: rest) a w := by
  obtain ⟨i, hi, hzz⟩ := Option.map_eq_some_iff.1 hinfo
  simp only [Prod.mk.injEq] at hzz
  obtain ⟨hz, hs, hb⟩ := hzz
  refine wpList_make_row w hg l c t hop e i z ht hi hz hs hz1 .i64 .i64 n hl hc (by rw [hb]; exact hbytes) h63 ?_
  exact hK _ (by simp) (New.made e w z d n (Nat.le_refl _) h63 hd) ((Below.refl _ _).alloc (Nat.le_refl _) _)

end Go.Sd
end

section
namespace Go.Proofs.Ytcilgihmaaobeaa
open Go.RowKit Go.Deep Go.Sd
set_option linter.unusedSimpArgs false
abbrev natL (xs : List Nat) : List Int := xs.map fun s : Nat => (s : Int)
theorem idx_at {sets : List Nat} (h : sets.Nodup) {i t : Nat} (hi : sets[i]? = some t) : sets.idxOf t = i := by
  obtain ⟨hl, e⟩ := List.getElem?_eq_some_iff.1 hi
  have hm : t ∈ sets := List.mem_of_getElem? hi
  have h1 : sets.idxOf t < sets.length := List.idxOf_lt_length_iff.2 hm
  have h2 : sets[sets.idxOf t] = t := List.getElem_idxOf h1
  rcases Nat.lt_trichotomy (sets.idxOf t) i with h3 | h3 | h3
  · exact absurd (h2.trans e.symm) (List.pairwise_iff_getElem.1 h _ _ h1 hl h3)
  · exact h3
  · exact absurd (e.trans h2.symm) (List.pairwise_iff_getElem.1 h _ _ hl h1 h3)
set_option maxHeartbeats 4000000 in
set_option maxRecDepth 100000 in
theorem l15Sets_c {w : World} {v : Value} {l : Lb} (h : LabR w v l) (ho : okArcs l.2.1 l.2.2) (hS1 : 1 ≤ l.2.1) (hS2 : l.2.1 ≤ 12) (hL1 : 1 ≤ l.1) (hL2 : l.1 ≤ 3) :
    Calls Try.prog 40 #[v] w fun e w' => ∃ r s, e = .returned (.tuple #[r, s]) ∧ Apart (OInts 3) (OTab 3 54) w.heap.size w' r (natL (bfsS l.2.2 l.1.toNat 4096 [allN l.2.1] 0 []).1) s (bfsS l.2.2 l.1.toNat 4096 [allN l.2.1] 0 []).2 ∧ Below w.heap.size w w' := by
  have Hfr := Lib.hid (fun w1 (hb : Below w.heap.size w w1) => LabR.frame _ _ _ _ h hb)
  obtain ⟨L, S, xs⟩ := l
  obtain ⟨_, rfl, -, a, c, rfl, -, -, -, -⟩ := h
  simp only at *
  generalize hn : xs.length = n at *
  clear hn
  obtain ⟨N, rfl⟩ := Int.eq_ofNat_of_zero_le (show 0 ≤ L by omega)
  obtain ⟨p, rfl⟩ := Int.eq_ofNat_of_zero_le (show 0 ≤ S by omega)
  rw [show (N : Int).toNat = N from rfl]
  obtain ⟨P, hP, hP1, hP2, hwp⟩ := shl_one p (by omega)
  obtain ⟨A, rfl⟩ : ∃ x, P = x + 1 := ⟨P - 1, by omega⟩
  have hA : allN (p : Int) = A := by unfold allN; rw [show (p : Int).toNat = p from rfl, hP]; rfl
  rw [hA]
  replace hwp : wrap64 (2 ^ p) = (A : Int) + 1 := by rw [hwp]; omega
  have hwA : wrap64 (A : Int) = (A : Int) := IntWalk.wrap64_in _ (by omega)
  have hA0 : 0 < A := by
    have : 2 ^ 1 ≤ 2 ^ p := Nat.pow_le_pow_right (by decide) (by omega)
    omega
  have HO := Lib.hid (show OkS [A] from ⟨by simp, fun s hs => by simp at hs; subst hs; omega⟩)
  have HSt := Lib.hid (fun w' (hb : Below w.heap.size w w') q (hq : q < 4096) x => spec_step_c (Hfr.out w' hb) ho hS2 hq x)
  have Hlt := Lib.hid (fun q x => stepN_lt ho hS2 q x)
  simp only at HSt Hlt
  obtain ⟨T, hT⟩ : ∃ T, T = bfsS xs N 4096 [A] 0 [] := ⟨_, rfl⟩
  rw [← hT]
  have HT := Lib.hid hT.symm
  clear hT
  have hp1 : p < 64 := by omega
  have hN3 : N ≤ 3 := by omega
  clear hP hA ho hS1 hS2 hL1 hL2 hP1 hP2 hA0 Hfr
  obtain ⟨w1, ex, hb1, c0, c1, c2, m1⟩ := boxA3_ex w 26 (.int .i64 (N : Int)) (.int .i64 (p : Int)) (.slice a n c)
  have A1 := Lib.hid hb1
  clear hb1
  go_enter Try.func40, Try.ntmps40
  go_wp2
  clear hwp hwA hp1 ex
  obtain ⟨w3, e3⟩ : ∃ x, x = ((w1.alloc (.cells #[.int .i64 (A : Int)] 3)).alloc (.cells #[] 54)) := ⟨_, rfl⟩
  rw [← e3]
  have HS0 := Lib.hid (show Sep w1.heap.size w3 [Res.ints 3 (.slice (some ⟨w1.heap.size, 0, none⟩) 1 1) (natL [A]), Res.of (OTab 3 54) (OTab.kept _ _).held (.slice (some ⟨w1.heap.size + 1, 0, none⟩) 0 0) []] from by
    have h1 := (Sep.nil w1.heap.size w1).new (OInts.kept 3).held ((Below.refl _ _).alloc (Nat.le_refl _) _) (Nat.le_refl _) (New.oneInt (e := 3) w1 (A : Int))
    have hz : (w1.alloc (.cells #[.int .i64 (A : Int)] 3)).heap.size = w1.heap.size + 1 := by simp
    have h2 := h1.new (OTab.kept 3 54).held ((Below.refl _ _).alloc (Nat.le_refl _) _) (by simp) (New.empty (e := 54) (R := OInts 3) (w1.alloc (.cells #[.int .i64 (A : Int)] 3)) (Nat.le_refl _))
    rw [hz, ← e3] at h2
    exact h2.swap)
  have HB0 := Lib.hid (show Below w1.heap.size w1 w3 from by rw [e3]; exact ((Below.refl _ _).alloc (Nat.le_refl _) _).alloc (by simp) _)
  have K0 := Lib.hid c0
  have K1 := Lib.hid c1
  have K2 := Lib.hid c2
  clear e3 c0 c1 c2
  go_loopg [4, 5, 6] 4096 (fun g vs vn i wr => ∃ (k : Nat) (sets : List Nat) (next : List (List Int)) (la na : Option Addr) (lc nc : Nat), vs = .slice la sets.length lc ∧ vn = .slice na next.length nc ∧ i = .int .i64 k ∧ k + g = 4096 ∧ next.length = k ∧ Hid (OkS sets) ∧ Hid (bfsS xs N g sets k next = T) ∧ Hid (Sep w1.heap.size wr [Res.ints 3 vs (natL sets), Res.of (OTab 3 54) (OTab.kept _ _).held vn next]) ∧ Hid (Below w1.heap.size w1 wr))
  case atStart => exact ⟨0, [A], [], _, _, _, _, rfl, rfl, rfl, by omega, rfl, HO, HT, HS0, HB0⟩
  case round =>
    clear HO HT HS0 HB0
    obtain ⟨k, sets, next, la, na, lc, nc, rfl, rfl, rfl, hk, hnk, HO, HT, HS, HB⟩ := hrel
    have Hl := Lib.hid HO.out.len
    by_cases hlt : k < sets.length
    · obtain ⟨s, hs, _⟩ := at_lt hlt
      obtain ⟨wq, rfl⟩ : ∃ x, x = wr := ⟨_, rfl⟩
      have hl := Hl.out
      have hz := HB.out.size
      obtain ⟨g, rfl⟩ : ∃ x, gk = x + 1 := ⟨gk - 1, by omega⟩
      have HT2 := Lib.hid (show bfsS xs N g (rowS xs s N 0 sets []).1 (k + 1) (next ++ [(rowS xs s N 0 sets []).2]) = T from by have h := HT.out; unfold bfsS at h; rw [hs] at h; exact h)
      have Hs := Lib.hid hs
      have HS2 := Lib.hid ((HS.out.new (OInts.kept 3).held ((Below.refl _ _).alloc (Nat.le_refl _) _) hz (New.empty (e := 3) (R := OIntR) wq (Nat.le_refl _))).swap)
      have HB2 := Lib.hid (HB.out.alloc hz (.cells #[] 3))
      have hki : (k : Int) < (sets.length : Int) := by omega
      obtain ⟨w2, e2⟩ : ∃ x, x = wq.alloc (.cells #[] 3) := ⟨_, rfl⟩
      rw [← e2] at HS2 HB2
      have e2s := e2.symm
      have Hnk := Lib.hid hnk
      clear HT HS HB hs e2 hnk
      go_wp2
      clear e2s
      go_loopg [4, 7, 8] N (fun g2 vs vr i wx => ∃ (x : Nat) (sets : List Nat) (row : List Int) (la ra : Option Addr) (lc rc : Nat), vs = .slice la sets.length lc ∧ vr = .slice ra row.length rc ∧ i = .int .i64 x ∧ x + g2 = N ∧ row.length = x ∧ k < sets.length ∧ Hid (OkS sets) ∧ Hid (sets[k]? = some s) ∧ Hid (bfsS xs N g (rowS xs s g2 x sets row).1 (k + 1) (next ++ [(rowS xs s g2 x sets row).2]) = T) ∧ Hid (Sep w1.heap.size wx [Res.ints 3 vs (natL sets), Res.ints 3 vr row, Res.of (OTab 3 54) (OTab.kept _ _).held (.slice na next.length nc) next]) ∧ Hid (Below w1.heap.size w1 wx))
      case atStart => exact ⟨0, sets, [], _, _, _, _, rfl, rfl, rfl, by omega, rfl, hlt, HO, Hs, HT2, HS2, HB2⟩
      case round =>
        clear HO Hs HT2 HS2 HB2 Hl hl hlt hki hz
        obtain ⟨x, sets, row, la, ra, lc, rc, rfl, rfl, rfl, hx, hrow, hlt, HO, Hs, HT2, HS, HB⟩ := hrel
        obtain ⟨wx, rfl⟩ : ∃ x, x = wr := ⟨_, rfl⟩
        have Hl := Lib.hid HO.out.len
        have xc0 := (HB.out.cell (p := ⟨w.heap.size, 0, none⟩) m1).trans K0.out
        have xc1 := (HB.out.cell (p := ⟨w.heap.size, 1, none⟩) m1).trans K1.out
        have xc2 := (HB.out.cell (p := ⟨w.heap.size, 2, none⟩) m1).trans K2.out
        have hz := HB.out.size
        by_cases hxl : x < N
        · obtain ⟨g2, hg2⟩ : ∃ y, gk = y + 1 := ⟨gk - 1, by omega⟩
          subst hg2
          obtain ⟨_, _, hv, _, hq⟩ := HS.out.intsAt
          obtain ⟨bl, e1, hbl, hcl⟩ := hq (by simp; omega)
          simp at hv
          obtain ⟨rfl, rfl⟩ := hv
          subst e1
          have f0 := hcl k (s : Int) (by simp [Hs.out])
          have Hcl := Lib.hid hcl
          have hs4 := (HO.out.2 s (List.mem_of_getElem? Hs.out)).2
          have HA := Lib.hid (A1.out.trans (HB.out.mono A1.out.size))
          have C1 := Lib.hid (fun w' (hb : Below w.heap.size w w') => HSt.out w' hb s hs4 (x : Int))
          have Htl := Lib.hid (Hlt.out s (x : Int))
          have HTx := Lib.hid (show bfsS xs N g (rowS xs s g2 (x + 1) (addS sets (stepN xs s (x : Int))) (row ++ [posS sets (stepN xs s (x : Int))])).1 (k + 1) (next ++ [(rowS xs s g2 (x + 1) (addS sets (stepN xs s (x : Int))) (row ++ [posS sets (stepN xs s (x : Int))])).2]) = T from HT2.out)
          generalize stepN xs s (x : Int) = t at C1 Htl HTx
          have hkl : (k : Int) < (sets.length : Int) := by omega
          have hxN : (x : Int) < (N : Int) := by omega
          have hS0 : wx.cell? ⟨w.heap.size, 0, none⟩ = some (.int .i64 (N : Int)) ∧ wx.cell? ⟨w.heap.size, 1, none⟩ = some (.int .i64 (p : Int)) ∧ wx.cell? ⟨w.heap.size, 2, none⟩ = some (.slice a n c) ∧ wx.cell? ⟨bl, k, none⟩ = some (.int .i64 (s : Int)) := ⟨xc0, xc1, xc2, f0⟩
          have hSd : wx.drew.cell? ⟨w.heap.size, 0, none⟩ = some (.int .i64 (N : Int)) ∧ wx.drew.cell? ⟨w.heap.size, 1, none⟩ = some (.int .i64 (p : Int)) ∧ wx.drew.cell? ⟨w.heap.size, 2, none⟩ = some (.slice a n c) ∧ wx.drew.cell? ⟨bl, k, none⟩ = some (.int .i64 (s : Int)) := hS0
          have m1x : w.heap.size < wx.heap.size := Nat.lt_of_lt_of_le m1 hz
          have HSS := Lib.hid (fun (w' : World) (hb3 : Below wx.heap.size wx w') => (show w'.cell? ⟨w.heap.size, 0, none⟩ = some (.int .i64 (N : Int)) ∧ w'.cell? ⟨w.heap.size, 1, none⟩ = some (.int .i64 (p : Int)) ∧ w'.cell? ⟨w.heap.size, 2, none⟩ = some (.slice a n c) ∧ w'.cell? ⟨bl, k, none⟩ = some (.int .i64 (s : Int)) from ⟨(hb3.cell (p := ⟨w.heap.size, 0, none⟩) m1x).trans hS0.1, (hb3.cell (p := ⟨w.heap.size, 1, none⟩) m1x).trans hS0.2.1, (hb3.cell (p := ⟨w.heap.size, 2, none⟩) m1x).trans hS0.2.2.1, (hb3.cell (p := ⟨bl, k, none⟩) hbl).trans hS0.2.2.2⟩))
          have B1 := (Below.refl wx.heap.size wx).drew
          have HA1 := HA.out.trans (B1.mono HA.out.size)
          clear hcl hq HT2 f0 xc1 xc2 hs4
          go_wp2
          go_region_held3 (fun w' => w'.cell? ⟨w.heap.size, 0, none⟩ = some (.int .i64 (N : Int)) ∧ w'.cell? ⟨w.heap.size, 1, none⟩ = some (.int .i64 (p : Int)) ∧ w'.cell? ⟨w.heap.size, 2, none⟩ = some (.slice a n c) ∧ w'.cell? ⟨bl, k, none⟩ = some (.int .i64 (s : Int)))
            (first | with_reducible exact hS1 | with_reducible exact hSd | with_reducible exact hS0 | go_keep)
            ((first
              | (go_at_call 50; (with_reducible refine (C1.out _ HA1).mono ?_); rintro e w4 ⟨rfl, hb2⟩; have hb3 := B1.trans hb2; have hS1 := HSS.out w4 hb3; clear hb2)
              | fail))
          clear hS0 hSd HSS B1 HA1 hS1 xc0
          have H34 := Lib.hid hb3
          have hz4 := hb3.size
          have HS4 := Lib.hid (HS.out.below hb3 (Nat.le_refl _))
          have HB4 := Lib.hid (HB.out.trans (hb3.mono hz))
          have Hk := Lib.hid (fun (i z : Nat) (hi : sets[i]? = some z) => (show w4.cell? ⟨bl, i, none⟩ = some (.int .i64 (z : Int)) from (H34.out.cell (p := ⟨bl, i, none⟩) hbl).trans (Hcl.out i (z : Int) (by simp [hi]))))
          have hbl4 : bl < w4.heap.size := by omega
          have hz14 : w1.heap.size ≤ w4.heap.size := by omega
          clear HS HB H34 Hcl hbl hb3 HA C1 hz4
          have hl := Hl.out
          by_cases ht0 : t = 0
          · subst ht0
            have HTy := Lib.hid (show bfsS xs N g (rowS xs s g2 (x + 1) sets (row ++ [-1])).1 (k + 1) (next ++ [(rowS xs s g2 (x + 1) sets (row ++ [-1])).2]) = T from by have h := HTx.out; rw [show addS sets 0 = sets from by unfold addS; rw [if_pos (Or.inl rfl)], show posS sets 0 = -1 from rfl] at h; exact h)
            obtain ⟨ra', rc', w9, hr9, hs9, hb9⟩ := HS4.out.swap.pushInt (P := Try.prog) 54 54 Try.underlying54 infoI (by omega) (-1) (by omega) 3
            have e9 : (row ++ [(-1)]).length = x + 1 := by simp [hrow]
            rw [e9] at hr9 hs9
            have HS9 := Lib.hid hs9.swap
            have HB9 := Lib.hid (HB4.out.trans hb9)
            have Hr9 := Lib.hid hr9
            have E9 := Lib.hid e9
            rw [hrow] at Hr9
            clear hr9 hs9 hb9 e9
            clear HTx Hk HS4 HB4
            go_wp2
            go_loopg [10, 11] 0 (fun g3 va i wy => va = .int .i64 (-1) ∧ i = .int .i64 0 ∧ w4 = wy)
            case atStart => exact ⟨rfl, rfl, rfl⟩
            case round =>
              obtain ⟨rfl, rfl, rfl⟩ := hrel
              go_wp2_with (first
                | (at_builtin; refine wpl_append_run rfl (.tmp 68) (.tmp 70) 54 rfl rfl rfl Hr9.out ?_)
                | fail)
              go_roundg (N - (x + 1))
              case measure => omega
              case rel => exact ⟨x + 1, sets, row ++ [-1], _, _, _, _, rfl, by rw [E9.out], by go_num, by omega, E9.out, hlt, HO, Hs, by rw [show N - (x + 1) = g2 by omega]; exact HTy, HS9, HB9⟩
          · have ht1 : 0 < t := by omega
            have ht2 : (0 : Int) < (t : Int) := by omega
            go_wp2
            go_loopg [10, 11] sets.length (fun g3 va i wy => ∃ (j : Nat) (q : Int), va = .int .i64 q ∧ i = .int .i64 j ∧ j + g3 = sets.length ∧ Hid (q = if t ∈ sets.take j then (sets.idxOf t : Int) else -1) ∧ w4 = wy)
            case atStart => exact ⟨0, -1, rfl, rfl, by omega, Lib.hid (by simp), rfl⟩
            case round =>
              obtain ⟨j, q, rfl, rfl, hj, HK, rfl⟩ := hrel
              by_cases hjl : j < sets.length
              · obtain ⟨z, hzz, _⟩ := at_lt hjl
                have g0 := Hk.out j z hzz
                have HTk := Lib.hid (show sets.take (j + 1) = sets.take j ++ [z] from (take_snoc' hzz).symm)
                have Hzz := Lib.hid hzz
                have hji : (j : Int) < (sets.length : Int) := by omega
                clear hzz
                by_cases q1 : z = t
                · subst q1
                  have t1 : ((z : Int) == (z : Int)) = true := by simp
                  go_wp2
                  go_roundg (sets.length - (j + 1))
                  case measure => omega
                  case rel => exact ⟨j + 1, (j : Int), rfl, by go_num, by omega, Lib.hid (by rw [HTk.out, if_pos (by simp), idx_at HO.out.1 Hzz.out]), rfl⟩
                · have t1 : ((z : Int) == (t : Int)) = false := by simp; omega
                  have HK2 := Lib.hid (show q = if t ∈ sets.take (j + 1) then (sets.idxOf t : Int) else -1 from by rw [HK.out, HTk.out]; have e : (t ∈ sets.take j ++ [z]) ↔ t ∈ sets.take j := (by simp; intro e; exact absurd e.symm q1); simp only [e])
                  clear HK
                  go_wp2
                  go_roundg (sets.length - (j + 1))
                  case measure => omega
                  case rel => exact ⟨j + 1, q, rfl, by go_num, by omega, HK2, rfl⟩
              · have hje : j = sets.length := by omega
                have HK2 := Lib.hid (show q = if t ∈ sets then (sets.idxOf t : Int) else -1 from by rw [HK.out, hje, List.take_of_length_le (Nat.le_refl _)])
                have hji : ¬ ((j : Int) < (sets.length : Int)) := by omega
                clear HK Hk hj hje hjl
                by_cases hm : t ∈ sets
                · have hq : q = (sets.idxOf t : Int) := by rw [HK2.out, if_pos hm]
                  have hq0 : ¬ (q < 0) := by omega
                  have HTy := Lib.hid (show bfsS xs N g (rowS xs s g2 (x + 1) sets (row ++ [q])).1 (k + 1) (next ++ [(rowS xs s g2 (x + 1) sets (row ++ [q])).2]) = T from by have h := HTx.out; rw [show addS sets t = sets from (by unfold addS; rw [if_pos (Or.inr hm)]), show posS sets t = q from (by unfold posS; rw [if_neg ht0, hq])] at h; exact h)
                  obtain ⟨ra', rc', w9, hr9, hs9, hb9⟩ := HS4.out.swap.pushInt (P := Try.prog) 54 54 Try.underlying54 infoI (by omega) q (by omega) 3
                  have e9 : (row ++ [q]).length = x + 1 := by simp [hrow]
                  rw [e9] at hr9 hs9
                  have HS9 := Lib.hid hs9.swap
                  have HB9 := Lib.hid (HB4.out.trans hb9)
                  have Hr9 := Lib.hid hr9
                  have E9 := Lib.hid e9
                  rw [hrow] at Hr9
                  clear hr9 hs9 hb9 e9
                  clear HTx HS4 HB4 HK2 hq hm
                  go_wp2_with (first
                    | (at_builtin; refine wpl_append_run rfl (.tmp 68) (.tmp 70) 54 rfl rfl rfl Hr9.out ?_)
                    | fail)
                  go_roundg (N - (x + 1))
                  case measure => omega
                  case rel => exact ⟨x + 1, sets, row ++ [q], _, _, _, _, rfl, by rw [E9.out], by go_num, by omega, E9.out, hlt, HO, Hs, by rw [show N - (x + 1) = g2 by omega]; exact HTy, HS9, HB9⟩
                · have hq : q = -1 := by rw [HK2.out, if_neg hm]
                  subst hq
                  have HTy := Lib.hid (show bfsS xs N g (rowS xs s g2 (x + 1) (sets ++ [t]) (row ++ [(sets.length : Int)])).1 (k + 1) (next ++ [(rowS xs s g2 (x + 1) (sets ++ [t]) (row ++ [(sets.length : Int)])).2]) = T from by have h := HTx.out; rw [show addS sets t = sets ++ [t] from (by unfold addS; rw [if_neg (by simp [ht0, hm])]), show posS sets t = (sets.length : Int) from (by unfold posS; rw [if_neg ht0, List.idxOf_eq_length hm])] at h; exact h)
                  have HO2 := Lib.hid (show OkS (sets ++ [t]) from by have h := HO.out.add Htl.out; rwa [show addS sets t = sets ++ [t] from (by unfold addS; rw [if_neg (by simp [ht0, hm])])] at h)
                  obtain ⟨la', lc', w8, hr8, hs8, hb8⟩ := HS4.out.pushInt (P := Try.prog) 54 54 Try.underlying54 infoI hz14 (t : Int) (by simp; omega) 3
                  have e8 : natL sets ++ [(t : Int)] = natL (sets ++ [t]) := by simp
                  have e8' : (natL (sets ++ [t])).length = sets.length + 1 := by simp
                  rw [e8, e8'] at hr8 hs8
                  have HS8 := Lib.hid hs8
                  have HB8 := Lib.hid (HB4.out.trans hb8)
                  have hz8 := hb8.size
                  have Hr8 := Lib.hid hr8
                  have Hs2 := Lib.hid (show (sets ++ [t])[k]? = some s from by rw [List.getElem?_append_left hlt]; exact Hs.out)
                  have Hlt2 := Lib.hid (show k < (sets ++ [t]).length from by simp; omega)
                  have E8 := Lib.hid (show (sets ++ [t]).length = sets.length + 1 from by simp)
                  clear hs8 hb8 hr8 e8 e8'
                  obtain ⟨ra', rc', w9, hr9, hs9, hb9⟩ := HS8.out.swap.pushInt (P := Try.prog) 54 54 Try.underlying54 infoI (by omega) (sets.length : Int) (by omega) 3
                  have e9 : (row ++ [(sets.length : Int)]).length = x + 1 := by simp [hrow]
                  rw [e9] at hr9 hs9
                  have HS9 := Lib.hid hs9.swap
                  have HB9 := Lib.hid (HB8.out.trans hb9)
                  have Hr9 := Lib.hid hr9
                  have E9 := Lib.hid e9
                  rw [hrow] at Hr9
                  clear hr9 hs9 hb9 e9
                  clear HTx HS4 HB4 HK2 hm HS8 HB8
                  go_wp2_with (first
                    | (at_builtin; refine wpl_append_run rfl (.tmp 64) (.tmp 66) 54 rfl rfl rfl Hr8.out ?_)
                    | (at_builtin; refine wpl_append_run rfl (.tmp 68) (.tmp 70) 54 rfl rfl rfl Hr9.out ?_)
                    | fail)
                  go_roundg (N - (x + 1))
                  case measure => omega
                  case rel => exact ⟨x + 1, sets ++ [t], row ++ [(sets.length : Int)], _, _, _, _, by rw [E8.out], by rw [E9.out], by go_num, by omega, E9.out, Hlt2.out, HO2, Hs2, by rw [show N - (x + 1) = g2 by omega]; exact HTy, HS9, HB9⟩
        · have hg : gk = 0 := by omega
          have HTy := Lib.hid (show bfsS xs N g sets (k + 1) (next ++ [row]) = T from by have h := HT2.out; rw [hg] at h; exact h)
          have hxi : ¬ ((x : Int) < (N : Int)) := by omega
          have hl := Hl.out
          have hnk := Hnk.out
          obtain ⟨v', w6, hr6, hs6, hb6⟩ := HS.out.third.swap23.absorb (P := Try.prog) (OInts.kept 3) 60 60 (.slice none 0 0) 24 Try.underlying60 infoR rfl hz (w1 := wx.alloc (.cells #[.slice ra row.length rc] 54)) ((Below.refl _ _).alloc (Nat.le_refl _) _) (bb := wx.heap.size) (c := 1) (World.cell?_alloc_at _ _ _ 0 rfl) (by omega) (by omega)
          obtain ⟨na', nc', ev, _⟩ := (New.tab hs6.headNew).shape
          rw [ev] at hr6 hs6
          have e6 : (next ++ [row]).length = k + 1 := by simp; exact Hnk.out
          rw [e6] at hr6 hs6
          have HS6 := Lib.hid hs6.swap
          have HB6 := Lib.hid (HB.out.trans hb6)
          rw [hrow] at hr6 ⊢
          have Hr6 := Lib.hid hr6
          clear hrow
          have E6 := Lib.hid e6
          clear hnk hr6 hs6 hb6 ev e6 HS HB HT2 xc1 xc2
          go_wp2_with (first
            | (at_builtin; refine wpl_append_run rfl (.tmp 72) (.tmp 74) 60 rfl rfl rfl Hr6.out ?_)
            | fail)
          go_roundg g
          case measure => omega
          case rel => exact ⟨k + 1, sets, next ++ [row], _, _, _, _, rfl, by rw [E6.out], by go_num, by omega, E6.out, HO, HTy, HS6, HB6⟩
    · have HF := Lib.hid (show T = (sets, next) from by
        rw [← HT.out]
        cases gk with
        | zero => rfl
        | succ g => unfold bfsS; rw [List.getElem?_eq_none (by omega)])
      have Hz := Lib.hid (A1.out.trans (HB.out.mono A1.out.size))
      have hki : ¬ ((k : Int) < (sets.length : Int)) := by omega
      have HP := Lib.hid HS.out
      have hz := A1.out.size
      clear HS HB HT hnk
      go_wp2
      go_ret2
      refine ⟨_, _, rfl, ?_, Hz.out⟩
      rw [HF.out]
      exact (HP.out.apart).mono hz
end Go.Proofs.Ytcilgihmaaobeaa
end

section
namespace Go.Proofs.Ytcilgihmaaobeaa
open Go.RowKit Go.Deep Go.Sd
set_option linter.unusedSimpArgs false
theorem all_ok {S : Int} (hS1 : 1 ≤ S) (hS2 : S ≤ 12) : OkS [allN S] := by
  have h1 := allN_lt hS2
  have h2 : 2 ^ 1 ≤ 2 ^ S.toNat := Nat.pow_le_pow_right (by decide) (by omega)
  refine ⟨by simp, fun s hs => ?_⟩
  simp at hs
  subst hs
  exact ⟨by unfold allN; omega, h1⟩
end Go.Proofs.Ytcilgihmaaobeaa
end

section
namespace Go.Proofs.Ytcilgihmaaobeaa
open Go.RowKit Go.Deep Go.Sd
set_option linter.unusedSimpArgs false
/-- A word as a text. -/
def wordT (wd : List Nat) : ByteArray := ⟨(wd.map fun x => UInt8.ofNat (97 + x)).toArray⟩
theorem conv_word {w : World} {src dst e : TypeId} (hs : Try.prog.underlying src = some (.slice e)) (he : Try.prog.underlying e = some (.int .u8)) (hd : Try.prog.underlying dst = some .string) {a : Option Addr} {n c : Nat} {wd : List Nat} (h : SlOf (ValR letV) w (.slice a n c) wd) (hw : ∀ x, x ∈ wd → x < 3) :
    (convert src dst (.slice a n c)).run Try.prog w = .ok (.string (wordT wd)) w := by
  obtain ⟨a', c', hv, _, _, hx⟩ := h.shape
  simp at hv
  obtain ⟨rfl, rfl, rfl⟩ := hv
  cases a with
  | none =>
    have h0 : wd = [] := by
      cases wd with
      | nil => rfl
      | cons x t => obtain ⟨b, o, h1, _⟩ := hx (by simp); cases h1
    subst h0
    exact run_convert_bytes_nil w src e hs he _ _ dst hd
  | some ad =>
    have h1 := run_convert_bytes_back (P := Try.prog) w src dst e ad c (wd.map fun x => UInt8.ofNat (97 + x)) hs he hd (fun j hj => by
      have hjl : j < wd.length := by simpa using hj
      obtain ⟨b, o, e1, _, hc⟩ := hx (by omega)
      cases e1
      obtain ⟨x, hxj, _⟩ := at_lt hjl
      obtain ⟨u, hu, rfl⟩ := hc j x hxj
      have e2 : (⟨b, o, none⟩ : Addr).add j = ⟨b, o + j, none⟩ := by unfold Addr.add; split <;> simp_all
      have hx3 := hw x (List.mem_of_getElem? hxj)
      have e3 : wd[j] = x := by rw [List.getElem?_eq_getElem hjl] at hxj; exact Option.some.inj hxj
      rw [e2, hu]
      simp only [List.getElem_map, e3, letV]
      have e4 : (UInt8.ofNat (97 + x)).toNat = 97 + x := by simp; omega
      rw [e4]
      rfl)
    rw [List.length_map] at h1
    exact h1
end Go.Proofs.Ytcilgihmaaobeaa
end
