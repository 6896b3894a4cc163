/-
  Texts of this claim joined: laws for its walks, contracts of the functions that the law reaches.
-/
import Derived.Test.YtdohepngandajaaRows
import Derived.Test.YtdohepngandajaaResolveLabelsM1
import Derived.Test.YtdohepngandajaaResolveLabelsM2
import Derived.Test.YtdohepngandajaaResolveLabelsM3
import Derived.Test.YtdohepngandajaaResolveLabelsM5
import Derived.Test.YtdohepngandajaaResolveLabelsM12
import Derived.IntWalk
import Derived.Deep.RegionHeld3
import Derived.Deep.DeepCutAuto
import Derived.Test.YtdohepngandajaaResolveLabelsM4
import Derived.Test.YtdohepngandajaaResolveLabelsM6
import Derived.Test.YtdohepngandajaaResolveLabelsM7
import Derived.Test.YtdohepngandajaaResolveLabelsM10
import Derived.Test.YtdohepngandajaaResolveLabelsM11
section
/-
  The set of states to which a word leads; which words are read: both sides.
-/
namespace Go.Proofs.Ytdohepngandajaa
open Go.RowKit Go.Deep Go.Sd

def readB (xs : List Arc3) : List UInt8 → Nat → Nat
  | [], s => s
  | c :: l, s => readB xs l (stepN xs s ((c.toNat : Int) - 97))
theorem readB_lt {S : Int} {xs : List Arc3} (h : okArcs S xs) (hS : S ≤ 12) : ∀ (l : List UInt8) (s : Nat), s < 4096 → readB xs l s < 4096
  | [], _, hs => hs
  | _ :: l, s, _ => readB_lt h hS l _ (stepN_lt h hS s _)
theorem letB_ge {k : Int} : ∀ {l : List UInt8}, letB k l = true → ∀ c, c ∈ l → 97 ≤ c.toNat ∧ (c.toNat : Int) - 97 < k
  | [], _, c, hc => by cases hc
  | b :: l, h, c, hc => by
    have h1 : (if 97 ≤ b.toNat ∧ (b.toNat : Int) - 97 < k then letB k l else false) = true := h
    by_cases hb : 97 ≤ b.toNat ∧ (b.toNat : Int) - 97 < k
    · rw [if_pos hb] at h1
      rcases List.mem_cons.1 hc with rfl | hc
      · exact hb
      · exact letB_ge h1 c hc
    · rw [if_neg hb] at h1; cases h1
theorem str_mem (s : ByteArray) (k : Nat) (h : k < s.size) : s[k] ∈ s.data.toList := by
  have h1 := str_drop s k h
  exact List.mem_of_mem_drop (i := k) (by rw [h1]; simp)
set_option maxHeartbeats 4000000 in
set_option maxRecDepth 10000 in
theorem impl_read_c {w : World} {v : Value} {l : Lb} (h : LabR w v l) (hv : okArcs l.2.1 l.2.2) (hS : l.2.1 ≤ 12) {q0 : Nat} (hq0 : q0 < 4096) {s : ByteArray} (hs : s.size ≤ maxLen) (hw : ∀ c, c ∈ s.data.toList → 97 ≤ c.toNat) :
    Calls Try.prog 81 #[v, .int .i64 q0, .string s] w fun e w' => e = .returned (.int .i64 (readB l.2.2 s.data.toList q0)) ∧ Below w.heap.size w w' := by
  unfold maxLen at hs
  have Hst := Lib.hid (fun w1 (hb : Below w.heap.size w w1) q (hq : q < 4096) x => impl_step_c (LabR.frame _ _ _ _ h hb) hv hS hq x)
  obtain ⟨L, S, xs⟩ := l
  obtain ⟨va, rfl, _, a, c, rfl, _, _, _, _⟩ := h
  simp only at hv hS
  simp only at Hst
  simp only
  have H0 := Lib.hid (show readB xs s.data.toList q0 = readB xs (s.data.toList.drop 0) q0 from rfl)
  generalize readB xs s.data.toList q0 = T at H0 ⊢
  have Hlt := Lib.hid (fun q x => stepN_lt hv hS q x)
  have Hw := Lib.hid hw
  clear hw
  generalize xs.length = n at *
  clear hv hS
  go_enter Try.func81, Try.ntmps81
  have q0' : (w.alloc (.cells #[.int .i64 L, .int .i64 S, .slice a n c] 28)).cell? ⟨w.heap.size, 0, none⟩ = some (.int .i64 L) := by simp
  have q1' : (w.alloc (.cells #[.int .i64 L, .int .i64 S, .slice a n c] 28)).cell? ⟨w.heap.size, 1, none⟩ = some (.int .i64 S) := by simp
  have q2' : (w.alloc (.cells #[.int .i64 L, .int .i64 S, .slice a n c] 28)).cell? ⟨w.heap.size, 2, none⟩ = some (.slice a n c) := by simp
  have hb1 : Below w.heap.size w (w.alloc (.cells #[.int .i64 L, .int .i64 S, .slice a n c] 28)) := (Below.refl _ _).alloc (Nat.le_refl _) _
  have m1 : w.heap.size < (w.alloc (.cells #[.int .i64 L, .int .i64 S, .slice a n c] 28)).heap.size := by simp
  go_wp2
  generalize w.alloc (.cells #[.int .i64 L, .int .i64 S, .slice a n c] 28) = w1 at *
  have Hb1 := Lib.hid hb1
  have hz := hb1.size
  clear hb1
  go_loopg [1, 10] (s.size) (fun g u i wr => ∃ (k q : Nat), i = .int .i64 k ∧ u = .int .i64 q ∧ q < 4096 ∧ k + g = s.size ∧ Hid (T = readB xs (s.data.toList.drop k) q) ∧ Below w1.heap.size w1 wr)
  case atStart => exact ⟨0, q0, rfl, rfl, hq0, by omega, H0, Below.refl _ _⟩
  case round =>
    obtain ⟨k, q, rfl, rfl, hq, hk, HK, hbel⟩ := hrel
    by_cases hlt : k < s.size
    · have HK1 := Lib.hid (show T = readB xs (s.data.toList.drop (k + 1)) (stepN xs q ((s[k].toNat : Int) - 97)) from by rw [HK.out, str_drop s k hlt]; rfl)
      have hc := byte_lt s[k]
      have hc97 := Hw.out _ (str_mem s k hlt)
      have hS0 : wr.cell? ⟨w.heap.size, 0, none⟩ = some (.int .i64 L) ∧ wr.cell? ⟨w.heap.size, 1, none⟩ = some (.int .i64 S) ∧ wr.cell? ⟨w.heap.size, 2, none⟩ = some (.slice a n c) := ⟨(hbel.cell (p := ⟨w.heap.size, 0, none⟩) m1).trans q0', (hbel.cell (p := ⟨w.heap.size, 1, none⟩) m1).trans q1', (hbel.cell (p := ⟨w.heap.size, 2, none⟩) m1).trans q2'⟩
      have hSd : wr.drew.cell? ⟨w.heap.size, 0, none⟩ = some (.int .i64 L) ∧ wr.drew.cell? ⟨w.heap.size, 1, none⟩ = some (.int .i64 S) ∧ wr.drew.cell? ⟨w.heap.size, 2, none⟩ = some (.slice a n c) := hS0
      have hz2 := hbel.size
      have hwr : w.heap.size < wr.heap.size := by omega
      have Hbel := Lib.hid hbel
      have HB := Lib.hid ((Hb1.out.trans (hbel.mono hz)).drew)
      have HS := Lib.hid (fun (w2 : World) (hb3 : Below wr.heap.size wr w2) => (show w2.cell? ⟨w.heap.size, 0, none⟩ = some (.int .i64 L) ∧ w2.cell? ⟨w.heap.size, 1, none⟩ = some (.int .i64 S) ∧ w2.cell? ⟨w.heap.size, 2, none⟩ = some (.slice a n c) from ⟨(hb3.cell (p := ⟨w.heap.size, 0, none⟩) hwr).trans hS0.1, (hb3.cell (p := ⟨w.heap.size, 1, none⟩) hwr).trans hS0.2.1, (hb3.cell (p := ⟨w.heap.size, 2, none⟩) hwr).trans hS0.2.2⟩))
      have Hc := Lib.hid (Hst.out _ HB.out q hq ((s[k].toNat : Int) - 97))
      have Hl := Lib.hid (Hlt.out q ((s[k].toNat : Int) - 97))
      generalize stepN xs q ((s[k].toNat : Int) - 97) = q' at HK1 Hc Hl
      have hw8 : IntKind.u8.wrap ((s[k].toNat : Int) - 97) = (s[k].toNat : Int) - 97 := IntWalk.u8_in _ (by omega)
      have hw64 : IntKind.i64.wrap ((s[k].toNat : Int) - 97) = (s[k].toNat : Int) - 97 := IntWalk.i64_in _ (by omega)
      clear HK hbel H0 q0' q1' q2'
      go_wp2
      go_region_held3 (fun w' => w'.cell? ⟨w.heap.size, 0, none⟩ = some (.int .i64 L) ∧ w'.cell? ⟨w.heap.size, 1, none⟩ = some (.int .i64 S) ∧ w'.cell? ⟨w.heap.size, 2, none⟩ = some (.slice a n c))
        (first | with_reducible exact hS1 | with_reducible exact hSd | with_reducible exact hS0 | go_keep)
        ((first
          | (go_at_call 87; (with_reducible refine Hc.out.mono ?_); rintro e w2 ⟨rfl, hb2⟩; have hb3 := ((Below.refl wr.heap.size wr).drew).trans hb2; have hS1 := HS.out w2 hb3; have Hb3 := Lib.hid (Hbel.out.trans (hb3.mono hz2)); clear hb2 hb3)
          | fail))
      go_wp2
      go_roundg (s.size - (k + 1))
      case measure => omega
      case rel => exact ⟨k + 1, q', by go_num, rfl, Hl.out, by omega, HK1, Hb3.out⟩
    · have HF := Lib.hid (show T = q from by rw [HK.out, str_end s k hlt]; rfl)
      have Hbz := Lib.hid (Hb1.out.trans (hbel.mono hz))
      clear HK hbel H0
      go_wp2
      go_ret
      exact ⟨by rw [HF.out]; rfl, Hbz.out⟩
set_option maxHeartbeats 4000000 in
set_option maxRecDepth 10000 in
theorem spec_read_c {w : World} {v : Value} {l : Lb} (h : LabR w v l) (hv : okArcs l.2.1 l.2.2) (hS : l.2.1 ≤ 12) {q0 : Nat} (hq0 : q0 < 4096) {s : ByteArray} (hs : s.size ≤ maxLen) :
    Calls Try.prog 143 #[v, .int .i64 q0, .string s] w fun e w' => e = .returned (.int .i64 (readB l.2.2 s.data.toList q0)) ∧ Below w.heap.size w w' := by
  unfold maxLen at hs
  have Hst := Lib.hid (fun w1 (hb : Below w.heap.size w w1) q (hq : q < 4096) x => spec_step_c (LabR.frame _ _ _ _ h hb) hv hS hq x)
  obtain ⟨L, S, xs⟩ := l
  obtain ⟨va, rfl, _, a, c, rfl, _, _, _, _⟩ := h
  simp only at hv hS
  simp only at Hst
  simp only
  have H0 := Lib.hid (show readB xs s.data.toList q0 = readB xs (s.data.toList.drop 0) q0 from rfl)
  generalize readB xs s.data.toList q0 = T at H0 ⊢
  have Hlt := Lib.hid (fun q x => stepN_lt hv hS q x)
  generalize xs.length = n at *
  clear hv hS
  go_enter Try.func143, Try.ntmps143
  have q0' : (w.alloc (.cells #[.int .i64 L, .int .i64 S, .slice a n c] 28)).cell? ⟨w.heap.size, 0, none⟩ = some (.int .i64 L) := by simp
  have q1' : (w.alloc (.cells #[.int .i64 L, .int .i64 S, .slice a n c] 28)).cell? ⟨w.heap.size, 1, none⟩ = some (.int .i64 S) := by simp
  have q2' : (w.alloc (.cells #[.int .i64 L, .int .i64 S, .slice a n c] 28)).cell? ⟨w.heap.size, 2, none⟩ = some (.slice a n c) := by simp
  have hb1 : Below w.heap.size w (w.alloc (.cells #[.int .i64 L, .int .i64 S, .slice a n c] 28)) := (Below.refl _ _).alloc (Nat.le_refl _) _
  have m1 : w.heap.size < (w.alloc (.cells #[.int .i64 L, .int .i64 S, .slice a n c] 28)).heap.size := by simp
  go_wp2
  generalize w.alloc (.cells #[.int .i64 L, .int .i64 S, .slice a n c] 28) = w1 at *
  have Hb1 := Lib.hid hb1
  have hz := hb1.size
  clear hb1
  go_loopg [1, 7] (s.size) (fun g u i wr => ∃ (k q : Nat), i = .int .i64 k ∧ u = .int .i64 q ∧ q < 4096 ∧ k + g = s.size ∧ Hid (T = readB xs (s.data.toList.drop k) q) ∧ Below w1.heap.size w1 wr)
  case atStart => exact ⟨0, q0, rfl, rfl, hq0, by omega, H0, Below.refl _ _⟩
  case round =>
    obtain ⟨k, q, rfl, rfl, hq, hk, HK, hbel⟩ := hrel
    by_cases hlt : k < s.size
    · have HK1 := Lib.hid (show T = readB xs (s.data.toList.drop (k + 1)) (stepN xs q ((s[k].toNat : Int) - 97)) from by rw [HK.out, str_drop s k hlt]; rfl)
      have hc := byte_lt s[k]
      have hS0 : wr.cell? ⟨w.heap.size, 0, none⟩ = some (.int .i64 L) ∧ wr.cell? ⟨w.heap.size, 1, none⟩ = some (.int .i64 S) ∧ wr.cell? ⟨w.heap.size, 2, none⟩ = some (.slice a n c) := ⟨(hbel.cell (p := ⟨w.heap.size, 0, none⟩) m1).trans q0', (hbel.cell (p := ⟨w.heap.size, 1, none⟩) m1).trans q1', (hbel.cell (p := ⟨w.heap.size, 2, none⟩) m1).trans q2'⟩
      have hSd : wr.drew.cell? ⟨w.heap.size, 0, none⟩ = some (.int .i64 L) ∧ wr.drew.cell? ⟨w.heap.size, 1, none⟩ = some (.int .i64 S) ∧ wr.drew.cell? ⟨w.heap.size, 2, none⟩ = some (.slice a n c) := hS0
      have hz2 := hbel.size
      have hwr : w.heap.size < wr.heap.size := by omega
      have Hbel := Lib.hid hbel
      have HB := Lib.hid ((Hb1.out.trans (hbel.mono hz)).drew)
      have HS := Lib.hid (fun (w2 : World) (hb3 : Below wr.heap.size wr w2) => (show w2.cell? ⟨w.heap.size, 0, none⟩ = some (.int .i64 L) ∧ w2.cell? ⟨w.heap.size, 1, none⟩ = some (.int .i64 S) ∧ w2.cell? ⟨w.heap.size, 2, none⟩ = some (.slice a n c) from ⟨(hb3.cell (p := ⟨w.heap.size, 0, none⟩) hwr).trans hS0.1, (hb3.cell (p := ⟨w.heap.size, 1, none⟩) hwr).trans hS0.2.1, (hb3.cell (p := ⟨w.heap.size, 2, none⟩) hwr).trans hS0.2.2⟩))
      have Hc := Lib.hid (Hst.out _ HB.out q hq ((s[k].toNat : Int) - 97))
      have Hl := Lib.hid (Hlt.out q ((s[k].toNat : Int) - 97))
      generalize stepN xs q ((s[k].toNat : Int) - 97) = q' at HK1 Hc Hl
      have hwb : IntKind.i64.wrap (s[k].toNat : Int) = (s[k].toNat : Int) := IntWalk.i64_in _ (by omega)
      have hw64 : IntKind.i64.wrap ((s[k].toNat : Int) - 97) = (s[k].toNat : Int) - 97 := IntWalk.i64_in _ (by omega)
      clear HK hbel H0 q0' q1' q2'
      go_wp2
      go_region_held3 (fun w' => w'.cell? ⟨w.heap.size, 0, none⟩ = some (.int .i64 L) ∧ w'.cell? ⟨w.heap.size, 1, none⟩ = some (.int .i64 S) ∧ w'.cell? ⟨w.heap.size, 2, none⟩ = some (.slice a n c))
        (first | with_reducible exact hS1 | with_reducible exact hSd | with_reducible exact hS0 | go_keep)
        ((first
          | (go_at_call 148; (with_reducible refine Hc.out.mono ?_); rintro e w2 ⟨rfl, hb2⟩; have hb3 := ((Below.refl wr.heap.size wr).drew).trans hb2; have hS1 := HS.out w2 hb3; have Hb3 := Lib.hid (Hbel.out.trans (hb3.mono hz2)); clear hb2 hb3)
          | fail))
      go_wp2
      go_roundg (s.size - (k + 1))
      case measure => omega
      case rel => exact ⟨k + 1, q', by go_num, rfl, Hl.out, by omega, HK1, Hb3.out⟩
    · have HF := Lib.hid (show T = q from by rw [HK.out, str_end s k hlt]; rfl)
      have Hbz := Lib.hid (Hb1.out.trans (hbel.mono hz))
      clear HK hbel H0
      go_wp2
      go_ret
      exact ⟨by rw [HF.out]; rfl, Hbz.out⟩
end Go.Proofs.Ytdohepngandajaa
end

section
/-
  ReadFrom and ReadsWord, both sides.
-/
namespace Go.Proofs.Ytdohepngandajaa
open Go.RowKit Go.Deep Go.Sd

/-- All states. -/
def allN (S : Int) : Nat := 2 ^ S.toNat - 1
theorem shl_one (p : Nat) (h : p ≤ 12) : ∃ P : Nat, 2 ^ p = P ∧ 1 ≤ P ∧ P ≤ 4096 ∧ wrap64 ((2 : Int) ^ p) = (P : Int) := by
  have h1 : 2 ^ p ≤ 2 ^ 12 := Nat.pow_le_pow_right (by decide) h
  have h0 : 0 < 2 ^ p := Nat.pow_pos (by decide)
  refine ⟨2 ^ p, rfl, h0, h1, ?_⟩
  rw [show ((2 : Int) ^ p) = ((2 ^ p : Nat) : Int) by simp]
  generalize 2 ^ p = P at h0 h1 ⊢
  exact IntWalk.wrap64_in _ (by omega)
theorem allN_lt {S : Int} (h : S ≤ 12) : allN S < 4096 := by
  have h1 : 2 ^ S.toNat ≤ 2 ^ 12 := Nat.pow_le_pow_right (by decide) (by omega)
  have h0 : 0 < 2 ^ S.toNat := Nat.pow_pos (by decide)
  unfold allN
  omega
def readFromM (l : Lb) (set : Int) (s : ByteArray) : Int :=
  if (isLab l && (decide (0 ≤ set ∧ set ≤ (allN l.2.1 : Int)) && wordM l.1 s)) = true then (readB l.2.2 s.data.toList set.toNat : Int) else -1
def readsM (l : Lb) (s : ByteArray) : Bool := isLab l && (wordM l.1 s && decide (0 < readB l.2.2 s.data.toList (allN l.2.1)))
theorem wordM_ge {k : Int} {s : ByteArray} (h : wordM k s = true) : ∀ c, c ∈ s.data.toList → 97 ≤ c.toNat := by
  unfold wordM at h
  rw [Bool.and_eq_true, Bool.and_eq_true] at h
  exact fun c hc => (letB_ge h.2.2 c hc).1
set_option maxHeartbeats 400000 in
theorem impl_all_c {w : World} {v : Value} {l : Lb} (h : LabR w v l) (h1 : 1 ≤ l.2.1) (h2 : l.2.1 ≤ 12) :
    Calls Try.prog 82 #[v] w fun e w' => e = .returned (.int .i64 (allN l.2.1)) ∧ Below w.heap.size w w' := by
  obtain ⟨L, S, xs⟩ := l
  obtain ⟨va, rfl, _⟩ := h
  simp only at h1 h2
  obtain ⟨p, rfl⟩ := Int.eq_ofNat_of_zero_le (show 0 ≤ S by omega)
  obtain ⟨P, hP, hP1, hP2, hw⟩ := shl_one p (by omega)
  have H := Lib.hid (show allN (p : Int) = P - 1 from by unfold allN; rw [show (p : Int).toNat = p from rfl, hP])
  clear hP
  go_enter Try.func82, Try.ntmps82
  go_wp2
  go_ret
  exact ⟨by simp only [H.out]; rw [show ((P - 1 : Nat) : Int) = (P : Int) - 1 by omega]; rfl, (Below.refl _ _).alloc (Nat.le_refl _) _⟩
set_option maxHeartbeats 1000000 in
set_option maxRecDepth 10000 in
theorem spec_ReadsWord_c {w : World} {v : Value} {l : Lb} (h : LabR w v l) {s : ByteArray} (hs : s.size ≤ maxLen) :
    Calls Try.prog 77 #[v, .string s] w fun e w' => e = .returned (.bool (readsM l s)) ∧ Below w.heap.size w w' := by
  have H1 := Lib.hid (fun w1 (hb : Below w.heap.size w w1) => spec_IsLabels_c (LabR.frame _ _ _ _ h hb))
  have Hfr := Lib.hid (fun w1 (hb : Below w.heap.size w w1) => LabR.frame _ _ _ _ h hb)
  have H0 := Lib.hid (show readsM l s = (isLab l && (wordM l.1 s && decide (0 < readB l.2.2 s.data.toList (allN l.2.1)))) from rfl)
  generalize readsM l s = T at H0 ⊢
  have Hok := Lib.hid (fun h => isLab_ok (l := l) h)
  generalize hil : isLab l = il at H0 H1 Hok
  clear hil
  obtain ⟨L, S, xs⟩ := l
  obtain ⟨va, rfl, _, a, c, rfl, _, _, _, _⟩ := h
  have Hwd := Lib.hid (fun w1 => spec_IsWord_c L s w1 hs)
  have Hs := Lib.hid hs
  clear hs
  simp only at *
  generalize hn : xs.length = n at *
  clear hn
  generalize hwb : wordM L s = wb at Hwd H0
  clear hwb
  cases il with
  | false =>
    have HF := Lib.hid (show T = false from by rw [H0.out]; rfl)
    clear H0 Hok Hfr
    go_enter Try.func77, Try.ntmps77
    go_wp2_with fail
    obtain ⟨w1, ex, A0, c0, c1, c2, m1⟩ := boxA3_ex w 28 (.int .i64 L) (.int .i64 S) (.slice a n c)
    change Calls Try.prog _ _ (w.alloc (.cells #[.int .i64 L, .int .i64 S, .slice a n c] 28)) _
    rw [ex]
    clear ex
    refine (H1.out _ A0).mono ?_
    rintro e w2 ⟨rfl, hb⟩
    replace c0 := (hb.cell (p := ⟨w.heap.size, 0, none⟩) m1).trans c0
    replace c1 := (hb.cell (p := ⟨w.heap.size, 1, none⟩) m1).trans c1
    replace c2 := (hb.cell (p := ⟨w.heap.size, 2, none⟩) m1).trans c2
    replace m1 := Nat.lt_of_lt_of_le m1 hb.size
    replace A0 := A0.trans (hb.mono A0.size)
    clear hb
    go_wp2
    go_ret
    exact ⟨by rw [HF.out]; rfl, A0⟩
  | true =>
  obtain ⟨ho, hS1, hS2, hL1, hL2⟩ := Hok.out rfl
  have Hrd := Lib.hid (fun w1 (hb : Below w.heap.size w w1) => spec_read_c (Hfr.out w1 hb) ho hS2 (allN_lt hS2) Hs.out)
  simp only at *
  clear Hok Hfr ho
  obtain ⟨p, rfl⟩ := Int.eq_ofNat_of_zero_le (show 0 ≤ S by omega)
  obtain ⟨P, hP, hP1, hP2, hw⟩ := shl_one p (by omega)
  have Ha := Lib.hid (show allN (p : Int) = P - 1 from by unfold allN; rw [show (p : Int).toNat = p from rfl, hP])
  rw [Ha.out] at H0 Hrd
  clear hP Ha
  generalize readB xs s.data.toList (P - 1) = r at H0 Hrd
  have hcP : ((P - 1 : Nat) : Int) = (P : Int) - 1 := by omega
  rw [hcP] at Hrd
  clear hcP
  cases wb with
  | false =>
    have HF := Lib.hid (show T = false from by rw [H0.out]; rfl)
    clear H0 Hrd
    go_enter Try.func77, Try.ntmps77
    go_wp2_with fail
    obtain ⟨w1, ex, A0, c0, c1, c2, m1⟩ := boxA3_ex w 28 (.int .i64 L) (.int .i64 p) (.slice a n c)
    change Calls Try.prog _ _ (w.alloc (.cells #[.int .i64 L, .int .i64 p, .slice a n c] 28)) _
    rw [ex]
    clear ex
    refine (H1.out _ A0).mono ?_
    rintro e w2 ⟨rfl, hb⟩
    replace c0 := (hb.cell (p := ⟨w.heap.size, 0, none⟩) m1).trans c0
    replace c1 := (hb.cell (p := ⟨w.heap.size, 1, none⟩) m1).trans c1
    replace c2 := (hb.cell (p := ⟨w.heap.size, 2, none⟩) m1).trans c2
    replace m1 := Nat.lt_of_lt_of_le m1 hb.size
    replace A0 := A0.trans (hb.mono A0.size)
    clear hb
    go_wp2_with fail
    refine (Hwd.out _).mono ?_
    rintro e w' ⟨rfl, rfl⟩
    go_wp2
    go_ret
    exact ⟨by rw [HF.out]; rfl, A0⟩
  | true =>
    have HF := Lib.hid (show T = decide (0 < r) from by rw [H0.out]; rfl)
    clear H0
    go_enter Try.func77, Try.ntmps77
    go_wp2_with fail
    obtain ⟨w1, ex, A0, c0, c1, c2, m1⟩ := boxA3_ex w 28 (.int .i64 L) (.int .i64 p) (.slice a n c)
    change Calls Try.prog _ _ (w.alloc (.cells #[.int .i64 L, .int .i64 p, .slice a n c] 28)) _
    rw [ex]
    clear ex
    refine (H1.out _ A0).mono ?_
    rintro e w2 ⟨rfl, hb⟩
    replace c0 := (hb.cell (p := ⟨w.heap.size, 0, none⟩) m1).trans c0
    replace c1 := (hb.cell (p := ⟨w.heap.size, 1, none⟩) m1).trans c1
    replace c2 := (hb.cell (p := ⟨w.heap.size, 2, none⟩) m1).trans c2
    replace m1 := Nat.lt_of_lt_of_le m1 hb.size
    replace A0 := A0.trans (hb.mono A0.size)
    clear hb
    go_wp2_with fail
    refine (Hwd.out _).mono ?_
    rintro e w' ⟨rfl, rfl⟩
    go_wp2_with fail
    refine (Hrd.out _ A0).mono ?_
    rintro e w3 ⟨rfl, hb⟩
    replace c0 := (hb.cell (p := ⟨w.heap.size, 0, none⟩) m1).trans c0
    replace c1 := (hb.cell (p := ⟨w.heap.size, 1, none⟩) m1).trans c1
    replace c2 := (hb.cell (p := ⟨w.heap.size, 2, none⟩) m1).trans c2
    replace m1 := Nat.lt_of_lt_of_le m1 hb.size
    replace A0 := A0.trans (hb.mono A0.size)
    clear hb
    go_wp2
    go_ret
    exact ⟨by rw [HF.out]; rfl, A0⟩
end Go.Proofs.Ytdohepngandajaa
end

section
/-
  How many states a set has; the only state of a set: both sides.
-/
namespace Go.Proofs.Ytdohepngandajaa
open Go.RowKit Go.Deep Go.Sd

def popL : Nat → Nat → Nat
  | 0, _ => 0
  | f + 1, x => if x = 0 then 0 else x % 2 + popL f (x / 2)
def popN (x : Nat) : Nat := popL 12 x
def onlyL (x : Nat) : Nat → Nat → Int
  | 0, _ => -1
  | g + 1, p => if x = 2 ^ p then (p : Int) else onlyL x g (p + 1)
def onlyN (x : Nat) : Int := onlyL x 12 0
theorem two_level {p : Nat → Prop} (h : ∀ a, a < 64 → ∀ b, b < 64 → p (64 * a + b)) (x : Nat) (hx : x < 4096) : p x := by
  have h1 := h (x / 64) (by omega) (x % 64) (by omega)
  rw [show 64 * (x / 64) + x % 64 = x by omega] at h1
  exact h1
set_option maxRecDepth 100000 in
theorem only_pop (x : Nat) (hx : x < 4096) : (decide (popN x = 1)) = decide (0 ≤ onlyN x) :=
  two_level (p := fun x => (decide (popN x = 1)) = decide (0 ≤ onlyN x)) (by decide +kernel) x hx
def oc1 (x : Int) : Int := IntKind.u64.wrap (bits BinOp.and IntKind.u64 (x / 2) 6148914691236517205 + bits BinOp.and IntKind.u64 x 6148914691236517205)
def oc2 (x : Int) : Int := IntKind.u64.wrap (bits BinOp.and IntKind.u64 (x / 4) 3689348814741910323 + bits BinOp.and IntKind.u64 x 3689348814741910323)
def oc3 (x : Int) : Int := bits BinOp.and IntKind.u64 (IntKind.u64.wrap (x / 16 + x)) 1085102592571150095
def oc4 (x : Int) : Int := IntKind.u64.wrap (x + x / 256)
def oc5 (x : Int) : Int := IntKind.u64.wrap (x + x / 65536)
def oc6 (x : Int) : Int := IntKind.u64.wrap (x + x / 4294967296)
def oc7 (x : Int) : Int := bits BinOp.and IntKind.i64 (wrap64 x) 127
set_option maxRecDepth 100000 in
theorem oc_pop (x : Nat) (hx : x < 4096) : oc7 (oc6 (oc5 (oc4 (oc3 (oc2 (oc1 x)))))) = (popN x : Int) :=
  two_level (p := fun x => oc7 (oc6 (oc5 (oc4 (oc3 (oc2 (oc1 (x : Int))))))) = (popN x : Int)) (by decide +kernel) x hx
theorem popL_zero (f : Nat) : popL f 0 = 0 := by cases f <;> simp [popL]
theorem popL_le : ∀ (f x : Nat), popL f x ≤ f
  | 0, _ => Nat.le_refl _
  | f + 1, x => by
    unfold popL
    split
    · omega
    · have := popL_le f (x / 2); omega
theorem onlyL_bd (x : Nat) : ∀ (g p : Nat), -1 ≤ onlyL x g p ∧ onlyL x g p ≤ (g : Int) + p
  | 0, p => by unfold onlyL; omega
  | g + 1, p => by
    unfold onlyL
    split
    · omega
    · have := onlyL_bd x g (p + 1); omega

end Go.Proofs.Ytdohepngandajaa
end

section
/-
  WordRank and IsSynchronizing, both sides; SyncState, the reference's.
-/
namespace Go.Proofs.Ytdohepngandajaa
open Go.RowKit Go.Deep Go.Sd

def rankM (l : Lb) (s : ByteArray) : Int := if (resolvM l && wordM l.1 s) = true then (popN (readB l.2.2 s.data.toList (allN l.2.1)) : Int) else -1
def syncM (l : Lb) (s : ByteArray) : Int := if (resolvM l && wordM l.1 s) = true then onlyN (readB l.2.2 s.data.toList (allN l.2.1)) else -1
theorem resolvM_lab {l : Lb} (h : resolvM l = true) : isLab l = true := by
  unfold resolvM at h
  rw [Bool.and_eq_true] at h
  exact h.1
theorem rank_sync (l : Lb) (s : ByteArray) : decide (rankM l s = 1) = decide (0 ≤ syncM l s) := by
  unfold rankM syncM
  by_cases h : (resolvM l && wordM l.1 s) = true
  · rw [if_pos h, if_pos h]
    rw [Bool.and_eq_true] at h
    obtain ⟨ho, _, hS, _⟩ := isLab_ok (resolvM_lab h.1)
    have h1 := only_pop _ (readB_lt ho hS s.data.toList (allN l.2.1) (allN_lt hS))
    rw [← h1]
    exact decide_eq_decide.2 ⟨fun h => by omega, fun h => by omega⟩
  · rw [if_neg h, if_neg h]
    decide
theorem rankM_bd (l : Lb) (s : ByteArray) : -1 ≤ rankM l s ∧ rankM l s ≤ 12 := by
  unfold rankM
  split
  · have := popL_le 12 (readB l.2.2 s.data.toList (allN l.2.1)); unfold popN; omega
  · omega
theorem syncM_bd (l : Lb) (s : ByteArray) : -1 ≤ syncM l s ∧ syncM l s ≤ 12 := by
  unfold syncM
  split
  · have := onlyL_bd (readB l.2.2 s.data.toList (allN l.2.1)) 12 0; unfold onlyN; omega
  · omega
end Go.Proofs.Ytdohepngandajaa
end

section
/-
  SmallestLabels, the program's.
-/
namespace Go.Proofs.Ytdohepngandajaa
open Go.RowKit Go.Deep Go.Sd
set_option linter.unusedSimpArgs false
theorem rowI_snoc (c : Nat → Nat) (xs : List Arc3) (x p : Nat) : rowI c xs (x + 1) p = rowI c xs x p ++ (if 0 ≤ tgtI xs p x then [((nmb c p : Int), (nmb c (tgtI xs p x).toNat : Int), (x : Int))] else []) := by
  unfold rowI
  rw [List.range_succ, List.filterMap_append]
  congr 1
  by_cases h : 0 ≤ tgtI xs p x <;> simp [h]
def rowsI (c : Nat → Nat) (xs : List Arc3) (N m : Nat) : List Arc3 := (List.range m).flatMap fun p => if c p = p then rowI c xs N p else []
theorem rowsI_snoc (c : Nat → Nat) (xs : List Arc3) (N p : Nat) : rowsI c xs N (p + 1) = rowsI c xs N p ++ (if c p = p then rowI c xs N p else []) := by
  unfold rowsI
  rw [List.range_succ, List.flatMap_append]
  simp
set_option maxHeartbeats 8000000 in
set_option maxRecDepth 100000 in
theorem impl_SmallestLabels_c {w : World} {v : Value} {l : Lb} (h : LabR w v l) :
    Calls Try.prog 16 #[v] w (Makes2 OLab w (smV l) (resolvM l)) := by
  have H1 := Lib.hid (fun w1 (hb : Below w.heap.size w w1) => impl_IsResolving_c (LabR.frame _ _ _ _ h hb))
  have Hfr := Lib.hid (fun w1 (hb : Below w.heap.size w w1) => LabR.frame _ _ _ _ h hb)
  have HV := Lib.hid (show smV l = if resolvM l = true then (l.1, (rk (clsV l) l.2.1.toNat : Int), smA (cR (clsV l)) l.2.2) else (0, 0, []) from rfl)
  have Hok := Lib.hid (fun (hr : resolvM l = true) => (⟨isLab_ok (resolvM_lab hr), rows_smA hr, isLab_len (resolvM_lab hr)⟩ : (okArcs l.2.1 l.2.2 ∧ 1 ≤ l.2.1 ∧ l.2.1 ≤ 12 ∧ 1 ≤ l.1 ∧ l.1 ≤ 3) ∧ (List.range l.2.1.toNat).flatMap (fun p => if clsV l p = p then rowI (clsV l) l.2.2 l.1.toNat p else []) = smA (cR (clsV l)) l.2.2 ∧ l.2.2.length ≤ 768))
  have HCan := Lib.hid (clsV_can l)
  have HCl := Lib.hid (show clsV l = cls l.2.2 l.1.toNat (clsK l.2.2 l.1.toNat l.2.1.toNat) from rfl)
  generalize smV l = V at HV ⊢
  generalize resolvM l = il at H1 HV Hok ⊢
  generalize clsV l = c at HV Hok HCan HCl
  obtain ⟨L, S, xs⟩ := l
  obtain ⟨va, rfl, hlen, a, cc, rfl, _, _, _, _⟩ := h
  simp only at *
  generalize hn : xs.length = n at *
  clear hn
  obtain ⟨wA, eA, hA0⟩ : ∃ wA, wA = (w.alloc (.cells #[.int .i64 L, .int .i64 S, .slice a n cc] 28)).alloc (.cells #[.int .i64 0, .int .i64 0, .slice none 0 0] 28) ∧ Below w.heap.size w wA := ⟨_, rfl, ((Below.refl _ _).alloc (Nat.le_refl _) _).alloc (by simp) _⟩
  have zA : wA.heap.size = w.heap.size + 1 + 1 := by rw [eA]; simp
  have l0 : wA.cell? ⟨w.heap.size, 0, none⟩ = some (.int .i64 L) := by rw [eA]; simp [go_sem]
  have l1 : wA.cell? ⟨w.heap.size, 1, none⟩ = some (.int .i64 S) := by rw [eA]; simp [go_sem]
  have l2 : wA.cell? ⟨w.heap.size, 2, none⟩ = some (.slice a n cc) := by rw [eA]; simp [go_sem]
  have r0 : wA.cell? ⟨w.heap.size + 1, 0, none⟩ = some (.int .i64 0) := by rw [eA]; simp [go_sem]
  have r1 : wA.cell? ⟨w.heap.size + 1, 1, none⟩ = some (.int .i64 0) := by rw [eA]; simp [go_sem]
  have r2 : wA.cell? ⟨w.heap.size + 1, 2, none⟩ = some (.slice none 0 0) := by rw [eA]; simp [go_sem]
  have t0 : wA.frozen? ⟨w.heap.size + 1, 0, none⟩ = false := by rw [eA]; simp [go_sem]
  have t1 : wA.frozen? ⟨w.heap.size + 1, 1, none⟩ = false := by rw [eA]; simp [go_sem]
  have t2 : wA.frozen? ⟨w.heap.size + 1, 2, none⟩ = false := by rw [eA]; simp [go_sem]
  have HA := Lib.hid hA0
  have eW := eA.symm
  have h1A : w.heap.size + 1 < wA.heap.size := by omega
  have h0A : w.heap.size < wA.heap.size := by omega
  clear eA hA0 zA
  go_enter Try.func16, Try.ntmps16
  go_wp2_with fail
  refine (H1.out _ HA.out).mono ?_
  rintro e w1 ⟨rfl, hb1⟩
  replace l0 := (hb1.cell (p := ⟨w.heap.size, 0, none⟩) h0A).trans l0
  replace l1 := (hb1.cell (p := ⟨w.heap.size, 1, none⟩) h0A).trans l1
  replace l2 := (hb1.cell (p := ⟨w.heap.size, 2, none⟩) h0A).trans l2
  replace r0 := (hb1.cell (p := ⟨w.heap.size + 1, 0, none⟩) h1A).trans r0
  replace t0 := (hb1.frozen (p := ⟨w.heap.size + 1, 0, none⟩) h1A).trans t0
  replace r1 := (hb1.cell (p := ⟨w.heap.size + 1, 1, none⟩) h1A).trans r1
  replace t1 := (hb1.frozen (p := ⟨w.heap.size + 1, 1, none⟩) h1A).trans t1
  replace r2 := (hb1.cell (p := ⟨w.heap.size + 1, 2, none⟩) h1A).trans r2
  replace t2 := (hb1.frozen (p := ⟨w.heap.size + 1, 2, none⟩) h1A).trans t2
  have A1 := Lib.hid (HA.out.trans (hb1.mono HA.out.size))
  have h1w : w.heap.size + 1 < w1.heap.size := Nat.lt_of_lt_of_le h1A hb1.size
  have h0w : w.heap.size < w1.heap.size := Nat.lt_of_lt_of_le h0A hb1.size
  clear eW hb1 H1 HA h1A h0A
  cases il with
  | false =>
    have HW := Lib.hid (show V = (0, 0, []) from by rw [HV.out]; rfl)
    clear HV Hok HCl
    go_wp2
    have s0 := World.cell?_setCell_same w1 _ (.int .i64 0) r0
    have u1 := (World.cell?_setCell_other _ ⟨w.heap.size + 1, 0, none⟩ _ (.int .i64 0) (by simp)).trans r1
    have s1 := World.cell?_setCell_same _ _ (.int .i64 0) u1
    have u2 := (World.cell?_setCell_other _ ⟨w.heap.size + 1, 1, none⟩ _ (.int .i64 0) (by simp)).trans ((World.cell?_setCell_other _ ⟨w.heap.size + 1, 0, none⟩ _ (.int .i64 0) (by simp)).trans r2)
    have s2 := World.cell?_setCell_same _ _ (.slice none 0 0) u2
    refine bodyPost_ret (v := .tuple #[.agg #[.int .i64 0, .int .i64 0, .slice none 0 0], .bool false]) (by simp [results, Try.results16, go_sem, s0, s1, s2]) rfl ?_
    exact ⟨_, rfl, by rw [HW.out]; exact New.lab0, (((A1.out.setCell (p := ⟨w.heap.size + 1, 0, none⟩) (by simp) _).setCell (p := ⟨w.heap.size + 1, 1, none⟩) (by simp) _).setCell (p := ⟨w.heap.size + 1, 2, none⟩) (by simp) _)⟩
  | true =>
  obtain ⟨⟨ho, hS1, hS2, hL1, hL2⟩, hrows, hlen768⟩ := Hok.out (by first | rfl | trivial)
  obtain ⟨p, rfl⟩ := Int.eq_ofNat_of_zero_le (show 0 ≤ S by omega)
  obtain ⟨N, rfl⟩ := Int.eq_ofNat_of_zero_le (show 0 ≤ L by omega)
  have HW := Lib.hid (show V = ((N : Int), (rk c p : Int), rowsI c xs N p) from by rw [HV.out]; simp only [if_true]; rw [← hrows]; rfl)
  have HTg := Lib.hid (fun w1 (hb : Below w.heap.size w w1) (q x : Nat) => target_c (Hfr.out w1 hb) q x)
  have HOk := Lib.hid (fun (q x : Nat) => tgtI_ok ho q x)
  have HC1 := Lib.hid (fun w1 (hb : Below w.heap.size w w1) => (show Calls Try.prog 69 #[.agg #[.int .i64 N, .int .i64 p, .slice a n cc]] w1 fun e w' => ∃ b cap, e = .returned (.slice (some ⟨b, 0, none⟩) p cap) ∧ ClR w' b p (nmb c) ∧ Below w1.heap.size w1 w' from by rw [HCl.out]; exact classes_c (Hfr.out w1 hb) ho (by omega) (by omega) (by omega)))
  have R0 := Lib.hid r0
  have R1 := Lib.hid r1
  have R2 := Lib.hid r2
  have F0 := Lib.hid t0
  have F1 := Lib.hid t1
  have F2 := Lib.hid t2
  have hp0 : 0 < p := by omega
  clear HV Hok HCl Hfr ho hrows r0 r1 r2 t0 t1 t2
  go_wp2_with fail
  refine (HC1.out _ A1.out).mono ?_
  rintro e w3 ⟨b, cap, rfl, hcl, hb3⟩
  replace l0 := (hb3.cell (p := ⟨w.heap.size, 0, none⟩) h0w).trans l0
  replace l1 := (hb3.cell (p := ⟨w.heap.size, 1, none⟩) h0w).trans l1
  replace l2 := (hb3.cell (p := ⟨w.heap.size, 2, none⟩) h0w).trans l2
  replace R0 := Lib.hid ((hb3.cell (p := ⟨w.heap.size + 1, 0, none⟩) h1w).trans R0.out)
  replace R1 := Lib.hid ((hb3.cell (p := ⟨w.heap.size + 1, 1, none⟩) h1w).trans R1.out)
  replace R2 := Lib.hid ((hb3.cell (p := ⟨w.heap.size + 1, 2, none⟩) h1w).trans R2.out)
  replace F0 := Lib.hid ((hb3.frozen (p := ⟨w.heap.size + 1, 0, none⟩) h1w).trans F0.out)
  replace F1 := Lib.hid ((hb3.frozen (p := ⟨w.heap.size + 1, 1, none⟩) h1w).trans F1.out)
  replace F2 := Lib.hid ((hb3.frozen (p := ⟨w.heap.size + 1, 2, none⟩) h1w).trans F2.out)
  have A3 := Lib.hid (A1.out.trans (hb3.mono A1.out.size))
  replace h1w : w.heap.size + 1 < w3.heap.size := Nat.lt_of_lt_of_le h1w hb3.size
  replace h0w : w.heap.size < w3.heap.size := by omega
  have Hcl := Lib.hid hcl
  have bw := hcl.1
  clear hcl hb3 HC1
  go_wp2
  obtain ⟨wB, eB, hbB, o0, o1, o2, mB⟩ := boxA3_ex w3 28 (.int .i64 N) (.int .i64 0) (.slice none 0 0)
  have hsp := ((Sep.nil w3.heap.size w3).new RowG.held (Below.refl _ _) (Nat.le_refl _) (RowG.nil (e := 72) (sz := 3) (f := acell))).boxNew (Nat.le_refl _) [.int .i64 N, .int .i64 0, .slice none 0 0] 28
  have HSP := Lib.hid (show Sep w3.heap.size wB [Res.box w3.heap.size [.int .i64 N, .int .i64 (rk c 0 : Nat), .slice none 0 0], Res.row 72 3 acell (.slice none 0 0) (rowsI c xs N 0)] from by rw [← eB]; exact hsp)
  try rw [eB]
  have HBB := Lib.hid hbB
  clear hsp hbB eB o0 o1 o2 mB
  have LL0 := Lib.hid l0
  have LL1 := Lib.hid l1
  have LL2 := Lib.hid l2
  clear l0 l1 l2
  go_loopg [21] p (fun g i wr => ∃ (k : Nat) (ya : Option Addr) (yn yc : Nat), i = .int .i64 k ∧ k + g = p ∧ Hid (Sep w3.heap.size wr [Res.box w3.heap.size [.int .i64 N, .int .i64 (rk c k : Nat), .slice ya yn yc], Res.row 72 3 acell (.slice ya yn yc) (rowsI c xs N k)]) ∧ Hid (Below w3.heap.size w3 wr))
  case atStart => exact ⟨0, _, _, _, rfl, by omega, HSP, HBB⟩
  case round =>
    clear HSP HBB
    obtain ⟨k, ya, yn, yc, rfl, hk, HS, HB⟩ := hrel
    obtain ⟨wk, rfl⟩ : ∃ x, x = wr := ⟨_, rfl⟩
    have zk := HB.out.size
    obtain ⟨-, mk, hbx⟩ := HS.out.headBox
    have o0 := (hbx 0 _ rfl).1
    have o1 := (hbx 1 _ rfl).1
    have o1f := (hbx 1 _ rfl).2
    have o2 := (hbx 2 _ rfl).1
    have o2f := (hbx 2 _ rfl).2
    have l0 := (HB.out.cell (p := ⟨w.heap.size, 0, none⟩) h0w).trans LL0.out
    have l1 := (HB.out.cell (p := ⟨w.heap.size, 1, none⟩) h0w).trans LL1.out
    have l2 := (HB.out.cell (p := ⟨w.heap.size, 2, none⟩) h0w).trans LL2.out
    have hrk := rk_le c k
    clear hbx
    by_cases hkp : k < p
    · have hki : (k : Int) < (p : Int) := by omega
      have gk2 := (HB.out.cell (p := ⟨b, k, none⟩) bw).trans (Hcl.out.2 k hkp)
      by_cases hrep : c k = k
      · have hnk : nmb c k = rk c k := by unfold nmb; rw [hrep]
        have HR1 := Lib.hid (show rk c (k + 1) = rk c k + 1 from by show rk c k + (if c k = k then 1 else 0) = _; rw [if_pos hrep])
        have HR2 := Lib.hid (show rowsI c xs N (k + 1) = rowsI c xs N k ++ rowI c xs N k from by rw [rowsI_snoc, if_pos hrep])
        have hst := HS.out.boxStore (by omega) (j := 1) rfl (.int .i64 ((rk c k : Int) + 1))
        have HS1 := Lib.hid (show Sep w3.heap.size (wk.setCell ⟨w3.heap.size, 1, none⟩ (.int .i64 ((rk c k : Int) + 1))) [Res.box w3.heap.size [.int .i64 N, .int .i64 ((rk c k : Int) + 1), .slice ya yn yc], Res.row 72 3 acell (.slice ya yn yc) (rowsI c xs N k ++ rowI c xs 0 k)] from by rw [show rowsI c xs N k ++ rowI c xs 0 k = rowsI c xs N k by simp [rowI]]; exact hst)
        have HB1 := Lib.hid (HB.out.setCell (p := ⟨w3.heap.size, 1, none⟩) (Nat.le_refl _) (.int .i64 ((rk c k : Int) + 1)))
        have hlt3 : ¬ ((nmb c k : Int) < (rk c k : Int)) := by omega
        rw [hnk] at gk2 hlt3
        have Hnk := Lib.hid hnk
        generalize hrr : rk c k = rr at *
        have HRR := Lib.hid hrr
        clear hrep hnk hrr hst
        go_wp2
        go_loopg [36] N (fun g i wr => ∃ (x : Nat) (ya : Option Addr) (yn yc : Nat), i = .int .i64 x ∧ x + g = N ∧ Hid (Sep w3.heap.size wr [Res.box w3.heap.size [.int .i64 N, .int .i64 ((rr : Int) + 1), .slice ya yn yc], Res.row 72 3 acell (.slice ya yn yc) (rowsI c xs N k ++ rowI c xs x k)]) ∧ Hid (Below w3.heap.size w3 wr))
        case atStart => exact ⟨0, _, _, _, rfl, by omega, HS1, HB1⟩
        case round =>
          clear HS1 HB1 HS HB o0 o1 o1f o2 o2f l0 l1 l2 gk2
          obtain ⟨x, ya, yn, yc, rfl, hx, HS, HB⟩ := hrel
          obtain ⟨wx, rfl⟩ : ∃ x, x = wr := ⟨_, rfl⟩
          have zx := HB.out.size
          obtain ⟨-, mx, hbx⟩ := HS.out.headBox
          have o2 := (hbx 2 _ rfl).1
          have o2f := (hbx 2 _ rfl).2
          have l0 := (HB.out.cell (p := ⟨w.heap.size, 0, none⟩) h0w).trans LL0.out
          have l1 := (HB.out.cell (p := ⟨w.heap.size, 1, none⟩) h0w).trans LL1.out
          have l2 := (HB.out.cell (p := ⟨w.heap.size, 2, none⟩) h0w).trans LL2.out
          clear hbx
          by_cases hxN : x < N
          · have hxi : (x : Int) < (N : Int) := by omega
            have AX := Lib.hid (A3.out.trans (HB.out.mono A3.out.size))
            have C1 := Lib.hid (HTg.out wx AX.out k x)
            have O1 := HOk.out k x
            have HSn := Lib.hid (rowI_snoc c xs x k)
            generalize tgtI xs k x = t at C1 O1 HSn
            try simp only at C1
            go_wp2_with fail
            refine C1.out.mono ?_
            rintro e wy ⟨rfl, hby⟩
            have HBy := Lib.hid (HB.out.trans (hby.mono zx))
            have HSy := Lib.hid (HS.out.below hby (Nat.le_refl _))
            have zy := hby.size
            replace o2 := (hby.cell (p := ⟨w3.heap.size, 2, none⟩) mx).trans o2
            replace o2f := (hby.frozen (p := ⟨w3.heap.size, 2, none⟩) mx).trans o2f
            clear hby C1 HS HB AX
            rcases O1 with rfl | ⟨tt, rfl, htt⟩
            · have HR3 := Lib.hid (show rowI c xs (x + 1) k = rowI c xs x k from by rw [HSn.out, if_neg (by omega)]; simp)
              clear HSn
              go_wp2
              go_roundg (N - (x + 1))
              case measure => omega
              case rel => exact ⟨x + 1, ya, yn, yc, by go_num, by omega, Lib.hid (by rw [HR3.out]; exact HSy.out), HBy⟩
            · have htk : (0 : Int) ≤ (tt : Int) := by omega
              have htp : (tt : Int) < (p : Int) := htt
              have ga := (HBy.out.cell (p := ⟨b, tt, none⟩) bw).trans (Hcl.out.2 tt (by omega))
              have bwy : b < wy.heap.size := by omega
              have hBy : w3.heap.size < wy.heap.size := by omega
              have HR3 := Lib.hid (show rowI c xs (x + 1) k = rowI c xs x k ++ [((rr : Int), (nmb c tt : Int), (x : Int))] from by rw [HSn.out, if_pos (by omega), Hnk.out]; simp)
              obtain ⟨Y, hY⟩ : ∃ Y : Int, Y = (nmb c tt : Int) := ⟨_, rfl⟩
              rw [← hY] at HR3 ga
              have hll := Lib.hid (show (rowsI c xs N k ++ rowI c xs x k).length ≤ 4096 from by
                have h1 : ∀ m q : Nat, (rowI c xs m q).length ≤ m := fun m q => Nat.le_trans (List.length_filterMap_le _ _) (by simp)
                have h2 : ∀ m : Nat, (rowsI c xs N m).length ≤ m * 3 := fun m => by
                  induction m with
                  | zero => simp [rowsI]
                  | succ m ih =>
                    rw [rowsI_snoc, List.length_append]
                    have h3 := h1 N m
                    split
                    · omega
                    · simp; omega
                have h4 := h2 k
                have h5 := h1 x k
                rw [List.length_append]; omega)
              have B1 := ((Below.refl wy.heap.size wy).alloc (Nat.le_refl _) (.cells #[.int .i64 rr, .int .i64 Y, .int .i64 x] 72)).drew
              obtain ⟨v', w2, hr, hs2, hb2⟩ := HSy.out.swap.pushG (P := Try.prog) acell_lay 26 26 (.agg #[.int .i64 0, .int .i64 0, .int .i64 0]) 24 Try.underlying26 infoA rfl (by omega) (w1 := ((wy.alloc (.cells #[.int .i64 rr, .int .i64 Y, .int .i64 x] 72)).drew)) B1 ((rr : Int), Y, (x : Int)) (bb := wy.heap.size) 1
                (by
                  intro i u hu
                  match i, hu with
                  | 0, hu => simp [acell] at hu; subst hu; simp [go_sem]
                  | 1, hu => simp [acell] at hu; subst hu; simp [go_sem]
                  | 2, hu => simp [acell] at hu; subst hu; simp [go_sem]) (by have := hll.out; omega) (by have := hll.out; omega)
              obtain ⟨za, zn, zc, rfl⟩ : ∃ a n c, v' = .slice a n c := hs2.headNew.imp (fun F hF => hF.1) |> fun h => by obtain ⟨F, hF⟩ := h; obtain ⟨a, c, e⟩ := RowG.slice hF; exact ⟨a, _, c, e⟩
              have hbx := hs2.swap.headBox.2
              have hc2 := (hbx.2 2 _ rfl).1
              have hf2 := (hbx.2 2 _ rfl).2
              have hga2 : w2.cell? ⟨b, tt, none⟩ = some (.int .i64 Y) := (hb2.cell (p := ⟨b, tt, none⟩) bw).trans ga
              have hst := hs2.swap.boxStore (by have := hb2.size; omega) (j := 2) rfl (.slice za zn zc)
              have HST := Lib.hid (show Sep w3.heap.size (w2.setCell ⟨w3.heap.size, 2, none⟩ (.slice za zn zc)) [Res.box w3.heap.size [.int .i64 N, .int .i64 ((rr : Int) + 1), .slice za zn zc], Res.row 72 3 acell (.slice za zn zc) (rowsI c xs N k ++ rowI c xs (x + 1) k)] from by rw [HR3.out, ← List.append_assoc]; exact hst)
              have HBs := Lib.hid ((HBy.out.trans hb2).setCell (p := ⟨w3.heap.size, 2, none⟩) (Nat.le_refl _) (.slice za zn zc))
              have Hr := Lib.hid hr
              have hSd : wy.drew.cell? ⟨w3.heap.size, 2, none⟩ = some (.slice ya yn yc) ∧ wy.drew.cell? ⟨b, tt, none⟩ = some (.int .i64 Y) := ⟨o2, ga⟩
              have hS1 : ((wy.alloc (.cells #[.int .i64 rr, .int .i64 Y, .int .i64 x] 72)).drew).cell? ⟨w3.heap.size, 2, none⟩ = some (.slice ya yn yc) ∧ ((wy.alloc (.cells #[.int .i64 rr, .int .i64 Y, .int .i64 x] 72)).drew).cell? ⟨b, tt, none⟩ = some (.int .i64 Y) := ⟨(B1.cell (p := ⟨w3.heap.size, 2, none⟩) hBy).trans o2, (B1.cell (p := ⟨b, tt, none⟩) bwy).trans ga⟩
              have hS2 : w2.cell? ⟨w3.heap.size, 2, none⟩ = some (.slice ya yn yc) ∧ w2.cell? ⟨b, tt, none⟩ = some (.int .i64 Y) := ⟨hc2, hga2⟩
              clear HSn hY B1 hr hs2 hb2 hbx hst HSy HBy hga2
              go_wp2
              refine wp_region_L (fun w' => w'.cell? ⟨w3.heap.size, 2, none⟩ = some (.slice ya yn yc) ∧ w'.cell? ⟨b, tt, none⟩ = some (.int .i64 Y)) (by kernel_rfl) ?_
              refine wpAnyL_take 0 (v := ?_) rfl (by kernel_rfl) (by kernel_rfl) (by kernel_rfl) (by kernel_rfl) (fun _ _ _ h => h) (Or.inl ⟨by rfl, ?_⟩) hSd ?_
              rotate_left
              · (intro w hSw; (try dsimp only at hSw); go_simp) <;> (try with_reducible rfl)
              try simp only [Act.put, List.setIfInBounds_toArray, List.set_cons_zero, List.set_cons_succ]
              refine wpAnyL_take 1 (v := ?_) rfl (by kernel_rfl) (by kernel_rfl) (by kernel_rfl) (by kernel_rfl) (fun _ _ _ h => h) (Or.inl ⟨by rfl, ?_⟩) hSd ?_
              rotate_left
              · (intro w hSw; (try dsimp only at hSw); go_simp) <;> (try with_reducible rfl)
              try simp only [Act.put, List.setIfInBounds_toArray, List.set_cons_zero, List.set_cons_succ]
              refine wpAnyL_take 2 (v := ?_) rfl (by kernel_rfl) (by kernel_rfl) (by kernel_rfl) (by kernel_rfl) (fun _ _ _ h => h) (Or.inl ⟨by rfl, ?_⟩) hSd ?_
              rotate_left
              · (intro w hSw; (try dsimp only at hSw); go_simp) <;> (try with_reducible rfl)
              try simp only [Act.put, List.setIfInBounds_toArray, List.set_cons_zero, List.set_cons_succ]
              refine wpAnyL_take 3 (v := ?_) rfl (by kernel_rfl) (by kernel_rfl) (by kernel_rfl) (by kernel_rfl) (fun _ _ _ h => h) (Or.inl ⟨by rfl, ?_⟩) hSd ?_
              rotate_left
              · (intro w hSw; (try dsimp only at hSw); go_simp) <;> (try with_reducible rfl)
              try simp only [Act.put, List.setIfInBounds_toArray, List.set_cons_zero, List.set_cons_succ]
              refine wpAnyL_take 4 (v := ?_) rfl (by kernel_rfl) (by kernel_rfl) (by kernel_rfl) (by kernel_rfl) (fun _ _ _ h => h) (Or.inl ⟨by rfl, ?_⟩) hSd ?_
              rotate_left
              · (intro w hSw; (try dsimp only at hSw); go_simp) <;> (try with_reducible rfl)
              try simp only [Act.put, List.setIfInBounds_toArray, List.set_cons_zero, List.set_cons_succ]
              refine wpAnyL_take 5 (v := ?_) rfl (by kernel_rfl) (by kernel_rfl) (by kernel_rfl) (by kernel_rfl) (fun _ _ _ h => h) (Or.inl ⟨by rfl, ?_⟩) hSd ?_
              rotate_left
              · (intro w hSw; (try dsimp only at hSw); go_simp) <;> (try with_reducible rfl)
              try simp only [Act.put, List.setIfInBounds_toArray, List.set_cons_zero, List.set_cons_succ]
              refine wpAnyL_take 6 (v := ?_) rfl (by kernel_rfl) (by kernel_rfl) (by kernel_rfl) (by kernel_rfl) (fun _ _ _ h => h) (Or.inl ⟨by rfl, ?_⟩) hSd ?_
              rotate_left
              · (intro w hSw; (try dsimp only at hSw); go_simp) <;> (try with_reducible rfl)
              try simp only [Act.put, List.setIfInBounds_toArray, List.set_cons_zero, List.set_cons_succ]
              refine wpAnyL_take 7 (v := ?_) rfl (by kernel_rfl) (by kernel_rfl) (by kernel_rfl) (by kernel_rfl) (fun _ _ _ h => h) (Or.inl ⟨by rfl, ?_⟩) hSd ?_
              rotate_left
              · (intro w hSw; (try dsimp only at hSw); go_simp) <;> (try with_reducible rfl)
              try simp only [Act.put, List.setIfInBounds_toArray, List.set_cons_zero, List.set_cons_succ]
              refine wpAnyL_take 8 (v := ?_) rfl (by kernel_rfl) (by kernel_rfl) (by kernel_rfl) (by kernel_rfl) (fun _ _ _ h => h) (Or.inl ⟨by rfl, ?_⟩) hSd ?_
              rotate_left
              · (intro w hSw; (try dsimp only at hSw); go_simp) <;> (try with_reducible rfl)
              try simp only [Act.put, List.setIfInBounds_toArray, List.set_cons_zero, List.set_cons_succ]
              refine wpAnyL_one 9 (by kernel_rfl) rfl (fun K hK => ?_)
              go_simp
              refine hK.out _ _ (fun _ => hS1) ?_
              clear hK K
              try simp only [Act.put, List.setIfInBounds_toArray, List.set_cons_zero, List.set_cons_succ]
              refine wpAnyL_one 10 (by kernel_rfl) rfl (fun K hK => ?_)
              refine step_append_run (by rfl) (.tmp 46) (.tmp 54) 26 (by rfl) (by rfl) (by rfl) Hr.out ?_
              refine hK.out _ _ (fun _ => hS2) ?_
              clear hK K
              try simp only [Act.put, List.setIfInBounds_toArray, List.set_cons_zero, List.set_cons_succ]
              refine wpAnyL_take 11 (v := ?_) rfl (by kernel_rfl) (by kernel_rfl) (by kernel_rfl) (by kernel_rfl) (fun _ _ _ h => h) (Or.inl ⟨by rfl, ?_⟩) hS2 ?_
              rotate_left
              · (intro w hSw; (try dsimp only at hSw); go_simp) <;> (try with_reducible rfl)
              try simp only [Act.put, List.setIfInBounds_toArray, List.set_cons_zero, List.set_cons_succ]
              refine wpAnyL_one 12 (by kernel_rfl) rfl (fun K hK => ?_)
              go_simp
              refine hK.out _ _ (fun h => absurd h (not_rem (by kernel_rfl))) ?_
              clear hK K
              try simp only [Act.put, List.setIfInBounds_toArray, List.set_cons_zero, List.set_cons_succ]
              refine wpAnyL_done (by kernel_rfl) ?_ _
              all_goals (
                go_wp2
                go_roundg (N - (x + 1))
                case measure => omega
                case rel => exact ⟨x + 1, za, zn, zc, by go_num, by omega, HST, HBs⟩)
          · obtain rfl : x = N := by omega
            have hxi : ¬ ((x : Int) < (x : Int)) := by omega
            clear HTg HOk
            go_wp2
            go_roundg (p - (k + 1))
            case measure => omega
            case rel => exact ⟨k + 1, ya, yn, yc, by go_num, by omega, Lib.hid (by rw [HR1.out, HR2.out]; exact HS.out), HB⟩
      · have hlt2 : nmb c k < rk c k := by
          have h1 := HCan.out.le k
          exact rk_lt (HCan.out.idem k) (by omega)
        have hlt3 : (nmb c k : Int) < (rk c k : Int) := by omega
        have HR1 := Lib.hid (show rk c (k + 1) = rk c k from by show rk c k + (if c k = k then 1 else 0) = _; rw [if_neg hrep]; rfl)
        have HR2 := Lib.hid (show rowsI c xs N (k + 1) = rowsI c xs N k from by rw [rowsI_snoc, if_neg hrep]; simp)
        generalize nmb c k = nk at *
        generalize hrr : rk c k = rr at *
        clear hrep
        go_wp2
        go_roundg (p - (k + 1))
        case measure => omega
        case rel => exact ⟨k + 1, ya, yn, yc, by go_num, by omega, Lib.hid (by rw [HR1.out, HR2.out]; exact HS.out), HB⟩
    · obtain rfl : k = p := by omega
      have HR := Lib.hid (show New (RowA 72) w3.heap.size wk (.slice ya yn yc) (rowsI c xs N k) from HS.out.swap.headNew)
      have r0 := (HB.out.cell (p := ⟨w.heap.size + 1, 0, none⟩) h1w).trans R0.out
      have t0 := (HB.out.frozen (p := ⟨w.heap.size + 1, 0, none⟩) h1w).trans F0.out
      have r1 := (HB.out.cell (p := ⟨w.heap.size + 1, 1, none⟩) h1w).trans R1.out
      have t1 := (HB.out.frozen (p := ⟨w.heap.size + 1, 1, none⟩) h1w).trans F1.out
      have r2 := (HB.out.cell (p := ⟨w.heap.size + 1, 2, none⟩) h1w).trans R2.out
      have t2 := (HB.out.frozen (p := ⟨w.heap.size + 1, 2, none⟩) h1w).trans F2.out
      have HB2 := Lib.hid (A3.out.trans (HB.out.mono A3.out.size))
      have hki : ¬ ((k : Int) < (k : Int)) := by omega
      clear HS HB
      go_wp2
      have s0 := World.cell?_setCell_same wk _ (.int .i64 N) r0
      have u1 := (World.cell?_setCell_other _ ⟨w.heap.size + 1, 0, none⟩ _ (.int .i64 N) (by simp)).trans r1
      have s1 := World.cell?_setCell_same _ _ (.int .i64 (rk c k : Int)) u1
      have u2 := (World.cell?_setCell_other _ ⟨w.heap.size + 1, 1, none⟩ _ (.int .i64 (rk c k : Int)) (by simp)).trans ((World.cell?_setCell_other _ ⟨w.heap.size + 1, 0, none⟩ _ (.int .i64 N) (by simp)).trans r2)
      have s2 := World.cell?_setCell_same _ _ (.slice ya yn yc) u2
      refine bodyPost_ret (v := .tuple #[.agg #[.int .i64 N, .int .i64 (rk c k : Int), .slice ya yn yc], .bool true]) (by simp [results, Try.results16, go_sem, s0, s1, s2]) rfl ?_
      refine ⟨_, rfl, ?_, (((HB2.out.setCell (p := ⟨w.heap.size + 1, 0, none⟩) (by simp) _).setCell (p := ⟨w.heap.size + 1, 1, none⟩) (by simp) _).setCell (p := ⟨w.heap.size + 1, 2, none⟩) (by simp) _)⟩
      have hk2 := New.storeLow RowG.held (New.storeLow RowG.held (New.storeLow RowG.held HR.out h1w (.int .i64 N) (p := ⟨w.heap.size + 1, 0, none⟩)) h1w (.int .i64 (rk c k : Int)) (p := ⟨w.heap.size + 1, 1, none⟩)) h1w (.slice ya yn yc) (p := ⟨w.heap.size + 1, 2, none⟩)
      obtain ⟨F, hF, hFn, hFg⟩ := hk2
      rw [HW.out]
      exact ⟨F, ⟨_, rfl, RowG.arcs hF⟩, hFn, fun b hb => by have := hFg b hb; omega⟩
end Go.Proofs.Ytdohepngandajaa
end

section
/-
  ReadSame's model: pairs of sets that are reached; the search's invariant.
-/
namespace Go.Proofs.Ytdohepngandajaa
open Go.RowKit Go.Deep Go.Sd

/-- Lists of different numbers below a bound are no longer than the bound. -/
theorem nodup_below : ∀ (n : Nat) (l : List Nat), l.Nodup → (∀ x, x ∈ l → x < n) → l.length ≤ n
  | 0, [], _, _ => by simp
  | 0, x :: l, _, h => absurd (h x (by simp)) (by omega)
  | n + 1, l, hn, h => by
    have h1 : (l.filter (fun x => decide (x ≠ n))).length ≤ n := nodup_below n _ (hn.filter _) fun x hx => by
      have h2 := List.mem_filter.1 hx
      have := h x h2.1
      have h3 : x ≠ n := by simpa using h2.2
      omega
    have h2 : l.length ≤ (l.filter (fun x => decide (x ≠ n))).length + 1 := by
      clear h h1
      induction l with
      | nil => simp
      | cons a t ih =>
        have hn' := List.nodup_cons.1 hn
        by_cases e : a = n
        · subst e
          have : t.filter (fun x => decide (x ≠ a)) = t := List.filter_eq_self.2 fun x hx => by
            simp
            exact fun e => hn'.1 (e ▸ hx)
          rw [List.filter_cons, if_neg (by simp), this]
          simp
        · rw [List.filter_cons, if_pos (by simpa using e)]
          have := ih hn'.2
          simp only [List.length_cons]
          omega
    omega

abbrev P2 := Nat × Nat
def codeP (q : P2) : Nat := q.1 * 4096 + q.2
def nextP (A B : List Arc3) (p : P2) (x : Nat) : P2 := (stepN A p.1 (x : Int), stepN B p.2 (x : Int))
def badP (q : P2) : Bool := (q.1 == 0) != (q.2 == 0)
inductive ReachP (A B : List Arc3) (L : Nat) (p0 : P2) : P2 → Prop
  | start : ReachP A B L p0 p0
  | step {p : P2} (x : Nat) : ReachP A B L p0 p → x < L → ReachP A B L p0 (nextP A B p x)
def goodP (A B : List Arc3) (L : Nat) (p0 : P2) : Prop := ∀ p, ReachP A B L p0 p → ∀ x, x < L → badP (nextP A B p x) = false
def doneP (ps : List P2) (q : P2) : Prop := badP q = false ∧ (q = (0, 0) ∨ q ∈ ps)
/-- The pairs ahead of k are done, and k's first x letters. -/
structure InvP (A B : List Arc3) (L : Nat) (p0 : P2) (ps : List P2) (k x : Nat) : Prop where
  first : p0 ∈ ps
  reach : ∀ p, p ∈ ps → ReachP A B L p0 p
  small : ∀ p, p ∈ ps → p.1 < 4096 ∧ p.2 < 4096
  once : ps.Nodup
  ahead : ∀ i p, i < k → ps[i]? = some p → ∀ y, y < L → doneP ps (nextP A B p y)
  row : ∀ p, ps[k]? = some p → ∀ y, y < x → doneP ps (nextP A B p y)
section
variable {A B : List Arc3} {L : Nat} {p0 : P2} {ps : List P2} {k x : Nat}
theorem InvP.start (h : p0.1 < 4096 ∧ p0.2 < 4096) : InvP A B L p0 [p0] 0 0 :=
  ⟨by simp, fun p hp => by simp at hp; subst hp; exact .start, fun p hp => by simp at hp; subst hp; exact h, by simp, fun i p hi => by omega, fun p _ y hy => by omega⟩
theorem InvP.len (h : InvP A B L p0 ps k x) : ps.length ≤ 16777216 := by
  have h1 : (ps.map codeP).Nodup := by
    have := h.once
    rw [List.Nodup, List.pairwise_map]
    refine List.Pairwise.imp_of_mem (fun {a b} ha hb hne e => hne ?_) this
    have h1 := h.small a ha
    have h2 := h.small b hb
    unfold codeP at e
    exact Prod.ext (by omega) (by omega)
  have h2 := nodup_below 16777216 (ps.map codeP) h1 fun y hy => by
    obtain ⟨p, hp, rfl⟩ := List.mem_map.1 hy
    have := h.small p hp
    unfold codeP
    omega
  simpa using h2
theorem InvP.bad (h : InvP A B L p0 ps k x) {p : P2} (hp : ps[k]? = some p) (hx : x < L) (hb : badP (nextP A B p x) = true) : ¬ goodP A B L p0 := fun hg => by
  have := hg p (h.reach p (List.mem_of_getElem? hp)) x hx
  rw [this] at hb
  cases hb
theorem InvP.known (h : InvP A B L p0 ps k x) {p : P2} (hp : ps[k]? = some p) (hb : badP (nextP A B p x) = false) (hm : nextP A B p x = (0, 0) ∨ nextP A B p x ∈ ps) : InvP A B L p0 ps k (x + 1) :=
  ⟨h.first, h.reach, h.small, h.once, h.ahead, fun q hq y hy => by
    rw [hp] at hq
    cases hq
    by_cases e : y = x
    · subst e; exact ⟨hb, hm⟩
    · exact h.row p hp y (by omega)⟩
theorem doneP.snoc {q r : P2} (h : doneP ps q) : doneP (ps ++ [r]) q := ⟨h.1, h.2.imp id fun h => List.mem_append_left _ h⟩
theorem InvP.add (h : InvP A B L p0 ps k x) {p : P2} (hp : ps[k]? = some p) (hx : x < L) (hb : badP (nextP A B p x) = false) (hm : nextP A B p x ∉ ps) (hs : (nextP A B p x).1 < 4096 ∧ (nextP A B p x).2 < 4096) : InvP A B L p0 (ps ++ [nextP A B p x]) k (x + 1) := by
  have hk := (List.getElem?_eq_some_iff.1 hp).1
  refine ⟨List.mem_append_left _ h.first, fun q hq => ?_, fun q hq => ?_, ?_, fun i q hi hq y hy => ?_, fun q hq y hy => ?_⟩
  · rcases List.mem_append.1 hq with hq | hq
    · exact h.reach q hq
    · simp at hq; subst hq; exact .step x (h.reach p (List.mem_of_getElem? hp)) hx
  · rcases List.mem_append.1 hq with hq | hq
    · exact h.small q hq
    · simp at hq; subst hq; exact hs
  · refine List.nodup_append.2 ⟨h.once, by simp, fun a ha b hb' e => ?_⟩
    simp at hb'
    subst e hb'
    exact hm ha
  · rw [List.getElem?_append_left (by omega)] at hq
    exact (h.ahead i q hi hq y hy).snoc
  · rw [List.getElem?_append_left hk, hp] at hq
    cases hq
    by_cases e : y = x
    · subst e; exact ⟨hb, Or.inr (by simp)⟩
    · exact (h.row p hp y (by omega)).snoc
theorem InvP.next (h : InvP A B L p0 ps k L) : InvP A B L p0 ps (k + 1) 0 :=
  ⟨h.first, h.reach, h.small, h.once, fun i p hi hp y hy => by
    by_cases e : i = k
    · subst e; exact h.row p hp y hy
    · exact h.ahead i p (by omega) hp y hy, fun p _ y hy => by omega⟩
theorem stepN_zero (xs : List Arc3) (x : Int) : stepN xs 0 x = 0 := by
  have : ∀ (ys : List Arc3) (o : Nat), stepL 0 x ys o = o := by
    intro ys
    induction ys with
    | nil => intro o; rfl
    | cons a ys ih => intro o; unfold stepL; rw [ih]; simp [hit]
  exact this xs 0
theorem InvP.end (h : InvP A B L p0 ps k 0) (hk : ps.length ≤ k) : goodP A B L p0 := by
  have key : ∀ p, ReachP A B L p0 p → p = (0, 0) ∨ p ∈ ps := by
    intro p hp
    induction hp with
    | start => exact Or.inr h.first
    | @step p x hp hx ih =>
      rcases ih with rfl | ih
      · left; simp [nextP, stepN_zero]
      · obtain ⟨i, hi⟩ := List.getElem?_of_mem ih
        have := (List.getElem?_eq_some_iff.1 hi).1
        exact (h.ahead i p (by omega) hi x hx).2
  intro p hp x hx
  rcases key p hp with rfl | hp
  · simp [nextP, stepN_zero, badP]
  · obtain ⟨i, hi⟩ := List.getElem?_of_mem hp
    have := (List.getElem?_eq_some_iff.1 hi).1
    exact (h.ahead i p (by omega) hi x hx).1
end
open Classical in
noncomputable def readSameM (a b : Lb) : Bool :=
  isLab a && (isLab b && (decide (a.1 = b.1) && decide (goodP a.2.2 b.2.2 a.1.toNat (2 ^ a.2.1.toNat - 1, 2 ^ b.2.1.toNat - 1))))
end Go.Proofs.Ytdohepngandajaa
end

section
/-
  Sets of states that are reached, in the order in which they are found: the models of l15Sets and reachSets.
-/
namespace Go.Proofs.Ytdohepngandajaa
open Go.RowKit Go.Deep Go.Sd

def OkS (sets : List Nat) : Prop := sets.Nodup ∧ ∀ s, s ∈ sets → 0 < s ∧ s < 4096
theorem OkS.len {sets : List Nat} (h : OkS sets) : sets.length ≤ 4095 := by
  have h1 : (sets.map (· - 1)).Nodup := by
    rw [List.Nodup, List.pairwise_map]
    refine List.Pairwise.imp_of_mem (fun {a b} ha hb hne e => hne ?_) h.1
    have := h.2 a ha
    have := h.2 b hb
    omega
  have h2 := nodup_below 4095 _ h1 fun x hx => by
    obtain ⟨s, hs, rfl⟩ := List.mem_map.1 hx
    have := h.2 s hs
    omega
  simpa using h2
def addS (sets : List Nat) (t : Nat) : List Nat := if t = 0 ∨ t ∈ sets then sets else sets ++ [t]
def posS (sets : List Nat) (t : Nat) : Int := if t = 0 then -1 else (sets.idxOf t : Int)
theorem OkS.add {sets : List Nat} (h : OkS sets) {t : Nat} (ht : t < 4096) : OkS (addS sets t) := by
  unfold addS
  by_cases e : t = 0 ∨ t ∈ sets
  · rw [if_pos e]; exact h
  · rw [if_neg e]
    rw [not_or] at e
    refine ⟨List.nodup_append.2 ⟨h.1, by simp, fun a ha b hb => ?_⟩, fun s hs => ?_⟩
    · simp at hb; subst hb; exact fun e2 => e.2 (e2 ▸ ha)
    · rcases List.mem_append.1 hs with hs | hs
      · exact h.2 s hs
      · simp at hs; subst hs; omega
theorem addS_pre (sets : List Nat) (t : Nat) : ∃ u, addS sets t = sets ++ u := by
  unfold addS
  split
  · exact ⟨[], by simp⟩
  · exact ⟨[t], rfl⟩
/-- One row: where each letter leads from s. -/
def rowS (A : List Arc3) (s : Nat) : Nat → Nat → List Nat → List Int → List Nat × List Int
  | 0, _, sets, row => (sets, row)
  | n + 1, x, sets, row => rowS A s n (x + 1) (addS sets (stepN A s (x : Int))) (row ++ [posS sets (stepN A s (x : Int))])
def bfsS (A : List Arc3) (L : Nat) : Nat → List Nat → Nat → List (List Int) → List Nat × List (List Int)
  | 0, sets, _, next => (sets, next)
  | f + 1, sets, k, next => match sets[k]? with
    | none => (sets, next)
    | some s => bfsS A L f (rowS A s L 0 sets []).1 (k + 1) (next ++ [(rowS A s L 0 sets []).2])
section
variable {A : List Arc3}
theorem rowS_ok (hA : ∀ s x, stepN A s x < 4096) (s : Nat) : ∀ (n x : Nat) (sets : List Nat) (row : List Int), OkS sets → OkS (rowS A s n x sets row).1
  | 0, _, _, _, h => h
  | n + 1, x, sets, row, h => rowS_ok hA s n (x + 1) _ _ (h.add (hA _ _))
theorem rowS_pre (s : Nat) : ∀ (n x : Nat) (sets : List Nat) (row : List Int), ∃ u, (rowS A s n x sets row).1 = sets ++ u
  | 0, _, sets, _ => ⟨[], by simp [rowS]⟩
  | n + 1, x, sets, row => by
    obtain ⟨u, hu⟩ := addS_pre sets (stepN A s (x : Int))
    obtain ⟨v, hv⟩ := rowS_pre s n (x + 1) (addS sets (stepN A s (x : Int))) (row ++ [posS sets (stepN A s (x : Int))])
    exact ⟨u ++ v, by simp only [rowS]; rw [hv, hu, List.append_assoc]⟩
theorem rowS_fst (s : Nat) : ∀ (n x : Nat) (sets : List Nat) (r r' : List Int), (rowS A s n x sets r).1 = (rowS A s n x sets r').1
  | 0, _, _, _, _ => rfl
  | n + 1, x, sets, r, r' => rowS_fst s n (x + 1) _ _ _
end
/-! The search with words. -/
abbrev Ent := Nat × List Nat
def addE (es : List Ent) (t : Nat) (w : List Nat) : List Ent := if t = 0 ∨ t ∈ es.map (·.1) then es else es ++ [(t, w)]
def rowE (A : List Arc3) (s : Nat) (w : List Nat) : Nat → Nat → List Ent → List Ent
  | 0, _, es => es
  | n + 1, x, es => rowE A s w n (x + 1) (addE es (stepN A s (x : Int)) (w ++ [x]))
def nextE (A : List Arc3) (L most : Nat) (es : List Ent) (e : Ent) : List Ent := if e.2.length = most then es else rowE A e.1 e.2 L 0 es
def reachE {σ : Type} (A : List Arc3) (L most : Nat) (cb : σ → Ent → σ × Bool) : Nat → List Ent → Nat → σ → σ
  | 0, _, _, st => st
  | f + 1, es, k, st => match es[k]? with
    | none => st
    | some e => if (cb st e).2 = true then (cb st e).1 else reachE A L most cb f (nextE A L most es e) (k + 1) (cb st e).1
def OkE (es : List Ent) : Prop := OkS (es.map (·.1))
theorem OkE.len {es : List Ent} (h : OkE es) : es.length ≤ 4095 := by simpa using OkS.len h
theorem addE_fst (es : List Ent) (t : Nat) (w : List Nat) : (addE es t w).map (·.1) = addS (es.map (·.1)) t := by
  unfold addE addS
  split
  · rfl
  · simp
theorem OkE.add {es : List Ent} (h : OkE es) {t : Nat} (ht : t < 4096) (w : List Nat) : OkE (addE es t w) := by
  unfold OkE
  rw [addE_fst]
  exact OkS.add h ht
theorem rowE_fst (A : List Arc3) (s : Nat) (w : List Nat) : ∀ (n x : Nat) (es : List Ent) (r : List Int), (rowE A s w n x es).map (·.1) = (rowS A s n x (es.map (·.1)) r).1
  | 0, _, _, _ => rfl
  | n + 1, x, es, r => by
    simp only [rowE, rowS]
    rw [rowE_fst A s w n (x + 1) _ (r ++ [posS (es.map (·.1)) (stepN A s (x : Int))]), addE_fst]
theorem rowE_ok {A : List Arc3} (hA : ∀ s x, stepN A s x < 4096) (s : Nat) (w : List Nat) (n x : Nat) {es : List Ent} (h : OkE es) : OkE (rowE A s w n x es) := by
  unfold OkE
  rw [rowE_fst A s w n x es []]
  exact rowS_ok hA s n x _ _ h
theorem nextE_ok {A : List Arc3} (hA : ∀ s x, stepN A s x < 4096) (L most : Nat) {es : List Ent} (h : OkE es) (e : Ent) : OkE (nextE A L most es e) := by
  unfold nextE
  split
  · exact h
  · exact rowE_ok hA _ _ _ _ h
/-- The words' lengths: at most the place; at most a bound. -/
def Short (es : List Ent) : Prop := ∀ (i : Nat) (e : Ent), es[i]? = some e → e.2.length ≤ i
def Capped (m : Nat) (es : List Ent) : Prop := ∀ e, e ∈ es → e.2.length ≤ m
theorem addE_short {es : List Ent} (h : Short es) {t : Nat} {w : List Nat} (hw : w.length ≤ es.length) : Short (addE es t w) := by
  unfold addE
  split
  · exact h
  · intro i e hi
    by_cases hl : i < es.length
    · rw [List.getElem?_append_left hl] at hi; exact h i e hi
    · have h1 := (List.getElem?_eq_some_iff.1 hi).1
      simp at h1
      have e1 : i = es.length := by omega
      subst e1
      rw [List.getElem?_append_right (by omega)] at hi
      simp at hi
      subst hi
      exact hw
theorem addE_len (es : List Ent) (t : Nat) (w : List Nat) : es.length ≤ (addE es t w).length := by
  unfold addE
  split <;> simp
theorem rowE_short (A : List Arc3) (s : Nat) (w : List Nat) : ∀ (n x : Nat) (es : List Ent), Short es → w.length + 1 ≤ es.length → Short (rowE A s w n x es)
  | 0, _, _, h, _ => h
  | n + 1, x, es, h, hw => rowE_short A s w n (x + 1) _ (addE_short h (by simpa using hw)) (Nat.le_trans hw (addE_len _ _ _))
theorem addE_capped {m : Nat} {es : List Ent} (h : Capped m es) {t : Nat} {w : List Nat} (hw : w.length ≤ m) : Capped m (addE es t w) := by
  unfold addE
  split
  · exact h
  · intro e he
    rcases List.mem_append.1 he with he | he
    · exact h e he
    · simp at he; subst he; exact hw
theorem rowE_capped {m : Nat} (A : List Arc3) (s : Nat) (w : List Nat) (hw : w.length < m) : ∀ (n x : Nat) (es : List Ent), Capped m es → Capped m (rowE A s w n x es)
  | 0, _, _, h => h
  | n + 1, x, es, h => rowE_capped A s w hw n (x + 1) _ (addE_capped h (by simp; omega))
theorem nextE_capped {m : Nat} (A : List Arc3) (L : Nat) {es : List Ent} (h : Capped m es) {e : Ent} (he : e ∈ es) : Capped m (nextE A L m es e) := by
  unfold nextE
  split
  · exact h
  · exact rowE_capped A _ _ (by have := h e he; omega) _ _ _ h

/-! The least of numbers that belong to the sets. -/
def minF (f : Nat → Int) (a : Int) (s : Nat) : Int := if f s < a then f s else a
def cbMin (f : Nat → Int) (a : Int) (e : Ent) : Int × Bool := (minF f a e.1, false)
theorem reach_min (A : List Arc3) (L : Nat) (f : Nat → Int) (hA : ∀ s x, stepN A s x < 4096) : ∀ (g : Nat) (es : List Ent) (k : Nat) (next : List (List Int)) (a0 : Int),
    OkE es → Short es → 4096 ≤ g + k → reachE A L 4096 (cbMin f) g es k (((es.map (·.1)).take k).foldl (minF f) a0) = (bfsS A L g (es.map (·.1)) k next).1.foldl (minF f) a0
  | 0, es, k, next, a0, ho, _, hg => by
    have := ho.len
    simp only [reachE, bfsS]
    rw [List.take_of_length_le (by simp; omega)]
  | g + 1, es, k, next, a0, ho, hs, hg => by
    unfold reachE bfsS
    rw [List.getElem?_map]
    cases hk : es[k]? with
    | none =>
      simp only [Option.map_none]
      rw [List.take_of_length_le (by simp; exact List.getElem?_eq_none_iff.1 hk)]
    | some e =>
      simp only [Option.map_some]
      have hkl := (List.getElem?_eq_some_iff.1 hk).1
      have hl := ho.len
      have hse := hs k e hk
      have e1 : nextE A L 4096 es e = rowE A e.1 e.2 L 0 es := by unfold nextE; rw [if_neg (by omega)]
      have e2 := rowE_fst A e.1 e.2 L 0 es []
      obtain ⟨u, hu⟩ := rowS_pre (A := A) e.1 L 0 (es.map (·.1)) []
      have ih := reach_min A L f hA g (rowE A e.1 e.2 L 0 es) (k + 1) (next ++ [(rowS A e.1 L 0 (es.map (·.1)) []).2]) a0 (rowE_ok hA _ _ _ _ ho) (rowE_short _ _ _ _ _ _ hs (by omega)) (by omega)
      have hpre := hu
      rw [← e2] at hpre
      rw [e1]
      rw [show (cbMin f (((es.map (·.1)).take k).foldl (minF f) a0) e).2 = false from rfl, if_neg (by simp)]
      rw [show (cbMin f (((es.map (·.1)).take k).foldl (minF f) a0) e).1 = (((rowE A e.1 e.2 L 0 es).map (·.1)).take (k + 1)).foldl (minF f) a0 from by
        rw [hpre, List.take_append_of_le_length (by simp; omega), List.take_add_one, List.getElem?_map, hk, List.foldl_append]
        rfl]
      rw [ih, e2]
end Go.Proofs.Ytdohepngandajaa
end
