/-
  The set of states to which a word leads; which words are read: both sides.
-/
import Derived.Test.YtdohepngandajaaDoorRows
import Derived.Test.YtdohepngandajaaDoorBase
import Derived.Test.YtdohepngandajaaDoorLab
import Derived.Test.YtdohepngandajaaDoorLabC
import Derived.Test.YtdohepngandajaaDoorLabM
import Derived.Test.YtdohepngandajaaDoorLabStep
import Derived.Test.YtdohepngandajaaDoorWord
import Derived.IntWalk
import Derived.Deep.RegionHeld3
import Derived.Deep.DeepCutAuto
namespace Go.Proofs.YtdohepngandajaaDoor
open Go.RowKit Go.Deep Go.Sd

def readB (xs : List Arc3) : List UInt8 → Nat → Nat
  | [], s => s
  | c :: l, s => readB xs l (stepN xs s ((c.toNat : Int) - 97))
theorem readB_lt {S : Int} {xs : List Arc3} (h : okArcs S xs) (hS : S ≤ 12) : ∀ (l : List UInt8) (s : Nat), s < 4096 → readB xs l s < 4096
  | [], _, hs => hs
  | _ :: l, s, _ => readB_lt h hS l _ (stepN_lt h hS s _)
theorem letB_ge {k : Int} : ∀ {l : List UInt8}, letB k l = true → ∀ c, c ∈ l → 97 ≤ c.toNat ∧ (c.toNat : Int) - 97 < k
  | [], _, c, hc => by cases hc
  | b :: l, h, c, hc => by
    have h1 : (if 97 ≤ b.toNat ∧ (b.toNat : Int) - 97 < k then letB k l else false) = true := h
    by_cases hb : 97 ≤ b.toNat ∧ (b.toNat : Int) - 97 < k
    · rw [if_pos hb] at h1
      rcases List.mem_cons.1 hc with rfl | hc
      · exact hb
      · exact letB_ge h1 c hc
    · rw [if_neg hb] at h1; cases h1
theorem str_mem (s : ByteArray) (k : Nat) (h : k < s.size) : s[k] ∈ s.data.toList := by
  have h1 := str_drop s k h
  exact List.mem_of_mem_drop (i := k) (by rw [h1]; simp)
set_option maxHeartbeats 4000000 in
set_option maxRecDepth 10000 in
theorem impl_read_c {w : World} {v : Value} {l : Lb} (h : LabR w v l) (hv : okArcs l.2.1 l.2.2) (hS : l.2.1 ≤ 12) {q0 : Nat} (hq0 : q0 < 4096) {s : ByteArray} (hs : s.size ≤ maxLen) (hw : ∀ c, c ∈ s.data.toList → 97 ≤ c.toNat) :
    Calls Tryd.prog 27 #[v, .int .i64 q0, .string s] w fun e w' => e = .returned (.int .i64 (readB l.2.2 s.data.toList q0)) ∧ Below w.heap.size w w' := by
  unfold maxLen at hs
  have Hst := Lib.hid (fun w1 (hb : Below w.heap.size w w1) q (hq : q < 4096) x => impl_step_c (LabR.frame _ _ _ _ h hb) hv hS hq x)
  obtain ⟨L, S, xs⟩ := l
  obtain ⟨va, rfl, _, a, c, rfl, _, _, _, _⟩ := h
  simp only at hv hS
  simp only at Hst
  simp only
  have H0 := Lib.hid (show readB xs s.data.toList q0 = readB xs (s.data.toList.drop 0) q0 from rfl)
  generalize readB xs s.data.toList q0 = T at H0 ⊢
  have Hlt := Lib.hid (fun q x => stepN_lt hv hS q x)
  have Hw := Lib.hid hw
  clear hw
  generalize xs.length = n at *
  clear hv hS
  go_enter Tryd.func27, Tryd.ntmps27
  have q0' : (w.alloc (.cells #[.int .i64 L, .int .i64 S, .slice a n c] 29)).cell? ⟨w.heap.size, 0, none⟩ = some (.int .i64 L) := by simp
  have q1' : (w.alloc (.cells #[.int .i64 L, .int .i64 S, .slice a n c] 29)).cell? ⟨w.heap.size, 1, none⟩ = some (.int .i64 S) := by simp
  have q2' : (w.alloc (.cells #[.int .i64 L, .int .i64 S, .slice a n c] 29)).cell? ⟨w.heap.size, 2, none⟩ = some (.slice a n c) := by simp
  have hb1 : Below w.heap.size w (w.alloc (.cells #[.int .i64 L, .int .i64 S, .slice a n c] 29)) := (Below.refl _ _).alloc (Nat.le_refl _) _
  have m1 : w.heap.size < (w.alloc (.cells #[.int .i64 L, .int .i64 S, .slice a n c] 29)).heap.size := by simp
  go_wp2
  generalize w.alloc (.cells #[.int .i64 L, .int .i64 S, .slice a n c] 29) = w1 at *
  have Hb1 := Lib.hid hb1
  have hz := hb1.size
  clear hb1
  go_loopg [1, 10] (s.size) (fun g u i wr => ∃ (k q : Nat), i = .int .i64 k ∧ u = .int .i64 q ∧ q < 4096 ∧ k + g = s.size ∧ Hid (T = readB xs (s.data.toList.drop k) q) ∧ Below w1.heap.size w1 wr)
  case atStart => exact ⟨0, q0, rfl, rfl, hq0, by omega, H0, Below.refl _ _⟩
  case round =>
    obtain ⟨k, q, rfl, rfl, hq, hk, HK, hbel⟩ := hrel
    by_cases hlt : k < s.size
    · have HK1 := Lib.hid (show T = readB xs (s.data.toList.drop (k + 1)) (stepN xs q ((s[k].toNat : Int) - 97)) from by rw [HK.out, str_drop s k hlt]; rfl)
      have hc := byte_lt s[k]
      have hc97 := Hw.out _ (str_mem s k hlt)
      have hS0 : wr.cell? ⟨w.heap.size, 0, none⟩ = some (.int .i64 L) ∧ wr.cell? ⟨w.heap.size, 1, none⟩ = some (.int .i64 S) ∧ wr.cell? ⟨w.heap.size, 2, none⟩ = some (.slice a n c) := ⟨(hbel.cell (p := ⟨w.heap.size, 0, none⟩) m1).trans q0', (hbel.cell (p := ⟨w.heap.size, 1, none⟩) m1).trans q1', (hbel.cell (p := ⟨w.heap.size, 2, none⟩) m1).trans q2'⟩
      have hSd : wr.drew.cell? ⟨w.heap.size, 0, none⟩ = some (.int .i64 L) ∧ wr.drew.cell? ⟨w.heap.size, 1, none⟩ = some (.int .i64 S) ∧ wr.drew.cell? ⟨w.heap.size, 2, none⟩ = some (.slice a n c) := hS0
      have hz2 := hbel.size
      have hwr : w.heap.size < wr.heap.size := by omega
      have Hbel := Lib.hid hbel
      have HB := Lib.hid ((Hb1.out.trans (hbel.mono hz)).drew)
      have HS := Lib.hid (fun (w2 : World) (hb3 : Below wr.heap.size wr w2) => (show w2.cell? ⟨w.heap.size, 0, none⟩ = some (.int .i64 L) ∧ w2.cell? ⟨w.heap.size, 1, none⟩ = some (.int .i64 S) ∧ w2.cell? ⟨w.heap.size, 2, none⟩ = some (.slice a n c) from ⟨(hb3.cell (p := ⟨w.heap.size, 0, none⟩) hwr).trans hS0.1, (hb3.cell (p := ⟨w.heap.size, 1, none⟩) hwr).trans hS0.2.1, (hb3.cell (p := ⟨w.heap.size, 2, none⟩) hwr).trans hS0.2.2⟩))
      have Hc := Lib.hid (Hst.out _ HB.out q hq ((s[k].toNat : Int) - 97))
      have Hl := Lib.hid (Hlt.out q ((s[k].toNat : Int) - 97))
      generalize stepN xs q ((s[k].toNat : Int) - 97) = q' at HK1 Hc Hl
      have hw8 : IntKind.u8.wrap ((s[k].toNat : Int) - 97) = (s[k].toNat : Int) - 97 := IntWalk.u8_in _ (by omega)
      have hw64 : IntKind.i64.wrap ((s[k].toNat : Int) - 97) = (s[k].toNat : Int) - 97 := IntWalk.i64_in _ (by omega)
      clear HK hbel H0 q0' q1' q2'
      go_wp2
      go_region_held3 (fun w' => w'.cell? ⟨w.heap.size, 0, none⟩ = some (.int .i64 L) ∧ w'.cell? ⟨w.heap.size, 1, none⟩ = some (.int .i64 S) ∧ w'.cell? ⟨w.heap.size, 2, none⟩ = some (.slice a n c))
        (first | with_reducible exact hS1 | with_reducible exact hSd | with_reducible exact hS0 | go_keep)
        ((first
          | (go_at_call 44; (with_reducible refine Hc.out.mono ?_); rintro e w2 ⟨rfl, hb2⟩; have hb3 := ((Below.refl wr.heap.size wr).drew).trans hb2; have hS1 := HS.out w2 hb3; have Hb3 := Lib.hid (Hbel.out.trans (hb3.mono hz2)); clear hb2 hb3)
          | fail))
      go_wp2
      go_roundg (s.size - (k + 1))
      case measure => omega
      case rel => exact ⟨k + 1, q', by go_num, rfl, Hl.out, by omega, HK1, Hb3.out⟩
    · have HF := Lib.hid (show T = q from by rw [HK.out, str_end s k hlt]; rfl)
      have Hbz := Lib.hid (Hb1.out.trans (hbel.mono hz))
      clear HK hbel H0
      go_wp2
      go_ret
      exact ⟨by rw [HF.out]; rfl, Hbz.out⟩
set_option maxHeartbeats 4000000 in
set_option maxRecDepth 10000 in
theorem spec_read_c {w : World} {v : Value} {l : Lb} (h : LabR w v l) (hv : okArcs l.2.1 l.2.2) (hS : l.2.1 ≤ 12) {q0 : Nat} (hq0 : q0 < 4096) {s : ByteArray} (hs : s.size ≤ maxLen) :
    Calls Tryd.prog 24 #[v, .int .i64 q0, .string s] w fun e w' => e = .returned (.int .i64 (readB l.2.2 s.data.toList q0)) ∧ Below w.heap.size w w' := by
  unfold maxLen at hs
  have Hst := Lib.hid (fun w1 (hb : Below w.heap.size w w1) q (hq : q < 4096) x => spec_step_c (LabR.frame _ _ _ _ h hb) hv hS hq x)
  obtain ⟨L, S, xs⟩ := l
  obtain ⟨va, rfl, _, a, c, rfl, _, _, _, _⟩ := h
  simp only at hv hS
  simp only at Hst
  simp only
  have H0 := Lib.hid (show readB xs s.data.toList q0 = readB xs (s.data.toList.drop 0) q0 from rfl)
  generalize readB xs s.data.toList q0 = T at H0 ⊢
  have Hlt := Lib.hid (fun q x => stepN_lt hv hS q x)
  generalize xs.length = n at *
  clear hv hS
  go_enter Tryd.func24, Tryd.ntmps24
  have q0' : (w.alloc (.cells #[.int .i64 L, .int .i64 S, .slice a n c] 29)).cell? ⟨w.heap.size, 0, none⟩ = some (.int .i64 L) := by simp
  have q1' : (w.alloc (.cells #[.int .i64 L, .int .i64 S, .slice a n c] 29)).cell? ⟨w.heap.size, 1, none⟩ = some (.int .i64 S) := by simp
  have q2' : (w.alloc (.cells #[.int .i64 L, .int .i64 S, .slice a n c] 29)).cell? ⟨w.heap.size, 2, none⟩ = some (.slice a n c) := by simp
  have hb1 : Below w.heap.size w (w.alloc (.cells #[.int .i64 L, .int .i64 S, .slice a n c] 29)) := (Below.refl _ _).alloc (Nat.le_refl _) _
  have m1 : w.heap.size < (w.alloc (.cells #[.int .i64 L, .int .i64 S, .slice a n c] 29)).heap.size := by simp
  go_wp2
  generalize w.alloc (.cells #[.int .i64 L, .int .i64 S, .slice a n c] 29) = w1 at *
  have Hb1 := Lib.hid hb1
  have hz := hb1.size
  clear hb1
  go_loopg [1, 7] (s.size) (fun g u i wr => ∃ (k q : Nat), i = .int .i64 k ∧ u = .int .i64 q ∧ q < 4096 ∧ k + g = s.size ∧ Hid (T = readB xs (s.data.toList.drop k) q) ∧ Below w1.heap.size w1 wr)
  case atStart => exact ⟨0, q0, rfl, rfl, hq0, by omega, H0, Below.refl _ _⟩
  case round =>
    obtain ⟨k, q, rfl, rfl, hq, hk, HK, hbel⟩ := hrel
    by_cases hlt : k < s.size
    · have HK1 := Lib.hid (show T = readB xs (s.data.toList.drop (k + 1)) (stepN xs q ((s[k].toNat : Int) - 97)) from by rw [HK.out, str_drop s k hlt]; rfl)
      have hc := byte_lt s[k]
      have hS0 : wr.cell? ⟨w.heap.size, 0, none⟩ = some (.int .i64 L) ∧ wr.cell? ⟨w.heap.size, 1, none⟩ = some (.int .i64 S) ∧ wr.cell? ⟨w.heap.size, 2, none⟩ = some (.slice a n c) := ⟨(hbel.cell (p := ⟨w.heap.size, 0, none⟩) m1).trans q0', (hbel.cell (p := ⟨w.heap.size, 1, none⟩) m1).trans q1', (hbel.cell (p := ⟨w.heap.size, 2, none⟩) m1).trans q2'⟩
      have hSd : wr.drew.cell? ⟨w.heap.size, 0, none⟩ = some (.int .i64 L) ∧ wr.drew.cell? ⟨w.heap.size, 1, none⟩ = some (.int .i64 S) ∧ wr.drew.cell? ⟨w.heap.size, 2, none⟩ = some (.slice a n c) := hS0
      have hz2 := hbel.size
      have hwr : w.heap.size < wr.heap.size := by omega
      have Hbel := Lib.hid hbel
      have HB := Lib.hid ((Hb1.out.trans (hbel.mono hz)).drew)
      have HS := Lib.hid (fun (w2 : World) (hb3 : Below wr.heap.size wr w2) => (show w2.cell? ⟨w.heap.size, 0, none⟩ = some (.int .i64 L) ∧ w2.cell? ⟨w.heap.size, 1, none⟩ = some (.int .i64 S) ∧ w2.cell? ⟨w.heap.size, 2, none⟩ = some (.slice a n c) from ⟨(hb3.cell (p := ⟨w.heap.size, 0, none⟩) hwr).trans hS0.1, (hb3.cell (p := ⟨w.heap.size, 1, none⟩) hwr).trans hS0.2.1, (hb3.cell (p := ⟨w.heap.size, 2, none⟩) hwr).trans hS0.2.2⟩))
      have Hc := Lib.hid (Hst.out _ HB.out q hq ((s[k].toNat : Int) - 97))
      have Hl := Lib.hid (Hlt.out q ((s[k].toNat : Int) - 97))
      generalize stepN xs q ((s[k].toNat : Int) - 97) = q' at HK1 Hc Hl
      have hwb : IntKind.i64.wrap (s[k].toNat : Int) = (s[k].toNat : Int) := IntWalk.i64_in _ (by omega)
      have hw64 : IntKind.i64.wrap ((s[k].toNat : Int) - 97) = (s[k].toNat : Int) - 97 := IntWalk.i64_in _ (by omega)
      clear HK hbel H0 q0' q1' q2'
      go_wp2
      go_region_held3 (fun w' => w'.cell? ⟨w.heap.size, 0, none⟩ = some (.int .i64 L) ∧ w'.cell? ⟨w.heap.size, 1, none⟩ = some (.int .i64 S) ∧ w'.cell? ⟨w.heap.size, 2, none⟩ = some (.slice a n c))
        (first | with_reducible exact hS1 | with_reducible exact hSd | with_reducible exact hS0 | go_keep)
        ((first
          | (go_at_call 40; (with_reducible refine Hc.out.mono ?_); rintro e w2 ⟨rfl, hb2⟩; have hb3 := ((Below.refl wr.heap.size wr).drew).trans hb2; have hS1 := HS.out w2 hb3; have Hb3 := Lib.hid (Hbel.out.trans (hb3.mono hz2)); clear hb2 hb3)
          | fail))
      go_wp2
      go_roundg (s.size - (k + 1))
      case measure => omega
      case rel => exact ⟨k + 1, q', by go_num, rfl, Hl.out, by omega, HK1, Hb3.out⟩
    · have HF := Lib.hid (show T = q from by rw [HK.out, str_end s k hlt]; rfl)
      have Hbz := Lib.hid (Hb1.out.trans (hbel.mono hz))
      clear HK hbel H0
      go_wp2
      go_ret
      exact ⟨by rw [HF.out]; rfl, Hbz.out⟩
end Go.Proofs.YtdohepngandajaaDoor
