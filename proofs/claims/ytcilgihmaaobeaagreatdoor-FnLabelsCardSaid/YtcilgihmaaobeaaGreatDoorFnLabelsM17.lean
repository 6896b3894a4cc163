/-
  Laws for this claim's walks, contracts of the functions that it reaches.
-/
import Derived.Test.YtcilgihmaaobeaaGreatDoorFnLabelsM15
import Derived.Test.YtcilgihmaaobeaaGreatDoorFnLabelsM16
import Derived.Shelf.SlSortCmp.WholeK
import Derived.Ground.SlsfProg
set_option linter.unusedVariables false
set_option linter.unusedSimpArgs false
section
namespace Go.Proofs.YtcilgihmaaobeaaGreatDoor
open Go.RowKit Go.Deep Go.Sd

def readB (xs : List Arc3) : List UInt8 → Nat → Nat
  | [], s => s
  | c :: l, s => readB xs l (stepN xs s ((c.toNat : Int) - 97))
theorem readB_lt {S : Int} {xs : List Arc3} (h : okArcs S xs) (hS : S ≤ 12) : ∀ (l : List UInt8) (s : Nat), s < 4096 → readB xs l s < 4096
  | [], _, hs => hs
  | _ :: l, s, _ => readB_lt h hS l _ (stepN_lt h hS s _)
theorem letB_ge {k : Int} : ∀ {l : List UInt8}, letB k l = true → ∀ c, c ∈ l → 97 ≤ c.toNat ∧ (c.toNat : Int) - 97 < k
  | [], _, c, hc => by cases hc
  | b :: l, h, c, hc => by
    have h1 : (if 97 ≤ b.toNat ∧ (b.toNat : Int) - 97 < k then letB k l else false) = true := h
    by_cases hb : 97 ≤ b.toNat ∧ (b.toNat : Int) - 97 < k
    · rw [if_pos hb] at h1
      rcases List.mem_cons.1 hc with rfl | hc
      · exact hb
      · exact letB_ge h1 c hc
    · rw [if_neg hb] at h1; cases h1
theorem str_mem (s : ByteArray) (k : Nat) (h : k < s.size) : s[k] ∈ s.data.toList := by
  have h1 := str_drop s k h
  exact List.mem_of_mem_drop (i := k) (by rw [h1]; simp)
set_option maxHeartbeats 4000000 in
set_option maxRecDepth 10000 in
theorem impl_read_c {w : World} {v : Value} {l : Lb} (h : LabR w v l) (hv : okArcs l.2.1 l.2.2) (hS : l.2.1 ≤ 12) {q0 : Nat} (hq0 : q0 < 4096) {s : ByteArray} (hs : s.size ≤ maxLen) (hw : ∀ c, c ∈ s.data.toList → 97 ≤ c.toNat) :
    Calls Tryz.prog 39 #[v, .int .i64 q0, .string s] w fun e w' => e = .returned (.int .i64 (readB l.2.2 s.data.toList q0)) ∧ Below w.heap.size w w' := by
  unfold maxLen at hs
  have Hst := Lib.hid (fun w1 (hb : Below w.heap.size w w1) q (hq : q < 4096) x => impl_step_c (LabR.frame _ _ _ _ h hb) hv hS hq x)
  obtain ⟨L, S, xs⟩ := l
  obtain ⟨va, rfl, _, a, c, rfl, _, _, _, _⟩ := h
  simp only at hv hS
  simp only at Hst
  simp only
  have H0 := Lib.hid (show readB xs s.data.toList q0 = readB xs (s.data.toList.drop 0) q0 from rfl)
  generalize readB xs s.data.toList q0 = T at H0 ⊢
  have Hlt := Lib.hid (fun q x => stepN_lt hv hS q x)
  have Hw := Lib.hid hw
  clear hw
  generalize xs.length = n at *
  clear hv hS
  go_enter Tryz.func39, Tryz.ntmps39
  have q0' : (w.alloc (.cells #[.int .i64 L, .int .i64 S, .slice a n c] 26)).cell? ⟨w.heap.size, 0, none⟩ = some (.int .i64 L) := by simp
  have q1' : (w.alloc (.cells #[.int .i64 L, .int .i64 S, .slice a n c] 26)).cell? ⟨w.heap.size, 1, none⟩ = some (.int .i64 S) := by simp
  have q2' : (w.alloc (.cells #[.int .i64 L, .int .i64 S, .slice a n c] 26)).cell? ⟨w.heap.size, 2, none⟩ = some (.slice a n c) := by simp
  have hb1 : Below w.heap.size w (w.alloc (.cells #[.int .i64 L, .int .i64 S, .slice a n c] 26)) := (Below.refl _ _).alloc (Nat.le_refl _) _
  have m1 : w.heap.size < (w.alloc (.cells #[.int .i64 L, .int .i64 S, .slice a n c] 26)).heap.size := by simp
  go_wp2
  generalize w.alloc (.cells #[.int .i64 L, .int .i64 S, .slice a n c] 26) = w1 at *
  have Hb1 := Lib.hid hb1
  have hz := hb1.size
  clear hb1
  go_loopg [1, 10] (s.size) (fun g u i wr => ∃ (k q : Nat), i = .int .i64 k ∧ u = .int .i64 q ∧ q < 4096 ∧ k + g = s.size ∧ Hid (T = readB xs (s.data.toList.drop k) q) ∧ Below w1.heap.size w1 wr)
  case atStart => exact ⟨0, q0, rfl, rfl, hq0, by omega, H0, Below.refl _ _⟩
  case round =>
    obtain ⟨k, q, rfl, rfl, hq, hk, HK, hbel⟩ := hrel
    by_cases hlt : k < s.size
    · have HK1 := Lib.hid (show T = readB xs (s.data.toList.drop (k + 1)) (stepN xs q ((s[k].toNat : Int) - 97)) from by rw [HK.out, str_drop s k hlt]; rfl)
      have hc := byte_lt s[k]
      have hc97 := Hw.out _ (str_mem s k hlt)
      have hS0 : wr.cell? ⟨w.heap.size, 0, none⟩ = some (.int .i64 L) ∧ wr.cell? ⟨w.heap.size, 1, none⟩ = some (.int .i64 S) ∧ wr.cell? ⟨w.heap.size, 2, none⟩ = some (.slice a n c) := ⟨(hbel.cell (p := ⟨w.heap.size, 0, none⟩) m1).trans q0', (hbel.cell (p := ⟨w.heap.size, 1, none⟩) m1).trans q1', (hbel.cell (p := ⟨w.heap.size, 2, none⟩) m1).trans q2'⟩
      have hSd : wr.drew.cell? ⟨w.heap.size, 0, none⟩ = some (.int .i64 L) ∧ wr.drew.cell? ⟨w.heap.size, 1, none⟩ = some (.int .i64 S) ∧ wr.drew.cell? ⟨w.heap.size, 2, none⟩ = some (.slice a n c) := hS0
      have hz2 := hbel.size
      have hwr : w.heap.size < wr.heap.size := by omega
      have Hbel := Lib.hid hbel
      have HB := Lib.hid ((Hb1.out.trans (hbel.mono hz)).drew)
      have HS := Lib.hid (fun (w2 : World) (hb3 : Below wr.heap.size wr w2) => (show w2.cell? ⟨w.heap.size, 0, none⟩ = some (.int .i64 L) ∧ w2.cell? ⟨w.heap.size, 1, none⟩ = some (.int .i64 S) ∧ w2.cell? ⟨w.heap.size, 2, none⟩ = some (.slice a n c) from ⟨(hb3.cell (p := ⟨w.heap.size, 0, none⟩) hwr).trans hS0.1, (hb3.cell (p := ⟨w.heap.size, 1, none⟩) hwr).trans hS0.2.1, (hb3.cell (p := ⟨w.heap.size, 2, none⟩) hwr).trans hS0.2.2⟩))
      have Hc := Lib.hid (Hst.out _ HB.out q hq ((s[k].toNat : Int) - 97))
      have Hl := Lib.hid (Hlt.out q ((s[k].toNat : Int) - 97))
      generalize stepN xs q ((s[k].toNat : Int) - 97) = q' at HK1 Hc Hl
      have hw8 : IntKind.u8.wrap ((s[k].toNat : Int) - 97) = (s[k].toNat : Int) - 97 := IntWalk.u8_in _ (by omega)
      have hw64 : IntKind.i64.wrap ((s[k].toNat : Int) - 97) = (s[k].toNat : Int) - 97 := IntWalk.i64_in _ (by omega)
      clear HK hbel H0 q0' q1' q2'
      go_wp2
      go_region_held3 (fun w' => w'.cell? ⟨w.heap.size, 0, none⟩ = some (.int .i64 L) ∧ w'.cell? ⟨w.heap.size, 1, none⟩ = some (.int .i64 S) ∧ w'.cell? ⟨w.heap.size, 2, none⟩ = some (.slice a n c))
        (first | with_reducible exact hS1 | with_reducible exact hSd | with_reducible exact hS0 | go_keep)
        ((first
          | (go_at_call 77; (with_reducible refine Hc.out.mono ?_); rintro e w2 ⟨rfl, hb2⟩; have hb3 := ((Below.refl wr.heap.size wr).drew).trans hb2; have hS1 := HS.out w2 hb3; have Hb3 := Lib.hid (Hbel.out.trans (hb3.mono hz2)); clear hb2 hb3)
          | fail))
      go_wp2
      go_roundg (s.size - (k + 1))
      case measure => omega
      case rel => exact ⟨k + 1, q', by go_num, rfl, Hl.out, by omega, HK1, Hb3.out⟩
    · have HF := Lib.hid (show T = q from by rw [HK.out, str_end s k hlt]; rfl)
      have Hbz := Lib.hid (Hb1.out.trans (hbel.mono hz))
      clear HK hbel H0
      go_wp2
      go_ret
      exact ⟨by rw [HF.out]; rfl, Hbz.out⟩
set_option maxHeartbeats 4000000 in
set_option maxRecDepth 10000 in
theorem spec_read_c {w : World} {v : Value} {l : Lb} (h : LabR w v l) (hv : okArcs l.2.1 l.2.2) (hS : l.2.1 ≤ 12) {q0 : Nat} (hq0 : q0 < 4096) {s : ByteArray} (hs : s.size ≤ maxLen) :
    Calls Tryz.prog 61 #[v, .int .i64 q0, .string s] w fun e w' => e = .returned (.int .i64 (readB l.2.2 s.data.toList q0)) ∧ Below w.heap.size w w' := by
  unfold maxLen at hs
  have Hst := Lib.hid (fun w1 (hb : Below w.heap.size w w1) q (hq : q < 4096) x => spec_step_c (LabR.frame _ _ _ _ h hb) hv hS hq x)
  obtain ⟨L, S, xs⟩ := l
  obtain ⟨va, rfl, _, a, c, rfl, _, _, _, _⟩ := h
  simp only at hv hS
  simp only at Hst
  simp only
  have H0 := Lib.hid (show readB xs s.data.toList q0 = readB xs (s.data.toList.drop 0) q0 from rfl)
  generalize readB xs s.data.toList q0 = T at H0 ⊢
  have Hlt := Lib.hid (fun q x => stepN_lt hv hS q x)
  generalize xs.length = n at *
  clear hv hS
  go_enter Tryz.func61, Tryz.ntmps61
  have q0' : (w.alloc (.cells #[.int .i64 L, .int .i64 S, .slice a n c] 26)).cell? ⟨w.heap.size, 0, none⟩ = some (.int .i64 L) := by simp
  have q1' : (w.alloc (.cells #[.int .i64 L, .int .i64 S, .slice a n c] 26)).cell? ⟨w.heap.size, 1, none⟩ = some (.int .i64 S) := by simp
  have q2' : (w.alloc (.cells #[.int .i64 L, .int .i64 S, .slice a n c] 26)).cell? ⟨w.heap.size, 2, none⟩ = some (.slice a n c) := by simp
  have hb1 : Below w.heap.size w (w.alloc (.cells #[.int .i64 L, .int .i64 S, .slice a n c] 26)) := (Below.refl _ _).alloc (Nat.le_refl _) _
  have m1 : w.heap.size < (w.alloc (.cells #[.int .i64 L, .int .i64 S, .slice a n c] 26)).heap.size := by simp
  go_wp2
  generalize w.alloc (.cells #[.int .i64 L, .int .i64 S, .slice a n c] 26) = w1 at *
  have Hb1 := Lib.hid hb1
  have hz := hb1.size
  clear hb1
  go_loopg [1, 7] (s.size) (fun g u i wr => ∃ (k q : Nat), i = .int .i64 k ∧ u = .int .i64 q ∧ q < 4096 ∧ k + g = s.size ∧ Hid (T = readB xs (s.data.toList.drop k) q) ∧ Below w1.heap.size w1 wr)
  case atStart => exact ⟨0, q0, rfl, rfl, hq0, by omega, H0, Below.refl _ _⟩
  case round =>
    obtain ⟨k, q, rfl, rfl, hq, hk, HK, hbel⟩ := hrel
    by_cases hlt : k < s.size
    · have HK1 := Lib.hid (show T = readB xs (s.data.toList.drop (k + 1)) (stepN xs q ((s[k].toNat : Int) - 97)) from by rw [HK.out, str_drop s k hlt]; rfl)
      have hc := byte_lt s[k]
      have hS0 : wr.cell? ⟨w.heap.size, 0, none⟩ = some (.int .i64 L) ∧ wr.cell? ⟨w.heap.size, 1, none⟩ = some (.int .i64 S) ∧ wr.cell? ⟨w.heap.size, 2, none⟩ = some (.slice a n c) := ⟨(hbel.cell (p := ⟨w.heap.size, 0, none⟩) m1).trans q0', (hbel.cell (p := ⟨w.heap.size, 1, none⟩) m1).trans q1', (hbel.cell (p := ⟨w.heap.size, 2, none⟩) m1).trans q2'⟩
      have hSd : wr.drew.cell? ⟨w.heap.size, 0, none⟩ = some (.int .i64 L) ∧ wr.drew.cell? ⟨w.heap.size, 1, none⟩ = some (.int .i64 S) ∧ wr.drew.cell? ⟨w.heap.size, 2, none⟩ = some (.slice a n c) := hS0
      have hz2 := hbel.size
      have hwr : w.heap.size < wr.heap.size := by omega
      have Hbel := Lib.hid hbel
      have HB := Lib.hid ((Hb1.out.trans (hbel.mono hz)).drew)
      have HS := Lib.hid (fun (w2 : World) (hb3 : Below wr.heap.size wr w2) => (show w2.cell? ⟨w.heap.size, 0, none⟩ = some (.int .i64 L) ∧ w2.cell? ⟨w.heap.size, 1, none⟩ = some (.int .i64 S) ∧ w2.cell? ⟨w.heap.size, 2, none⟩ = some (.slice a n c) from ⟨(hb3.cell (p := ⟨w.heap.size, 0, none⟩) hwr).trans hS0.1, (hb3.cell (p := ⟨w.heap.size, 1, none⟩) hwr).trans hS0.2.1, (hb3.cell (p := ⟨w.heap.size, 2, none⟩) hwr).trans hS0.2.2⟩))
      have Hc := Lib.hid (Hst.out _ HB.out q hq ((s[k].toNat : Int) - 97))
      have Hl := Lib.hid (Hlt.out q ((s[k].toNat : Int) - 97))
      generalize stepN xs q ((s[k].toNat : Int) - 97) = q' at HK1 Hc Hl
      have hwb : IntKind.i64.wrap (s[k].toNat : Int) = (s[k].toNat : Int) := IntWalk.i64_in _ (by omega)
      have hw64 : IntKind.i64.wrap ((s[k].toNat : Int) - 97) = (s[k].toNat : Int) - 97 := IntWalk.i64_in _ (by omega)
      clear HK hbel H0 q0' q1' q2'
      go_wp2
      go_region_held3 (fun w' => w'.cell? ⟨w.heap.size, 0, none⟩ = some (.int .i64 L) ∧ w'.cell? ⟨w.heap.size, 1, none⟩ = some (.int .i64 S) ∧ w'.cell? ⟨w.heap.size, 2, none⟩ = some (.slice a n c))
        (first | with_reducible exact hS1 | with_reducible exact hSd | with_reducible exact hS0 | go_keep)
        ((first
          | (go_at_call 89; (with_reducible refine Hc.out.mono ?_); rintro e w2 ⟨rfl, hb2⟩; have hb3 := ((Below.refl wr.heap.size wr).drew).trans hb2; have hS1 := HS.out w2 hb3; have Hb3 := Lib.hid (Hbel.out.trans (hb3.mono hz2)); clear hb2 hb3)
          | fail))
      go_wp2
      go_roundg (s.size - (k + 1))
      case measure => omega
      case rel => exact ⟨k + 1, q', by go_num, rfl, Hl.out, by omega, HK1, Hb3.out⟩
    · have HF := Lib.hid (show T = q from by rw [HK.out, str_end s k hlt]; rfl)
      have Hbz := Lib.hid (Hb1.out.trans (hbel.mono hz))
      clear HK hbel H0
      go_wp2
      go_ret
      exact ⟨by rw [HF.out]; rfl, Hbz.out⟩
end Go.Proofs.YtcilgihmaaobeaaGreatDoor
end

section
namespace Go.Proofs.YtcilgihmaaobeaaGreatDoor
open Go.RowKit Go.Deep Go.Sd Go.Shelf
set_option linter.unusedSimpArgs false
theorem cmp_lt (a b : Arc3) : Go.Proofs.ltOf cmpA a b = before a b := by
  unfold Go.Proofs.ltOf
  have h := cmpA_nn a b
  cases hb : before a b with
  | false => have := h.2 hb; simp; omega
  | true =>
    have : ¬ 0 ≤ cmpA a b := fun h2 => by rw [h.1 h2] at hb; cases hb
    simp
    omega
theorem before_iff (a b : Arc3) : before a b = true ↔ a.1 < b.1 ∨ (a.1 = b.1 ∧ (a.2.2 < b.2.2 ∨ (a.2.2 = b.2.2 ∧ a.2.1 < b.2.1))) := by
  unfold before
  by_cases e : a.1 = b.1
  · rw [if_neg (by simp [e])]
    by_cases e2 : a.2.2 = b.2.2
    · rw [if_neg (by simp [e2]), decide_eq_true_eq]; omega
    · rw [if_pos e2, decide_eq_true_eq]; omega
  · rw [if_pos e, decide_eq_true_eq]; omega
theorem cmp_swo : Go.Sort.SWO (Go.Proofs.ltOf cmpA) where
  irrefl x := by
    rw [cmp_lt]
    cases h : before x x with
    | false => rfl
    | true => have := (before_iff x x).1 h; omega
  trans x y z h1 h2 := by
    rw [cmp_lt] at *
    have h3 := (before_iff _ _).1 h1
    have h4 := (before_iff _ _).1 h2
    exact (before_iff _ _).2 (by omega)
  ntrans x y z h1 h2 := by
    rw [cmp_lt] at *
    have h3 : ¬ _ := fun h => by rw [(before_iff x y).2 h] at h1; cases h1
    have h4 : ¬ _ := fun h => by rw [(before_iff y z).2 h] at h2; cases h2
    cases h : before x z with
    | false => rfl
    | true =>
      have h5 := (before_iff _ _).1 h
      omega
set_option maxHeartbeats 1000000 in
theorem compareArcs_g (a b : Arc3) (w : World) : Calls Tryz.prog 49 #[.agg #[.int .i64 a.1, .int .i64 a.2.1, .int .i64 a.2.2], .agg #[.int .i64 b.1, .int .i64 b.2.1, .int .i64 b.2.2]] w fun e w' => e = .returned (.int .i64 (cmpA a b)) ∧ ∃ q os', w' = Sort.grow (w.drewN q) os' := by
  obtain ⟨a0, a1, a2⟩ := a
  obtain ⟨b0, b1, b2⟩ := b
  have H := Lib.hid (show cmpA (a0, a1, a2) (b0, b1, b2) = orL [cmpI a0 b0, cmpI a2 b2, cmpI a1 b1] from rfl)
  generalize cmpA (a0, a1, a2) (b0, b1, b2) = T at H ⊢
  have H0 := Lib.hid (fun w => Compare_c a0 b0 w)
  have H2 := Lib.hid (fun w => Compare_c a2 b2 w)
  have H1 := Lib.hid (fun w => Compare_c a1 b1 w)
  generalize cmpI a0 b0 = c0 at *
  generalize cmpI a2 b2 = c2 at *
  generalize cmpI a1 b1 = c1 at *
  go_enter Tryz.func49, Tryz.ntmps49
  go_wp2
  obtain ⟨w1, e1, hb1, p0, p1, p2, m1⟩ := boxA3_ex w 68 (.int .i64 a0) (.int .i64 a1) (.int .i64 a2)
  have z1 : w1.heap.size = w.heap.size + 1 := by rw [← e1]; simp
  obtain ⟨w2, e2, hb2, q0, q1, q2, m2⟩ := boxA3_ex w1 68 (.int .i64 b0) (.int .i64 b1) (.int .i64 b2)
  have z2 : w2.heap.size = w.heap.size + 1 + 1 := by rw [← e2]; simp [z1]
  have EE := Lib.hid (show w2 = Sort.grow w #[.cells #[.int .i64 a0, .int .i64 a1, .int .i64 a2] 68, .cells #[.int .i64 b0, .int .i64 b1, .int .i64 b2] 68] from by rw [← e2, ← e1, Sort.alloc_eq_grow, Sort.alloc_eq_grow, Sort.grow_grow]; rfl)
  rw [e1, e2]
  rw [z1] at q0 q1 q2
  have hb3 := hb1.trans (hb2.mono (by omega))
  replace p0 := (hb2.cell (p := ⟨w.heap.size, 0, none⟩) m1).trans p0
  replace p1 := (hb2.cell (p := ⟨w.heap.size, 1, none⟩) m1).trans p1
  replace p2 := (hb2.cell (p := ⟨w.heap.size, 2, none⟩) m1).trans p2
  clear e1 e2 hb1 hb2 m1 m2 z1 w1
  have hS0 : w2.cell? ⟨w.heap.size, 0, none⟩ = some (.int .i64 a0) ∧ w2.cell? ⟨w.heap.size, 1, none⟩ = some (.int .i64 a1) ∧ w2.cell? ⟨w.heap.size, 2, none⟩ = some (.int .i64 a2) ∧ w2.cell? ⟨w.heap.size + 1, 0, none⟩ = some (.int .i64 b0) ∧ w2.cell? ⟨w.heap.size + 1, 1, none⟩ = some (.int .i64 b1) ∧ w2.cell? ⟨w.heap.size + 1, 2, none⟩ = some (.int .i64 b2) := ⟨p0, p1, p2, q0, q1, q2⟩
  have hSd : w2.drew.cell? ⟨w.heap.size, 0, none⟩ = some (.int .i64 a0) ∧ w2.drew.cell? ⟨w.heap.size, 1, none⟩ = some (.int .i64 a1) ∧ w2.drew.cell? ⟨w.heap.size, 2, none⟩ = some (.int .i64 a2) ∧ w2.drew.cell? ⟨w.heap.size + 1, 0, none⟩ = some (.int .i64 b0) ∧ w2.drew.cell? ⟨w.heap.size + 1, 1, none⟩ = some (.int .i64 b1) ∧ w2.drew.cell? ⟨w.heap.size + 1, 2, none⟩ = some (.int .i64 b2) := hS0
  have hSa : (w2.drew.alloc (.cells #[.int .i64 c0, .int .i64 c2, .int .i64 c1] 3)).cell? ⟨w.heap.size, 0, none⟩ = some (.int .i64 a0) ∧ (w2.drew.alloc (.cells #[.int .i64 c0, .int .i64 c2, .int .i64 c1] 3)).cell? ⟨w.heap.size, 1, none⟩ = some (.int .i64 a1) ∧ (w2.drew.alloc (.cells #[.int .i64 c0, .int .i64 c2, .int .i64 c1] 3)).cell? ⟨w.heap.size, 2, none⟩ = some (.int .i64 a2) ∧ (w2.drew.alloc (.cells #[.int .i64 c0, .int .i64 c2, .int .i64 c1] 3)).cell? ⟨w.heap.size + 1, 0, none⟩ = some (.int .i64 b0) ∧ (w2.drew.alloc (.cells #[.int .i64 c0, .int .i64 c2, .int .i64 c1] 3)).cell? ⟨w.heap.size + 1, 1, none⟩ = some (.int .i64 b1) ∧ (w2.drew.alloc (.cells #[.int .i64 c0, .int .i64 c2, .int .i64 c1] 3)).cell? ⟨w.heap.size + 1, 2, none⟩ = some (.int .i64 b2) := ⟨(World.cell?_alloc_past _ _ _ (show w.heap.size < w2.heap.size by omega)).trans p0, (World.cell?_alloc_past _ _ _ (show w.heap.size < w2.heap.size by omega)).trans p1, (World.cell?_alloc_past _ _ _ (show w.heap.size < w2.heap.size by omega)).trans p2, (World.cell?_alloc_past _ _ _ (show w.heap.size + 1 < w2.heap.size by omega)).trans q0, (World.cell?_alloc_past _ _ _ (show w.heap.size + 1 < w2.heap.size by omega)).trans q1, (World.cell?_alloc_past _ _ _ (show w.heap.size + 1 < w2.heap.size by omega)).trans q2⟩
  have hSb : (w2.alloc (.cells #[.int .i64 c0, .int .i64 c2, .int .i64 c1] 3)).drew.cell? ⟨w.heap.size, 0, none⟩ = some (.int .i64 a0) ∧ (w2.alloc (.cells #[.int .i64 c0, .int .i64 c2, .int .i64 c1] 3)).drew.cell? ⟨w.heap.size, 1, none⟩ = some (.int .i64 a1) ∧ (w2.alloc (.cells #[.int .i64 c0, .int .i64 c2, .int .i64 c1] 3)).drew.cell? ⟨w.heap.size, 2, none⟩ = some (.int .i64 a2) ∧ (w2.alloc (.cells #[.int .i64 c0, .int .i64 c2, .int .i64 c1] 3)).drew.cell? ⟨w.heap.size + 1, 0, none⟩ = some (.int .i64 b0) ∧ (w2.alloc (.cells #[.int .i64 c0, .int .i64 c2, .int .i64 c1] 3)).drew.cell? ⟨w.heap.size + 1, 1, none⟩ = some (.int .i64 b1) ∧ (w2.alloc (.cells #[.int .i64 c0, .int .i64 c2, .int .i64 c1] 3)).drew.cell? ⟨w.heap.size + 1, 2, none⟩ = some (.int .i64 b2) := ⟨(World.cell?_alloc_past _ _ _ (show w.heap.size < w2.heap.size by omega)).trans p0, (World.cell?_alloc_past _ _ _ (show w.heap.size < w2.heap.size by omega)).trans p1, (World.cell?_alloc_past _ _ _ (show w.heap.size < w2.heap.size by omega)).trans p2, (World.cell?_alloc_past _ _ _ (show w.heap.size + 1 < w2.heap.size by omega)).trans q0, (World.cell?_alloc_past _ _ _ (show w.heap.size + 1 < w2.heap.size by omega)).trans q1, (World.cell?_alloc_past _ _ _ (show w.heap.size + 1 < w2.heap.size by omega)).trans q2⟩
  have HI := Lib.hid (Ints.three (w := w2.drew.alloc (.cells #[.int .i64 c0, .int .i64 c2, .int .i64 c1] 3)) (b := w2.heap.size) (x := c0) (y := c2) (z := c1) (by simp) (World.cell?_alloc_at _ _ _ 0 rfl) (World.cell?_alloc_at _ _ _ 1 rfl) (World.cell?_alloc_at _ _ _ 2 rfl))
  have HI2 := Lib.hid (Ints.three (w := (w2.alloc (.cells #[.int .i64 c0, .int .i64 c2, .int .i64 c1] 3)).drew) (b := w2.heap.size) (x := c0) (y := c2) (z := c1) (by simp) (World.cell?_alloc_at _ _ _ 0 rfl) (World.cell?_alloc_at _ _ _ 1 rfl) (World.cell?_alloc_at _ _ _ 2 rfl))
  have Hbf2 := Lib.hid (show ∃ q os', (w2.alloc (.cells #[.int .i64 c0, .int .i64 c2, .int .i64 c1] 3)).drew = Sort.grow (w.drewN q) os' from ⟨1, _, by rw [EE.out, Sort.alloc_eq_grow, Sort.grow_grow]; rfl⟩)
  have Hbf := Lib.hid (show ∃ q os', w2.drew.alloc (.cells #[.int .i64 c0, .int .i64 c2, .int .i64 c1] 3) = Sort.grow (w.drewN q) os' from ⟨1, _, by rw [EE.out, Sort.alloc_eq_grow, Sort.drew_grow, Sort.grow_grow]; rfl⟩)
  clear hb3 z2 p0 p1 p2 q0 q1 q2
  go_region_held3 (fun w' => w'.cell? ⟨w.heap.size, 0, none⟩ = some (.int .i64 a0) ∧ w'.cell? ⟨w.heap.size, 1, none⟩ = some (.int .i64 a1) ∧ w'.cell? ⟨w.heap.size, 2, none⟩ = some (.int .i64 a2) ∧ w'.cell? ⟨w.heap.size + 1, 0, none⟩ = some (.int .i64 b0) ∧ w'.cell? ⟨w.heap.size + 1, 1, none⟩ = some (.int .i64 b1) ∧ w'.cell? ⟨w.heap.size + 1, 2, none⟩ = some (.int .i64 b2))
    (first | with_reducible exact hSd | with_reducible exact hSa | with_reducible exact hSb | with_reducible exact hS0 | go_keep)
    ((first
      | (go_at_call 86; with_reducible refine (H0.out _).mono ?_; rintro e w' ⟨rfl, rfl⟩)
      | (go_at_call 86; with_reducible refine (H2.out _).mono ?_; rintro e w' ⟨rfl, rfl⟩)
      | (go_at_call 86; with_reducible refine (H1.out _).mono ?_; rintro e w' ⟨rfl, rfl⟩)
      | (go_at_call 85; with_reducible refine (Or_c HI.out).mono ?_; rintro e w' ⟨rfl, rfl⟩; have Hbz := Hbf)
      | (go_at_call 85; with_reducible refine (Or_c HI2.out).mono ?_; rintro e w' ⟨rfl, rfl⟩; have Hbz := Hbf2)
      | fail))
  all_goals (go_wp2; go_ret; exact ⟨by rw [H.out]; rfl, Hbz.out⟩)

shelf_lay_g SlLaysF0.n6 Slsf 6 at Tryz 48 as Tryz.sortArc
theorem cmp_lays (blk off size : Nat) (w : World) : Go.Proofs.CmpLays Tryz.prog 49 #[] acell 3 cmpA blk off size w :=
  fun _ _ _ _ x y => compareArcs_g x y _
theorem sorted_same {d d' : Array Arc3} (hp : Go.Sort.PermIn 0 d.size d d') (hs : Go.Sort.SortedIn (Go.Proofs.ltOf cmpA) 0 d.size d') (hd : d.toList.Pairwise fun a b => before b a = false ∧ a ≠ b) : d' = d := by
  obtain ⟨h1, -, h2⟩ := hp
  rw [Array.extract_eq_self_of_le (by omega), Array.extract_eq_self_of_le (by omega)] at h2
  apply Array.toList_inj.1
  refine List.Perm.eq_of_pairwise (le := fun a b => before b a = false) (fun a b _ _ hab hba => ?_) ?_ (hd.imp fun h => h.1) h2
  · have h3 : ¬ _ := fun h => by rw [(before_iff b a).2 h] at hab; cases hab
    have h4 : ¬ _ := fun h => by rw [(before_iff a b).2 h] at hba; cases hba
    exact Prod.ext (by omega) (Prod.ext (by omega) (by omega))
  · rw [List.pairwise_iff_getElem]
    intro i j hi hj hij
    have hj' : j < d'.size := by simpa using hj
    have hi' : i < d'.size := by simpa using hi
    have h3 := hs i j (Nat.zero_le _) hij (by omega)
    rw [cmp_lt, getElem!_pos d' j hj', getElem!_pos d' i hi'] at h3
    simpa using h3
set_option maxRecDepth 100000 in
theorem sortArcs_c {w : World} {blk cap : Nat} {d : Array Arc3} (hd : d.toList.Pairwise fun a b => before b a = false ∧ a ≠ b) (hH : Go.Sort.HoldsK acell 3 w blk 0 d) (hblk : blk < w.heap.size) (hsz : d.size ≤ 1048576) :
    Calls Tryz.prog 48 #[.slice (some ⟨blk, 0, none⟩) d.size cap, .func (.func 49) #[] #[]] w fun e w' => e = .returned (.tuple #[]) ∧ Below w.heap.size w w' := by
  have eg : ∀ args w, (callFunc 49 args).run Tryz.prog w = .ok (.enter 49 args) w := fun _ _ => rfl
  have h := AnyQ.slices_SortFunc Tryz.sortArc 3 Tryz.isAgg68 Tryz.sizeOf68 acell (fun _ => rfl) (fun x v hv => acell_lay.one x v hv) cmpA cmp_swo 49 #[] blk 0 cap d w eg (cmp_lays blk 0 d.size w) hH hblk (by omega)
  refine h.mono fun e w' ⟨he, d', n, os, hp, hs, hw⟩ => ⟨he, ?_⟩
  have e := sorted_same hp hs hd
  subst e
  subst hw
  unfold Go.Proofs.sortWorldK
  rw [Go.Sort.putRowK_self _ _ _ _ _ _ (Go.Sort.holdsK_ahead acell 3 w n blk 0 d' hH)]
  exact ⟨rfl, rfl, rfl, by simp [Go.Sort.grow, Go.Sort.ahead], fun k hk => by
    show (w.heap ++ os)[k]? = _
    rw [Array.getElem?_append_left hk]⟩
theorem row_holds {lo : Nat} {w : World} {b n c : Nat} {xs : List Arc3} {rs : List Res} (h : Sep lo w (Res.row 68 3 acell (.slice (some ⟨b, 0, none⟩) n c) xs :: rs)) (h0 : 0 < xs.length) : b < w.heap.size ∧ Go.Sort.HoldsK acell 3 w b 0 xs.toArray := by
  obtain ⟨G, hG, -, -⟩ := h.head
  obtain ⟨g, c', hv, -, -, -, hg, hx⟩ := RowG.at acell_lay hG h0
  simp at hv
  obtain ⟨rfl, -, -⟩ := hv
  refine ⟨hg, fun t ht => ?_⟩
  rw [Go.Sort.size_flatK] at ht
  have ht' : t < xs.length * 3 := by simpa using ht
  rw [Go.Sort.get_flatK _ _ _ _ ht]
  obtain ⟨x, hxi, _⟩ := at_lt (xs := xs) (k := t / 3) (by omega)
  have e1 : xs.toArray[t / 3]! = x := by
    rw [getElem!_pos _ _ (by simp; omega)]
    simp
    rw [List.getElem?_eq_getElem (by omega)] at hxi
    exact Option.some.inj hxi
  rw [e1]
  have h3 : t % 3 = 0 ∨ t % 3 = 1 ∨ t % 3 = 2 := by omega
  have e2 : 0 + t = t / 3 * 3 + t % 3 := by omega
  rw [e2]
  rcases h3 with h3 | h3 | h3 <;> rw [h3] <;> exact hx _ x _ _ hxi rfl
end Go.Proofs.YtcilgihmaaobeaaGreatDoor
end
