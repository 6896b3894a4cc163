/-
  Laws for this claim's walks, contracts of the functions that it reaches.
-/
import Derived.Test.YtcilgihmaaobeaaGreatDoorFnLabelsM12
import Derived.Test.YtcilgihmaaobeaaGreatDoorFnLabelsM11
import Derived.Maps.OwnSet
set_option linter.unusedVariables false
set_option linter.unusedSimpArgs false
section
namespace Go.Proofs.YtcilgihmaaobeaaGreatDoor
open Go.RowKit Go.Deep Go.Sd

theorem bit_shr (s p : Nat) : bits BinOp.and IntKind.i64 ((s : Int) / 2 ^ p) 1 = if s.testBit p = true then 1 else 0 := by
  rw [i64_and1, Nat.testBit_eq_decide_div_mod_eq]
  have h : (s : Int) / 2 ^ p = ((s / 2 ^ p : Nat) : Int) := by
    rw [show ((2 : Int) ^ p) = ((2 ^ p : Nat) : Int) by simp]; rfl
  rw [h]
  generalize s / 2 ^ p = t
  split
  · rename_i h1; simp at h1; omega
  · rename_i h1; simp at h1; omega
theorem bit_or (q p : Nat) (hq : q < 4096) (hp : p < 12) : bits BinOp.or IntKind.i64 (q : Int) (wrap64 (2 ^ p)) = ((q ||| 2 ^ p : Nat) : Int) := by
  have h1 : 2 ^ p < 4096 := Nat.pow_lt_pow_right (n := 12) (by decide) hp
  have h2 : ((2 : Int) ^ p) = ((2 ^ p : Nat) : Int) := by simp
  rw [h2]
  clear h2
  generalize 2 ^ p = r at h1 ⊢
  rw [IntWalk.wrap64_in _ (by omega), i64_or _ _ (by omega) (by omega)]
theorem or_lt (q p : Nat) (hq : q < 4096) (hp : p < 12) : q ||| 2 ^ p < 4096 := Nat.or_lt_two_pow (n := 12) hq (Nat.pow_lt_pow_right (by decide) hp)
set_option maxHeartbeats 2000000 in
set_option maxRecDepth 10000 in
theorem impl_step_c {w : World} {v : Value} {l : Lb} (h : LabR w v l) (hv : okArcs l.2.1 l.2.2) (hS : l.2.1 ≤ 12) {s : Nat} (_hs : s < 4096) (x : Int) :
    Calls Tryz.prog 77 #[v, .int .i64 s, .int .i64 x] w fun e w' => e = .returned (.int .i64 (stepN l.2.2 s x)) ∧ Below w.heap.size w w' := by
  obtain ⟨L, S, xs⟩ := l
  obtain ⟨va, rfl, hlen, a, c, rfl, _, _, _, hcell⟩ := h
  simp only at hcell hlen hv hS
  simp only
  have H0 := Lib.hid (show stepN xs s x = stepL s x (xs.drop 0) 0 from rfl)
  generalize stepN xs s x = T at H0 ⊢
  obtain ⟨n, hn⟩ : ∃ n, n = xs.length := ⟨_, rfl⟩
  have Hn := Lib.hid hn
  rw [← hn] at hcell hlen ⊢
  clear hn
  have Hv := Lib.hid hv
  clear hv
  go_enter Tryz.func77, Tryz.ntmps77
  have q2 : (w.alloc (.cells #[.int .i64 L, .int .i64 S, .slice a n c] 26)).cell? ⟨w.heap.size, 2, none⟩ = some (.slice a n c) := by simp
  have hb1 : Below w.heap.size w (w.alloc (.cells #[.int .i64 L, .int .i64 S, .slice a n c] 26)) := (Below.refl _ _).alloc (Nat.le_refl _) _
  have m1 : w.heap.size < (w.alloc (.cells #[.int .i64 L, .int .i64 S, .slice a n c] 26)).heap.size := by simp
  go_wp2
  generalize w.alloc (.cells #[.int .i64 L, .int .i64 S, .slice a n c] 26) = w1 at *
  have Hb1 := Lib.hid hb1
  have hz := hb1.size
  go_loopg [7, 13] n (fun g u i wr => ∃ (k q : Nat), i = .int .i64 k ∧ u = .int .i64 q ∧ q < 4096 ∧ k + g = n ∧ Hid (T = stepL s x (xs.drop k) q) ∧ Below w1.heap.size w1 wr)
  case atStart => exact ⟨0, 0, rfl, rfl, by decide, by omega, H0, Below.refl _ _⟩
  case round =>
    obtain ⟨k, q, rfl, rfl, hq, hk, HK, hbel⟩ := hrel
    by_cases hlt : k < n
    · obtain ⟨b, o, rfl, hb, hx0⟩ := hcell (by omega)
      obtain ⟨y, hy, hd⟩ := at_lt (xs := xs) (k := k) (by have := Hn.out; omega)
      obtain ⟨f0, f1, f2⟩ := hx0 k y hy
      obtain ⟨i0, i1, i2, i3⟩ := okArcs_at Hv.out hy
      have g0 : wr.cell? ⟨b, o + k * 3, none⟩ = some (.int .i64 y.1) := (hbel.cell (p := ⟨b, o + k * 3, none⟩) (by simp; omega)).trans ((hb1.cell (p := ⟨b, o + k * 3, none⟩) hb).trans f0)
      have g1 : wr.cell? ⟨b, o + k * 3 + 1, none⟩ = some (.int .i64 y.2.1) := (hbel.cell (p := ⟨b, o + k * 3 + 1, none⟩) (by simp; omega)).trans ((hb1.cell (p := ⟨b, o + k * 3 + 1, none⟩) hb).trans f1)
      have g2 : wr.cell? ⟨b, o + k * 3 + 2, none⟩ = some (.int .i64 y.2.2) := (hbel.cell (p := ⟨b, o + k * 3 + 2, none⟩) (by simp; omega)).trans ((hb1.cell (p := ⟨b, o + k * 3 + 2, none⟩) hb).trans f2)
      have r2 : wr.cell? ⟨w.heap.size, 2, none⟩ = some (.slice (some ⟨b, o, none⟩) n c) := (hbel.cell (p := ⟨w.heap.size, 2, none⟩) m1).trans q2
      have hz2 := hbel.size
      have hbr : b < wr.heap.size := by omega
      have hwr : w.heap.size < wr.heap.size := by omega
      have Hbel := Lib.hid hbel
      have HK1 := Lib.hid (show T = stepL s x (xs.drop (k + 1)) (if hit s x y = true then q ||| 2 ^ y.2.1.toNat else q) from by rw [HK.out, hd]; rfl)
      obtain ⟨y0, y1, y2⟩ := y
      simp only at g0 g1 g2 i0 i1 i2 i3 HK1
      obtain ⟨p0, rfl⟩ := Int.eq_ofNat_of_zero_le i0
      obtain ⟨p1, rfl⟩ := Int.eq_ofNat_of_zero_le i2
      clear HK hx0 hcell hy hd f0 f1 f2 hbel hb1 q2 H0 Hv
      have HT := Lib.hid (show (p1 : Nat) < 12 from by omega)
      have Hbs := Lib.hid (bit_shr s p0)
      have Hh := Lib.hid (show hit s x ((p0 : Int), (p1 : Int), y2) = (decide (y2 = x) && s.testBit p0) from rfl)
      generalize s.testBit p0 = tb at Hbs Hh
      cases tb with
      | false =>
        have HK2 := Lib.hid (show T = stepL s x (xs.drop (k + 1)) q from by rw [HK1.out, if_neg (by rw [Hh.out]; simp)])
        have hbs : bits BinOp.and IntKind.i64 ((s : Int) / 2 ^ p0) 1 = 0 := by rw [Hbs.out]; rfl
        clear HK1 Hh Hbs
        go_wp2
        go_roundg (n - (k + 1))
        case measure => omega
        case rel => exact ⟨k + 1, q, by go_num, rfl, hq, by omega, HK2, Hbel.out.alloc hz2 _⟩
      | true =>
      have hbs : bits BinOp.and IntKind.i64 ((s : Int) / 2 ^ p0) 1 = 1 := by rw [Hbs.out]; rfl
      by_cases he : y2 = x
      · have HK2 := Lib.hid (show T = stepL s x (xs.drop (k + 1)) (q ||| 2 ^ p1) from by rw [HK1.out, if_pos (by rw [Hh.out]; simp [he])]; rfl)
        have t1 : (y2 == x) = true := by simp [he]
        have hor := bit_or q p1 hq HT.out
        have Hlt := Lib.hid (or_lt q p1 hq HT.out)
        clear HK1 Hh Hbs he
        generalize q ||| 2 ^ p1 = q' at hor HK2 Hlt
        go_wp2
        go_roundg (n - (k + 1))
        case measure => omega
        case rel => exact ⟨k + 1, q', by go_num, rfl, Hlt.out, by omega, HK2, Hbel.out.alloc hz2 _⟩
      · have HK2 := Lib.hid (show T = stepL s x (xs.drop (k + 1)) q from by rw [HK1.out, if_neg (by rw [Hh.out]; simp [he])])
        have t1 : (y2 == x) = false := by simp [he]
        clear HK1 Hh Hbs he
        go_wp2
        go_roundg (n - (k + 1))
        case measure => omega
        case rel => exact ⟨k + 1, q, by go_num, rfl, hq, by omega, HK2, Hbel.out.alloc hz2 _⟩
    · have HF := Lib.hid (show T = q from by rw [HK.out, drop_len (by have := Hn.out; omega)]; rfl)
      have Hbz := Lib.hid (Hb1.out.trans (hbel.mono hz))
      clear HK hbel hb1 hcell H0 Hv
      go_wp2
      go_ret
      exact ⟨by rw [HF.out]; rfl, Hbz.out⟩
set_option maxHeartbeats 2000000 in
set_option maxRecDepth 10000 in
theorem spec_step_c {w : World} {v : Value} {l : Lb} (h : LabR w v l) (hv : okArcs l.2.1 l.2.2) (hS : l.2.1 ≤ 12) {s : Nat} (_hs : s < 4096) (x : Int) :
    Calls Tryz.prog 89 #[v, .int .i64 s, .int .i64 x] w fun e w' => e = .returned (.int .i64 (stepN l.2.2 s x)) ∧ Below w.heap.size w w' := by
  obtain ⟨L, S, xs⟩ := l
  obtain ⟨va, rfl, hlen, a, c, rfl, _, _, _, hcell⟩ := h
  simp only at hcell hlen hv hS
  simp only
  have H0 := Lib.hid (show stepN xs s x = stepL s x (xs.drop 0) 0 from rfl)
  generalize stepN xs s x = T at H0 ⊢
  obtain ⟨n, hn⟩ : ∃ n, n = xs.length := ⟨_, rfl⟩
  have Hn := Lib.hid hn
  rw [← hn] at hcell hlen ⊢
  clear hn
  have Hv := Lib.hid hv
  clear hv
  go_enter Tryz.func89, Tryz.ntmps89
  have q2 : (w.alloc (.cells #[.int .i64 L, .int .i64 S, .slice a n c] 26)).cell? ⟨w.heap.size, 2, none⟩ = some (.slice a n c) := by simp
  have hb1 : Below w.heap.size w (w.alloc (.cells #[.int .i64 L, .int .i64 S, .slice a n c] 26)) := (Below.refl _ _).alloc (Nat.le_refl _) _
  have m1 : w.heap.size < (w.alloc (.cells #[.int .i64 L, .int .i64 S, .slice a n c] 26)).heap.size := by simp
  go_wp2
  generalize w.alloc (.cells #[.int .i64 L, .int .i64 S, .slice a n c] 26) = w1 at *
  have Hb1 := Lib.hid hb1
  have hz := hb1.size
  go_loopg [7, 8] n (fun g u i wr => ∃ (k q : Nat), i = .int .i64 k ∧ u = .int .i64 q ∧ q < 4096 ∧ k + g = n ∧ Hid (T = stepL s x (xs.drop k) q) ∧ Below w1.heap.size w1 wr)
  case atStart => exact ⟨0, 0, rfl, rfl, by decide, by omega, H0, Below.refl _ _⟩
  case round =>
    obtain ⟨k, q, rfl, rfl, hq, hk, HK, hbel⟩ := hrel
    by_cases hlt : k < n
    · obtain ⟨b, o, rfl, hb, hx0⟩ := hcell (by omega)
      obtain ⟨y, hy, hd⟩ := at_lt (xs := xs) (k := k) (by have := Hn.out; omega)
      obtain ⟨f0, f1, f2⟩ := hx0 k y hy
      obtain ⟨i0, i1, i2, i3⟩ := okArcs_at Hv.out hy
      have g0 : wr.cell? ⟨b, o + k * 3, none⟩ = some (.int .i64 y.1) := (hbel.cell (p := ⟨b, o + k * 3, none⟩) (by simp; omega)).trans ((hb1.cell (p := ⟨b, o + k * 3, none⟩) hb).trans f0)
      have g1 : wr.cell? ⟨b, o + k * 3 + 1, none⟩ = some (.int .i64 y.2.1) := (hbel.cell (p := ⟨b, o + k * 3 + 1, none⟩) (by simp; omega)).trans ((hb1.cell (p := ⟨b, o + k * 3 + 1, none⟩) hb).trans f1)
      have g2 : wr.cell? ⟨b, o + k * 3 + 2, none⟩ = some (.int .i64 y.2.2) := (hbel.cell (p := ⟨b, o + k * 3 + 2, none⟩) (by simp; omega)).trans ((hb1.cell (p := ⟨b, o + k * 3 + 2, none⟩) hb).trans f2)
      have r2 : wr.cell? ⟨w.heap.size, 2, none⟩ = some (.slice (some ⟨b, o, none⟩) n c) := (hbel.cell (p := ⟨w.heap.size, 2, none⟩) m1).trans q2
      have hz2 := hbel.size
      have hbr : b < wr.heap.size := by omega
      have hwr : w.heap.size < wr.heap.size := by omega
      have Hbel := Lib.hid hbel
      have HK1 := Lib.hid (show T = stepL s x (xs.drop (k + 1)) (if hit s x y = true then q ||| 2 ^ y.2.1.toNat else q) from by rw [HK.out, hd]; rfl)
      obtain ⟨y0, y1, y2⟩ := y
      simp only at g0 g1 g2 i0 i1 i2 i3 HK1
      obtain ⟨p0, rfl⟩ := Int.eq_ofNat_of_zero_le i0
      obtain ⟨p1, rfl⟩ := Int.eq_ofNat_of_zero_le i2
      clear HK hx0 hcell hy hd f0 f1 f2 hbel hb1 q2 H0 Hv
      have HT := Lib.hid (show (p1 : Nat) < 12 from by omega)
      have Hbs := Lib.hid (bit_shr s p0)
      have Hh := Lib.hid (show hit s x ((p0 : Int), (p1 : Int), y2) = (decide (y2 = x) && s.testBit p0) from rfl)
      generalize s.testBit p0 = tb at Hbs Hh
      cases tb with
      | false =>
        have HK2 := Lib.hid (show T = stepL s x (xs.drop (k + 1)) q from by rw [HK1.out, if_neg (by rw [Hh.out]; simp)])
        have hbs : bits BinOp.and IntKind.i64 ((s : Int) / 2 ^ p0) 1 = 0 := by rw [Hbs.out]; rfl
        clear HK1 Hh Hbs
        by_cases he : y2 = x
        · have t1 : (y2 == x) = true := by simp [he]
          clear he
          go_wp2
          go_roundg (n - (k + 1))
          case measure => omega
          case rel => exact ⟨k + 1, q, by go_num, rfl, hq, by omega, HK2, Hbel.out.alloc hz2 _⟩
        · have t1 : (y2 == x) = false := by simp [he]
          clear he
          go_wp2
          go_roundg (n - (k + 1))
          case measure => omega
          case rel => exact ⟨k + 1, q, by go_num, rfl, hq, by omega, HK2, Hbel.out.alloc hz2 _⟩
      | true =>
      have hbs : bits BinOp.and IntKind.i64 ((s : Int) / 2 ^ p0) 1 = 1 := by rw [Hbs.out]; rfl
      by_cases he : y2 = x
      · have HK2 := Lib.hid (show T = stepL s x (xs.drop (k + 1)) (q ||| 2 ^ p1) from by rw [HK1.out, if_pos (by rw [Hh.out]; simp [he])]; rfl)
        have t1 : (y2 == x) = true := by simp [he]
        have hor := bit_or q p1 hq HT.out
        have Hlt := Lib.hid (or_lt q p1 hq HT.out)
        clear HK1 Hh Hbs he
        generalize q ||| 2 ^ p1 = q' at hor HK2 Hlt
        go_wp2
        go_roundg (n - (k + 1))
        case measure => omega
        case rel => exact ⟨k + 1, q', by go_num, rfl, Hlt.out, by omega, HK2, Hbel.out.alloc hz2 _⟩
      · have HK2 := Lib.hid (show T = stepL s x (xs.drop (k + 1)) q from by rw [HK1.out, if_neg (by rw [Hh.out]; simp [he])])
        have t1 : (y2 == x) = false := by simp [he]
        clear HK1 Hh Hbs he
        go_wp2
        go_roundg (n - (k + 1))
        case measure => omega
        case rel => exact ⟨k + 1, q, by go_num, rfl, hq, by omega, HK2, Hbel.out.alloc hz2 _⟩
    · have HF := Lib.hid (show T = q from by rw [HK.out, drop_len (by have := Hn.out; omega)]; rfl)
      have Hbz := Lib.hid (Hb1.out.trans (hbel.mono hz))
      have r2 : wr.cell? ⟨w.heap.size, 2, none⟩ = some (.slice a n c) := (hbel.cell (p := ⟨w.heap.size, 2, none⟩) m1).trans q2
      clear HK hbel hb1 hcell H0 Hv
      go_wp2
      go_ret
      exact ⟨by rw [HF.out]; rfl, Hbz.out⟩
end Go.Proofs.YtcilgihmaaobeaaGreatDoor
end

section
namespace Go.Proofs.YtcilgihmaaobeaaGreatDoor
open Go.RowKit Go.Deep Go.Sd

abbrev P2 := Nat × Nat
section
variable {A B : List Arc3} {L : Nat} {p0 : P2} {ps : List P2} {k x : Nat}
end
end Go.Proofs.YtcilgihmaaobeaaGreatDoor
end

section
namespace Go.Sd
open Go.RowKit Go.Deep
/-- A letter as a byte. -/
def letV (x : Nat) : Value := .int .u8 (97 + (x : Int))
end Go.Sd
namespace Go.Proofs.YtcilgihmaaobeaaGreatDoor
open Go.RowKit Go.Deep Go.Sd Go.Maps
theorem infoB8r : (Tryz.prog.info? 5).map (fun i => (i.zero, i.size, i.bytes)) = some (some (.int .u8 0), 1, 1) := by kernel_rfl
end Go.Proofs.YtcilgihmaaobeaaGreatDoor
end

section
namespace Go.Proofs.YtcilgihmaaobeaaGreatDoor
open Go.RowKit Go.Deep Go.Sd
set_option linter.unusedSimpArgs false
set_option maxHeartbeats 2000000 in
set_option maxRecDepth 100000 in
theorem impl_IsShift_c {w : World} {v : Value} {s : Sh} (h : ShR w v s) (hb : ∀ f, f ∈ s.2 → f.size ≤ 1048576) :
    Calls Tryz.prog 103 #[v] w fun e w' => e = .returned (.bool (shiftM s)) ∧ Below w.heap.size w w' := by
  obtain ⟨L, F⟩ := s
  obtain ⟨va, rfl, ht⟩ := h
  have HY := Lib.hid (fun h => shiftM_yes (s := (L, F)) h)
  have HN := Lib.hid (fun h => shiftM_no (s := (L, F)) h)
  generalize shiftM (L, F) = T at HY HN ⊢
  simp only at ht hb
  obtain ⟨w0, e0, hb0, c0, c1, m0⟩ := boxA_ex w 37 (.int .i64 L) va
  have ht0 := TsR.frame _ _ _ _ ht hb0
  have hlen := ht0.len
  obtain ⟨a, c, rfl, -, -, hcell⟩ := ht0.shape
  obtain ⟨n, hn⟩ : ∃ n, n = F.length := ⟨_, rfl⟩
  have Hn := Lib.hid hn
  rw [← hn] at hcell hlen c1 e0 ⊢
  have Hcell := Lib.hid hcell
  have HBf := Lib.hid hb
  have HB := Lib.hid hb0
  have HW := Lib.hid (fun f (hf : f ∈ F) => areLetters_c L f w0 (by have := hb f hf; unfold maxLen; omega))
  have HI := Lib.hid (isLetters_w L w0)
  clear hcell hn ht ht0 hb hb0
  go_enter Tryz.func103, Tryz.ntmps103
  by_cases hL : 1 ≤ L ∧ L ≤ 3
  · rw [decide_eq_true hL] at HI
    by_cases h8 : n ≤ 8
    · have h8i : ¬ (8 : Int) < (n : Int) := by omega
      go_wp2_with fail
      (with_reducible refine HI.out.mono ?_)
      rintro e w9 ⟨rfl, hw9⟩
      rw [← hw9]
      clear hw9 w9
      go_wp2
      go_loopg [18] n (fun g i wr => ∃ (j : Nat), i = .int .i64 j ∧ j + g = n ∧ Hid (∀ (k : Nat) (f : ByteArray), k < j → F[k]? = some f → wdOk L F k f) ∧ w0 = wr)
      case atStart => exact ⟨0, rfl, by omega, Lib.hid (fun k f hk => absurd hk (Nat.not_lt_zero _)), rfl⟩
      case round =>
        obtain ⟨j, rfl, hj, HK, rfl⟩ := hrel
        by_cases h1 : j < n
        · have h1i : (j : Int) < (n : Int) := by omega
          obtain ⟨g, rfl⟩ : ∃ x, gk = x + 1 := ⟨gk - 1, by omega⟩
          obtain ⟨b, o, rfl, -, hx⟩ := Hcell.out (by omega)
          obtain ⟨f, hf, -⟩ := at_lt (xs := F) (k := j) (by rw [← Hn.out]; exact h1)
          obtain ⟨u, hu, hu2⟩ := hx j f hf
          have hu2' : u = .string f := hu2
          subst hu2'
          have HW1 := Lib.hid (HW.out f (List.mem_of_getElem? hf))
          have hfs := HBf.out f (List.mem_of_getElem? hf)
          clear hu2
          cases hw : letB L f.data.toList with
          | false =>
            have hT := Lib.hid (HN.out fun h => by
              have h2 := (h.2.2 j f hf).1
              rw [hw] at h2
              cases h2)
            rw [hw] at HW1
            clear hf hx hw
            go_wp2_with fail
            (with_reducible refine HW1.out.mono ?_)
            rintro e w9 ⟨rfl, hw9⟩
            rw [← hw9]
            clear hw9 w9
            go_wp2
            go_ret
            exact ⟨by rw [hT.out]; rfl, HB.out⟩
          | true =>
            rw [hw] at HW1
            by_cases h13 : 1 ≤ f.size ∧ f.size ≤ 3
            · have h13a : ¬ (f.size : Int) < 1 := by omega
              have h13b : ¬ (3 : Int) < (f.size : Int) := by omega
              by_cases hj0 : 0 < j
              · have hj0i : (0 : Int) < (j : Int) := by omega
                obtain ⟨p, hp, -⟩ := at_lt (xs := F) (k := j - 1) (by rw [← Hn.out]; omega)
                obtain ⟨u, hv, hv2⟩ := hx (j - 1) p hp
                have hv2' : u = .string p := hv2
                subst hv2'
                have hjm : ((j : Int) - 1).toNat = j - 1 := by omega
                have hj1 : (0 : Int) ≤ (j : Int) - 1 := by omega
                have hj2 : (j : Int) - 1 < (n : Int) := by omega
                cases hl : Op.bytesLess p.toList f.toList with
                | false =>
                  have hT := Lib.hid (HN.out fun h => by
                    have h2 := (h.2.2 j f hf).2.2.2 hj0 p hp
                    rw [hl] at h2
                    cases h2)
                  clear hf hx hv2 hp hw
                  go_wp2_with fail
                  (with_reducible refine HW1.out.mono ?_)
                  rintro e w9 ⟨rfl, hw9⟩
                  rw [← hw9]
                  clear hw9 w9
                  go_wp2
                  go_ret
                  exact ⟨by rw [hT.out]; rfl, HB.out⟩
                | true =>
                  have hK2 := Lib.hid (show ∀ (k : Nat) (f : ByteArray), k < j + 1 → F[k]? = some f → wdOk L F k f from fun k f' hk hf' => by
                    by_cases e : k = j
                    · rw [e, hf] at hf'
                      cases hf'
                      rw [e]
                      exact ⟨hw, h13.1, h13.2, fun _ p' hp' => by rw [hp] at hp'; cases hp'; exact hl⟩
                    · exact HK.out k f' (by omega) hf')
                  clear hf hx hv2 hp HK hw
                  go_wp2_with fail
                  (with_reducible refine HW1.out.mono ?_)
                  rintro e w9 ⟨rfl, hw9⟩
                  rw [← hw9]
                  clear hw9 w9
                  go_wp2
                  go_roundg g
                  case measure => omega
                  case rel => exact ⟨j + 1, by go_num, by omega, hK2, rfl⟩
              · obtain rfl : j = 0 := by omega
                have hK2 := Lib.hid (show ∀ (k : Nat) (f : ByteArray), k < 0 + 1 → F[k]? = some f → wdOk L F k f from fun k f' hk hf' => by
                  obtain rfl : k = 0 := by omega
                  rw [hf] at hf'
                  cases hf'
                  exact ⟨hw, h13.1, h13.2, fun h => absurd h (Nat.not_lt_zero _)⟩)
                clear hf hx HK hw
                rw [Nat.add_zero] at hu
                have hz : ¬ (0 : Int) < ((0 : Nat) : Int) := by omega
                go_wp2_with fail
                (with_reducible refine HW1.out.mono ?_)
                rintro e w9 ⟨rfl, hw9⟩
                rw [← hw9]
                clear hw9 w9
                go_wp2
                go_roundg g
                case measure => omega
                case rel => exact ⟨0 + 1, by go_num, by omega, hK2, rfl⟩
            · have hT := Lib.hid (HN.out fun h => by
                have h2 := h.2.2 j f hf
                exact h13 ⟨h2.2.1, h2.2.2.1⟩)
              clear hf hx hw
              by_cases h1f : (f.size : Int) < 1
              · go_wp2_with fail
                (with_reducible refine HW1.out.mono ?_)
                rintro e w9 ⟨rfl, hw9⟩
                rw [← hw9]
                clear hw9 w9
                go_wp2
                go_ret
                exact ⟨by rw [hT.out]; rfl, HB.out⟩
              · have h3f : (3 : Int) < (f.size : Int) := by omega
                go_wp2_with fail
                (with_reducible refine HW1.out.mono ?_)
                rintro e w9 ⟨rfl, hw9⟩
                rw [← hw9]
                clear hw9 w9
                go_wp2
                go_ret
                exact ⟨by rw [hT.out]; rfl, HB.out⟩
        · have h1i : ¬ (j : Int) < (n : Int) := by omega
          have hT := Lib.hid (HY.out ⟨hL, by rw [← Hn.out]; exact h8, fun k f hk => HK.out k f (by have := (List.getElem?_eq_some_iff.1 hk).1; rw [← Hn.out] at this; omega) hk⟩)
          clear HK
          go_wp2
          go_ret
          exact ⟨by rw [hT.out]; rfl, HB.out⟩
    · have h8i : (8 : Int) < (n : Int) := by omega
      have hT := Lib.hid (HN.out fun h => h8 (by rw [Hn.out]; exact h.2.1))
      go_wp2_with fail
      (with_reducible refine HI.out.mono ?_)
      rintro e w9 ⟨rfl, hw9⟩
      rw [← hw9]
      clear hw9 w9
      go_wp2
      go_ret
      exact ⟨by rw [hT.out]; rfl, HB.out⟩
  · have hT := Lib.hid (HN.out fun h => hL h.1)
    rw [decide_eq_false hL] at HI
    go_wp2_with fail
    (with_reducible refine HI.out.mono ?_)
    rintro e w9 ⟨rfl, hw9⟩
    rw [← hw9]
    clear hw9 w9
    go_wp2
    go_ret
    exact ⟨by rw [hT.out]; rfl, HB.out⟩
set_option maxHeartbeats 1000000 in
set_option maxRecDepth 100000 in
theorem avoids_c {w : World} {v : Value} {z : Sh} {s : ByteArray} (hz : ShR w v z) (hM : MaxOk w) (hs : s.size ≤ 1000) :
    Calls Tryz.prog 81 #[v, .string s] w fun e w' => e = .returned (.bool (avoM z.2 s)) ∧ Below w.heap.size w w' := by
  obtain ⟨L, F⟩ := z
  obtain ⟨va, rfl, ht⟩ := hz
  simp only at ht
  obtain ⟨w0, e0, hb0, c0, c1, m0⟩ := boxA_ex w 37 (.int .i64 L) va
  have h := TsR.frame _ _ _ _ ht hb0
  have HM := Lib.hid (hM.below hb0)
  have HB := Lib.hid hb0
  have hlen := h.len
  obtain ⟨a, c, rfl, -, -, hcell⟩ := h.shape
  have HT := Lib.hid (fun (h : ∀ (k : Nat) (f : ByteArray), F[k]? = some f → occB s f = false) => (show avoM F s = true from List.all_eq_true.2 fun f hf => by
    obtain ⟨k, hk⟩ := List.getElem?_of_mem hf
    rw [h k f hk]; rfl))
  have HF := Lib.hid (fun (k : Nat) (f : ByteArray) (h : F[k]? = some f) (h2 : occB s f = true) => (show avoM F s = false from by
    unfold avoM
    rw [List.all_eq_false]
    exact ⟨f, List.mem_of_getElem? h, by rw [h2]; decide⟩))
  have HC := Lib.hid (fun f => Contains_c HM.out s f hs)
  show Calls _ _ _ _ (fun e w' => e = .returned (.bool (avoM F s)) ∧ _)
  generalize avoM F s = T at HT HF ⊢
  obtain ⟨n, hn⟩ : ∃ n, n = F.length := ⟨_, rfl⟩
  have Hn := Lib.hid hn
  rw [← hn] at hcell hlen c1 e0 ⊢
  clear h hn ht hb0 hM
  have Hcell := Lib.hid hcell
  clear hcell
  go_enter Tryz.func81, Tryz.ntmps81
  go_wp2
  go_loopg [10] n (fun g i wr => ∃ (j : Nat), i = .int .i64 j ∧ j + g = n ∧ Hid (∀ (k : Nat) (f : ByteArray), k < j → F[k]? = some f → occB s f = false) ∧ w0 = wr)
  case atStart => exact ⟨0, rfl, by omega, Lib.hid (fun k f hk => absurd hk (Nat.not_lt_zero _)), rfl⟩
  case round =>
    obtain ⟨j, rfl, hj, HK, rfl⟩ := hrel
    by_cases h1 : j < n
    · have h1i : (j : Int) < (n : Int) := by omega
      obtain ⟨g, rfl⟩ : ∃ x, gk = x + 1 := ⟨gk - 1, by omega⟩
      obtain ⟨b, o, rfl, -, hx⟩ := Hcell.out (by omega)
      obtain ⟨f, hf, -⟩ := at_lt (xs := F) (k := j) (by rw [← Hn.out]; exact h1)
      obtain ⟨u, hu, hu2⟩ := hx j f hf
      have hu2' : u = .string f := hu2
      subst hu2'
      have HC1 := Lib.hid (HC.out f)
      cases ho : occB s f with
      | true =>
        have hT := Lib.hid (HF.out j f hf ho)
        rw [ho] at HC1
        clear hx hf hu2 ho
        go_wp2_with fail
        (with_reducible refine HC1.out.mono ?_)
        rintro e w9 ⟨rfl, hw9⟩
        rw [← hw9]
        clear hw9 w9
        go_wp2
        go_ret
        exact ⟨by rw [hT.out]; rfl, HB.out⟩
      | false =>
        have hK2 := Lib.hid (show ∀ (k : Nat) (f : ByteArray), k < j + 1 → F[k]? = some f → occB s f = false from fun k f' hk hf' => by
          by_cases e : k = j
          · rw [e, hf] at hf'
            cases hf'
            exact ho
          · exact HK.out k f' (by omega) hf')
        rw [ho] at HC1
        clear hx hf hu2 ho HK
        go_wp2_with fail
        (with_reducible refine HC1.out.mono ?_)
        rintro e w9 ⟨rfl, hw9⟩
        rw [← hw9]
        clear hw9 w9
        go_wp2
        go_roundg g
        case measure => omega
        case rel => exact ⟨j + 1, by go_num, by omega, hK2, rfl⟩
    · have h1i : ¬ (j : Int) < (n : Int) := by omega
      have hT := Lib.hid (HT.out fun k f hk => HK.out k f (by have := (List.getElem?_eq_some_iff.1 hk).1; rw [← Hn.out] at this; omega) hk)
      clear HK
      go_wp2
      go_ret
      exact ⟨by rw [hT.out]; rfl, HB.out⟩
end Go.Proofs.YtcilgihmaaobeaaGreatDoor
end

section
namespace Go.Proofs.YtcilgihmaaobeaaGreatDoor
open Go.RowKit Go.Deep Go.Sd
set_option linter.unusedSimpArgs false
set_option maxHeartbeats 1000000 in
set_option maxRecDepth 100000 in
theorem l1PickP_c {lo : Nat} {w : World} {cb bl : Nat} {K : Value} {xs : List Int} {rs : List Res} {ls : List ByteArray} {N c : Nat} (hK : ∀ w', Below lo w w' → BytR w' K xs) (hc : Cur lo w cb K xs.length (Res.box bl (ls.map Value.string) :: rs)) (hlo : lo ≤ w.heap.size) (hN : 1 ≤ N) (hNl : N ≤ ls.length) (hN2 : ls.length ≤ 256) :
    Calls Tryz.prog 78 #[.pointer (some ⟨cb, 0, none⟩), .slice (some ⟨bl, 0, none⟩) N c] w fun e w' => ∃ x : ByteArray, e = .returned (.string x) ∧ x ∈ ls ∧ Cur lo w' cb K xs.length (Res.box bl (ls.map Value.string) :: rs) ∧ Below lo w w' ∧ Off [cb] w w' := by
  have HB := Lib.hid (l1Below_c (N := N) hK hc hlo hN (by omega))
  have HNe := Lib.hid hNl
  have hN3 : N ≤ 256 := by omega
  clear hK hc hNl hN2
  go_enter Tryz.func78, Tryz.ntmps78
  go_wp2_with fail
  (with_reducible refine HB.out.mono ?_)
  rintro e w1 ⟨x, rfl, hx, hc, hb, ho⟩
  have HO := Lib.hid ho
  clear ho
  have hcell := (hc.out.headBox).2.2 x (.string (ls[x]'(by have := HNe.out; omega))) (by rw [List.getElem?_map, List.getElem?_eq_getElem (by have := HNe.out; omega)]; rfl)
  have g0 := hcell.1
  have Hm := Lib.hid (List.getElem_mem (l := ls) (n := x) (by have := HNe.out; omega))
  generalize ls[x]'(by have := HNe.out; omega) = y at g0 Hm
  have hxi : (x : Int) < (N : Int) := by omega
  have HC := Lib.hid hc
  have HBl := Lib.hid hb
  clear hc hb HB hcell
  go_wp2
  go_ret
  exact ⟨y, rfl, Hm.out, HC.out, HBl.out, HO.out⟩
/-- The three letters. -/
def abc3 : List ByteArray := [⟨#[97]⟩, ⟨#[98]⟩, ⟨#[99]⟩]
theorem abc3_size {x : ByteArray} (h : x ∈ abc3) : x.size = 1 := by
  simp only [abc3, List.mem_cons, List.not_mem_nil, or_false] at h
  rcases h with rfl | rfl | rfl <;> rfl
set_option maxHeartbeats 1000000 in
set_option maxRecDepth 100000 in
theorem l2Draw_c {lo : Nat} {w : World} {cb : Nat} {K : Value} {xs : List Int} {rs : List Res} {kk most : Nat} (hK : ∀ w', Below lo w w' → BytR w' K xs) (hc : Cur lo w cb K xs.length rs) (hlo : lo ≤ w.heap.size) (h1 : 1 ≤ kk) (h3 : kk ≤ 3) (hm : most ≤ 20) :
    Calls Tryz.prog 41 #[.pointer (some ⟨cb, 0, none⟩), .int .i64 kk, .int .i64 most] w fun e w' => ∃ s : ByteArray, e = .returned (.string s) ∧ s.size ≤ most ∧ Cur lo w' cb K xs.length rs ∧ Below lo w w' ∧ Off [cb] w w' := by
  have HK := Lib.hid hK
  have HB := Lib.hid (show Calls Tryz.prog 35 #[.pointer (some ⟨cb, 0, none⟩), .int .i64 ((most : Int) + 1)] w _ from l1Below_c (N := most + 1) hK hc hlo (by omega) (by omega))
  clear hK hc
  go_enter Tryz.func41, Tryz.ntmps41
  go_wp2_with fail
  (with_reducible refine HB.out.mono ?_)
  rintro e w1 ⟨x, rfl, hx, hc, hb, ho⟩
  have HC1 := Lib.hid hc
  have HB1 := Lib.hid hb
  have HO1 := Lib.hid ho
  have HX := Lib.hid (show (⟨#[]⟩ : ByteArray).size + x ≤ most from by have : (⟨#[]⟩ : ByteArray).size = 0 := rfl; omega)
  have hx2 : x ≤ 20 := by omega
  clear hc hb ho HB hx
  go_wp2
  go_loopg [7, 8] x (fun g sv nv wr => ∃ (u : ByteArray), sv = .string u ∧ nv = .int .i64 (g : Nat) ∧ g ≤ 20 ∧ Hid (u.size + g ≤ most) ∧ Hid (Cur lo wr cb K xs.length rs) ∧ Hid (Below lo w wr) ∧ Hid (Off [cb] w wr))
  case atStart => exact ⟨⟨#[]⟩, rfl, rfl, hx2, HX, HC1, HB1, HO1⟩
  case round =>
    clear HX HC1 HB1 HO1 hx2
    obtain ⟨u, rfl, rfl, hg, HU, HC, HB, HO⟩ := hrel
    obtain ⟨wk, rfl⟩ : ∃ x, x = wr := ⟨_, rfl⟩
    cases gk with
    | zero =>
      go_wp2
      go_ret
      exact ⟨u, rfl, by have := HU.out; omega, HC.out, HB.out, HO.out⟩
    | succ g =>
      have hg0 : (0 : Int) < ((g + 1 : Nat) : Int) := by omega
      have hzk : lo ≤ wk.heap.size := Nat.le_trans hlo HB.out.size
      have hus : u.size ≤ 20 := by have := HU.out; omega
      have hcx := Lib.hid (HC.out.box hzk (abc3.map Value.string) 9)
      obtain ⟨w2, e2⟩ : ∃ x, x = wk.alloc (.cells #[.string ⟨#[97]⟩, .string ⟨#[98]⟩, .string ⟨#[99]⟩] 9) := ⟨_, rfl⟩
      have HC2 := Lib.hid (show Cur lo w2 cb K xs.length (Res.box wk.heap.size (abc3.map Value.string) :: rs) from by rw [e2]; exact hcx.out)
      have hb2 : Below wk.heap.size wk w2 := by rw [e2]; exact (Below.refl _ _).alloc (Nat.le_refl _) _
      have HB2 := Lib.hid (HB.out.trans (hb2.mono hzk))
      have HO2 := Lib.hid (HO.out.trans (Off.of_below hb2))
      have hz2 : lo ≤ w2.heap.size := Nat.le_trans hzk hb2.size
      have HP := Lib.hid (l1PickP_c (N := kk) (c := 3) (ls := abc3) (fun w' hb => HK.out w' (HB2.out.trans hb)) HC2.out hz2 h1 h3 (by decide))
      have e2s := e2.symm
      have hk3 : (kk : Int) ≤ 3 := by omega
      have hk0 : (0 : Int) ≤ (kk : Int) := by omega
      clear hcx hb2 e2 HC
      go_wp2_with fail
      (with_reducible refine HP.out.mono ?_)
      rintro e w3 ⟨y, rfl, hy, hc, hb, ho⟩
      have hys := abc3_size hy
      have HC3 := Lib.hid hc.rest
      have HB3 := Lib.hid (HB2.out.trans hb)
      have HO3 := Lib.hid (HO2.out.trans ho)
      have HU3 := Lib.hid (show (u ++ y).size + g ≤ most from by have := HU.out; rw [bs_size, hys]; omega)
      have hy1 : y.size ≤ 1 := by omega
      clear hy hys hc hb ho e2s HP HC2 HO2 HU HB HO HB2
      go_wp2
      go_roundg g
      case measure => omega
      case rel => exact ⟨u ++ y, rfl, by go_num, by omega, HU3, HC3, HB3, HO3⟩
end Go.Proofs.YtcilgihmaaobeaaGreatDoor
end

section
namespace Go.Sd
open Go.ChangeShapes Go.WideShapes Go.ChangeAt Go.RowKit Go.Deep
section
variable {H : Type} {enc : TypeId × Value → H} {P : Program} {W : World} {base : Nat}
theorem open_Bytes {t q : TypeId} (ht : P.underlying t = some (.slice q)) (hq : P.underlying q = some (.int .u8)) (cq : P.cellsOf q = 1) {v : Value} {d : DataW H} {p : List MemPlace}
    (hv : Value.okWide P W .any base t v) (h : DataW.Trod enc P W 0 (fun _ => true) true t v d p) : ∃ xs, BytR W v xs ∧ True := by
  obtain ⟨a, len, cap, rfl⟩ := okWide_slice ht hv
  obtain ⟨fuel, hf⟩ := h
  have h := hf
  simp only [Value.cells] at h
  rcases open_ints ht hq cq h with ⟨hcs, _⟩ | ⟨a', l, c, zs, hcs, _, hl, hm, hz, _, hcell, hwz⟩
  · simp at hcs
    obtain ⟨rfl, rfl, rfl⟩ := hcs
    exact ⟨[], ⟨[], Sl.mk' rfl (by simp) (by simp) (by simp) (by simp), rfl, by simp⟩, trivial⟩
  · simp at hcs
    obtain ⟨rfl, rfl, rfl⟩ := hcs
    simp only [if_true] at hz
    have hm' : cap ≤ 9223372036854775807 := hm
    refine ⟨zs.take len, ⟨(zs.take len).map (Value.int .u8), Sl.mk' (by simp; omega) hl hm' ?_ (by simp), by simp, ?_⟩, trivial⟩
    · intro a'' ha i u hu
      cases ha
      rw [List.getElem?_map, Option.map_eq_some_iff] at hu
      obtain ⟨z, hz1, rfl⟩ := hu
      have hi : i < (zs.take len).length := (List.getElem?_eq_some_iff.1 hz1).1
      rw [List.length_take] at hi
      rw [List.getElem?_take, if_pos (by omega)] at hz1
      have := hcell i (by omega)
      rw [List.getD, hz1] at this
      simpa using this
    · intro i u z hu hz1
      rw [List.getElem?_map, hz1] at hu
      simp at hu
      exact hu.symm
end
end Go.Sd
end
