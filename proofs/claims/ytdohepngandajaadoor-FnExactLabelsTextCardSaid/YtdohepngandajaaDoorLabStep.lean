/-
  The set of states to which a letter leads, both sides.
-/
import Derived.Test.YtdohepngandajaaDoorRows
import Derived.Test.YtdohepngandajaaDoorBase
import Derived.Test.YtdohepngandajaaDoorLabM
import Derived.IntWalk
import Derived.Deep.RegionHeld3
import Derived.Deep.DeepCutAuto
namespace Go.Proofs.YtdohepngandajaaDoor
open Go.RowKit Go.Deep Go.Sd

theorem bit_shr (s p : Nat) : bits BinOp.and IntKind.i64 ((s : Int) / 2 ^ p) 1 = if s.testBit p = true then 1 else 0 := by
  rw [i64_and1, Nat.testBit_eq_decide_div_mod_eq]
  have h : (s : Int) / 2 ^ p = ((s / 2 ^ p : Nat) : Int) := by
    rw [show ((2 : Int) ^ p) = ((2 ^ p : Nat) : Int) by simp]; rfl
  rw [h]
  generalize s / 2 ^ p = t
  split
  · rename_i h1; simp at h1; omega
  · rename_i h1; simp at h1; omega
theorem bit_or (q p : Nat) (hq : q < 4096) (hp : p < 12) : bits BinOp.or IntKind.i64 (q : Int) (wrap64 (2 ^ p)) = ((q ||| 2 ^ p : Nat) : Int) := by
  have h1 : 2 ^ p < 4096 := Nat.pow_lt_pow_right (n := 12) (by decide) hp
  have h2 : ((2 : Int) ^ p) = ((2 ^ p : Nat) : Int) := by simp
  rw [h2]
  clear h2
  generalize 2 ^ p = r at h1 ⊢
  rw [IntWalk.wrap64_in _ (by omega), i64_or _ _ (by omega) (by omega)]
theorem or_lt (q p : Nat) (hq : q < 4096) (hp : p < 12) : q ||| 2 ^ p < 4096 := Nat.or_lt_two_pow (n := 12) hq (Nat.pow_lt_pow_right (by decide) hp)
set_option maxHeartbeats 2000000 in
set_option maxRecDepth 10000 in
theorem impl_step_c {w : World} {v : Value} {l : Lb} (h : LabR w v l) (hv : okArcs l.2.1 l.2.2) (hS : l.2.1 ≤ 12) {s : Nat} (_hs : s < 4096) (x : Int) :
    Calls Tryd.prog 44 #[v, .int .i64 s, .int .i64 x] w fun e w' => e = .returned (.int .i64 (stepN l.2.2 s x)) ∧ Below w.heap.size w w' := by
  obtain ⟨L, S, xs⟩ := l
  obtain ⟨va, rfl, hlen, a, c, rfl, _, _, _, hcell⟩ := h
  simp only at hcell hlen hv hS
  simp only
  have H0 := Lib.hid (show stepN xs s x = stepL s x (xs.drop 0) 0 from rfl)
  generalize stepN xs s x = T at H0 ⊢
  obtain ⟨n, hn⟩ : ∃ n, n = xs.length := ⟨_, rfl⟩
  have Hn := Lib.hid hn
  rw [← hn] at hcell hlen ⊢
  clear hn
  have Hv := Lib.hid hv
  clear hv
  go_enter Tryd.func44, Tryd.ntmps44
  have q2 : (w.alloc (.cells #[.int .i64 L, .int .i64 S, .slice a n c] 29)).cell? ⟨w.heap.size, 2, none⟩ = some (.slice a n c) := by simp
  have hb1 : Below w.heap.size w (w.alloc (.cells #[.int .i64 L, .int .i64 S, .slice a n c] 29)) := (Below.refl _ _).alloc (Nat.le_refl _) _
  have m1 : w.heap.size < (w.alloc (.cells #[.int .i64 L, .int .i64 S, .slice a n c] 29)).heap.size := by simp
  go_wp2
  generalize w.alloc (.cells #[.int .i64 L, .int .i64 S, .slice a n c] 29) = w1 at *
  have Hb1 := Lib.hid hb1
  have hz := hb1.size
  go_loopg [7, 13] n (fun g u i wr => ∃ (k q : Nat), i = .int .i64 k ∧ u = .int .i64 q ∧ q < 4096 ∧ k + g = n ∧ Hid (T = stepL s x (xs.drop k) q) ∧ Below w1.heap.size w1 wr)
  case atStart => exact ⟨0, 0, rfl, rfl, by decide, by omega, H0, Below.refl _ _⟩
  case round =>
    obtain ⟨k, q, rfl, rfl, hq, hk, HK, hbel⟩ := hrel
    by_cases hlt : k < n
    · obtain ⟨b, o, rfl, hb, hx0⟩ := hcell (by omega)
      obtain ⟨y, hy, hd⟩ := at_lt (xs := xs) (k := k) (by have := Hn.out; omega)
      obtain ⟨f0, f1, f2⟩ := hx0 k y hy
      obtain ⟨i0, i1, i2, i3⟩ := okArcs_at Hv.out hy
      have g0 : wr.cell? ⟨b, o + k * 3, none⟩ = some (.int .i64 y.1) := (hbel.cell (p := ⟨b, o + k * 3, none⟩) (by simp; omega)).trans ((hb1.cell (p := ⟨b, o + k * 3, none⟩) hb).trans f0)
      have g1 : wr.cell? ⟨b, o + k * 3 + 1, none⟩ = some (.int .i64 y.2.1) := (hbel.cell (p := ⟨b, o + k * 3 + 1, none⟩) (by simp; omega)).trans ((hb1.cell (p := ⟨b, o + k * 3 + 1, none⟩) hb).trans f1)
      have g2 : wr.cell? ⟨b, o + k * 3 + 2, none⟩ = some (.int .i64 y.2.2) := (hbel.cell (p := ⟨b, o + k * 3 + 2, none⟩) (by simp; omega)).trans ((hb1.cell (p := ⟨b, o + k * 3 + 2, none⟩) hb).trans f2)
      have r2 : wr.cell? ⟨w.heap.size, 2, none⟩ = some (.slice (some ⟨b, o, none⟩) n c) := (hbel.cell (p := ⟨w.heap.size, 2, none⟩) m1).trans q2
      have hz2 := hbel.size
      have hbr : b < wr.heap.size := by omega
      have hwr : w.heap.size < wr.heap.size := by omega
      have Hbel := Lib.hid hbel
      have HK1 := Lib.hid (show T = stepL s x (xs.drop (k + 1)) (if hit s x y = true then q ||| 2 ^ y.2.1.toNat else q) from by rw [HK.out, hd]; rfl)
      obtain ⟨y0, y1, y2⟩ := y
      simp only at g0 g1 g2 i0 i1 i2 i3 HK1
      obtain ⟨p0, rfl⟩ := Int.eq_ofNat_of_zero_le i0
      obtain ⟨p1, rfl⟩ := Int.eq_ofNat_of_zero_le i2
      clear HK hx0 hcell hy hd f0 f1 f2 hbel hb1 q2 H0 Hv
      have HT := Lib.hid (show (p1 : Nat) < 12 from by omega)
      have Hbs := Lib.hid (bit_shr s p0)
      have Hh := Lib.hid (show hit s x ((p0 : Int), (p1 : Int), y2) = (decide (y2 = x) && s.testBit p0) from rfl)
      generalize s.testBit p0 = tb at Hbs Hh
      cases tb with
      | false =>
        have HK2 := Lib.hid (show T = stepL s x (xs.drop (k + 1)) q from by rw [HK1.out, if_neg (by rw [Hh.out]; simp)])
        have hbs : bits BinOp.and IntKind.i64 ((s : Int) / 2 ^ p0) 1 = 0 := by rw [Hbs.out]; rfl
        clear HK1 Hh Hbs
        go_wp2
        go_roundg (n - (k + 1))
        case measure => omega
        case rel => exact ⟨k + 1, q, by go_num, rfl, hq, by omega, HK2, Hbel.out.alloc hz2 _⟩
      | true =>
      have hbs : bits BinOp.and IntKind.i64 ((s : Int) / 2 ^ p0) 1 = 1 := by rw [Hbs.out]; rfl
      by_cases he : y2 = x
      · have HK2 := Lib.hid (show T = stepL s x (xs.drop (k + 1)) (q ||| 2 ^ p1) from by rw [HK1.out, if_pos (by rw [Hh.out]; simp [he])]; rfl)
        have t1 : (y2 == x) = true := by simp [he]
        have hor := bit_or q p1 hq HT.out
        have Hlt := Lib.hid (or_lt q p1 hq HT.out)
        clear HK1 Hh Hbs he
        generalize q ||| 2 ^ p1 = q' at hor HK2 Hlt
        go_wp2
        go_roundg (n - (k + 1))
        case measure => omega
        case rel => exact ⟨k + 1, q', by go_num, rfl, Hlt.out, by omega, HK2, Hbel.out.alloc hz2 _⟩
      · have HK2 := Lib.hid (show T = stepL s x (xs.drop (k + 1)) q from by rw [HK1.out, if_neg (by rw [Hh.out]; simp [he])])
        have t1 : (y2 == x) = false := by simp [he]
        clear HK1 Hh Hbs he
        go_wp2
        go_roundg (n - (k + 1))
        case measure => omega
        case rel => exact ⟨k + 1, q, by go_num, rfl, hq, by omega, HK2, Hbel.out.alloc hz2 _⟩
    · have HF := Lib.hid (show T = q from by rw [HK.out, drop_len (by have := Hn.out; omega)]; rfl)
      have Hbz := Lib.hid (Hb1.out.trans (hbel.mono hz))
      clear HK hbel hb1 hcell H0 Hv
      go_wp2
      go_ret
      exact ⟨by rw [HF.out]; rfl, Hbz.out⟩
set_option maxHeartbeats 2000000 in
set_option maxRecDepth 10000 in
theorem spec_step_c {w : World} {v : Value} {l : Lb} (h : LabR w v l) (hv : okArcs l.2.1 l.2.2) (hS : l.2.1 ≤ 12) {s : Nat} (_hs : s < 4096) (x : Int) :
    Calls Tryd.prog 40 #[v, .int .i64 s, .int .i64 x] w fun e w' => e = .returned (.int .i64 (stepN l.2.2 s x)) ∧ Below w.heap.size w w' := by
  obtain ⟨L, S, xs⟩ := l
  obtain ⟨va, rfl, hlen, a, c, rfl, _, _, _, hcell⟩ := h
  simp only at hcell hlen hv hS
  simp only
  have H0 := Lib.hid (show stepN xs s x = stepL s x (xs.drop 0) 0 from rfl)
  generalize stepN xs s x = T at H0 ⊢
  obtain ⟨n, hn⟩ : ∃ n, n = xs.length := ⟨_, rfl⟩
  have Hn := Lib.hid hn
  rw [← hn] at hcell hlen ⊢
  clear hn
  have Hv := Lib.hid hv
  clear hv
  go_enter Tryd.func40, Tryd.ntmps40
  have q2 : (w.alloc (.cells #[.int .i64 L, .int .i64 S, .slice a n c] 29)).cell? ⟨w.heap.size, 2, none⟩ = some (.slice a n c) := by simp
  have hb1 : Below w.heap.size w (w.alloc (.cells #[.int .i64 L, .int .i64 S, .slice a n c] 29)) := (Below.refl _ _).alloc (Nat.le_refl _) _
  have m1 : w.heap.size < (w.alloc (.cells #[.int .i64 L, .int .i64 S, .slice a n c] 29)).heap.size := by simp
  go_wp2
  generalize w.alloc (.cells #[.int .i64 L, .int .i64 S, .slice a n c] 29) = w1 at *
  have Hb1 := Lib.hid hb1
  have hz := hb1.size
  go_loopg [7, 8] n (fun g u i wr => ∃ (k q : Nat), i = .int .i64 k ∧ u = .int .i64 q ∧ q < 4096 ∧ k + g = n ∧ Hid (T = stepL s x (xs.drop k) q) ∧ Below w1.heap.size w1 wr)
  case atStart => exact ⟨0, 0, rfl, rfl, by decide, by omega, H0, Below.refl _ _⟩
  case round =>
    obtain ⟨k, q, rfl, rfl, hq, hk, HK, hbel⟩ := hrel
    by_cases hlt : k < n
    · obtain ⟨b, o, rfl, hb, hx0⟩ := hcell (by omega)
      obtain ⟨y, hy, hd⟩ := at_lt (xs := xs) (k := k) (by have := Hn.out; omega)
      obtain ⟨f0, f1, f2⟩ := hx0 k y hy
      obtain ⟨i0, i1, i2, i3⟩ := okArcs_at Hv.out hy
      have g0 : wr.cell? ⟨b, o + k * 3, none⟩ = some (.int .i64 y.1) := (hbel.cell (p := ⟨b, o + k * 3, none⟩) (by simp; omega)).trans ((hb1.cell (p := ⟨b, o + k * 3, none⟩) hb).trans f0)
      have g1 : wr.cell? ⟨b, o + k * 3 + 1, none⟩ = some (.int .i64 y.2.1) := (hbel.cell (p := ⟨b, o + k * 3 + 1, none⟩) (by simp; omega)).trans ((hb1.cell (p := ⟨b, o + k * 3 + 1, none⟩) hb).trans f1)
      have g2 : wr.cell? ⟨b, o + k * 3 + 2, none⟩ = some (.int .i64 y.2.2) := (hbel.cell (p := ⟨b, o + k * 3 + 2, none⟩) (by simp; omega)).trans ((hb1.cell (p := ⟨b, o + k * 3 + 2, none⟩) hb).trans f2)
      have r2 : wr.cell? ⟨w.heap.size, 2, none⟩ = some (.slice (some ⟨b, o, none⟩) n c) := (hbel.cell (p := ⟨w.heap.size, 2, none⟩) m1).trans q2
      have hz2 := hbel.size
      have hbr : b < wr.heap.size := by omega
      have hwr : w.heap.size < wr.heap.size := by omega
      have Hbel := Lib.hid hbel
      have HK1 := Lib.hid (show T = stepL s x (xs.drop (k + 1)) (if hit s x y = true then q ||| 2 ^ y.2.1.toNat else q) from by rw [HK.out, hd]; rfl)
      obtain ⟨y0, y1, y2⟩ := y
      simp only at g0 g1 g2 i0 i1 i2 i3 HK1
      obtain ⟨p0, rfl⟩ := Int.eq_ofNat_of_zero_le i0
      obtain ⟨p1, rfl⟩ := Int.eq_ofNat_of_zero_le i2
      clear HK hx0 hcell hy hd f0 f1 f2 hbel hb1 q2 H0 Hv
      have HT := Lib.hid (show (p1 : Nat) < 12 from by omega)
      have Hbs := Lib.hid (bit_shr s p0)
      have Hh := Lib.hid (show hit s x ((p0 : Int), (p1 : Int), y2) = (decide (y2 = x) && s.testBit p0) from rfl)
      generalize s.testBit p0 = tb at Hbs Hh
      cases tb with
      | false =>
        have HK2 := Lib.hid (show T = stepL s x (xs.drop (k + 1)) q from by rw [HK1.out, if_neg (by rw [Hh.out]; simp)])
        have hbs : bits BinOp.and IntKind.i64 ((s : Int) / 2 ^ p0) 1 = 0 := by rw [Hbs.out]; rfl
        clear HK1 Hh Hbs
        by_cases he : y2 = x
        · have t1 : (y2 == x) = true := by simp [he]
          clear he
          go_wp2
          go_roundg (n - (k + 1))
          case measure => omega
          case rel => exact ⟨k + 1, q, by go_num, rfl, hq, by omega, HK2, Hbel.out.alloc hz2 _⟩
        · have t1 : (y2 == x) = false := by simp [he]
          clear he
          go_wp2
          go_roundg (n - (k + 1))
          case measure => omega
          case rel => exact ⟨k + 1, q, by go_num, rfl, hq, by omega, HK2, Hbel.out.alloc hz2 _⟩
      | true =>
      have hbs : bits BinOp.and IntKind.i64 ((s : Int) / 2 ^ p0) 1 = 1 := by rw [Hbs.out]; rfl
      by_cases he : y2 = x
      · have HK2 := Lib.hid (show T = stepL s x (xs.drop (k + 1)) (q ||| 2 ^ p1) from by rw [HK1.out, if_pos (by rw [Hh.out]; simp [he])]; rfl)
        have t1 : (y2 == x) = true := by simp [he]
        have hor := bit_or q p1 hq HT.out
        have Hlt := Lib.hid (or_lt q p1 hq HT.out)
        clear HK1 Hh Hbs he
        generalize q ||| 2 ^ p1 = q' at hor HK2 Hlt
        go_wp2
        go_roundg (n - (k + 1))
        case measure => omega
        case rel => exact ⟨k + 1, q', by go_num, rfl, Hlt.out, by omega, HK2, Hbel.out.alloc hz2 _⟩
      · have HK2 := Lib.hid (show T = stepL s x (xs.drop (k + 1)) q from by rw [HK1.out, if_neg (by rw [Hh.out]; simp [he])])
        have t1 : (y2 == x) = false := by simp [he]
        clear HK1 Hh Hbs he
        go_wp2
        go_roundg (n - (k + 1))
        case measure => omega
        case rel => exact ⟨k + 1, q, by go_num, rfl, hq, by omega, HK2, Hbel.out.alloc hz2 _⟩
    · have HF := Lib.hid (show T = q from by rw [HK.out, drop_len (by have := Hn.out; omega)]; rfl)
      have Hbz := Lib.hid (Hb1.out.trans (hbel.mono hz))
      have r2 : wr.cell? ⟨w.heap.size, 2, none⟩ = some (.slice a n c) := (hbel.cell (p := ⟨w.heap.size, 2, none⟩) m1).trans q2
      clear HK hbel hb1 hcell H0 Hv
      go_wp2
      go_ret
      exact ⟨by rw [HF.out]; rfl, Hbz.out⟩
end Go.Proofs.YtdohepngandajaaDoor
