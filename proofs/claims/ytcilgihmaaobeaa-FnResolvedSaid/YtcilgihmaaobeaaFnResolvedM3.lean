/-
  Texts of this claim joined: laws for its walks, contracts of the functions that the law reaches.
-/
import Derived.Test.YtcilgihmaaobeaaRows
import Derived.Test.YtcilgihmaaobeaaFnResolvedM1
import Derived.Test.YtcilgihmaaobeaaFnResolvedM2
import Derived.IntWalk
import Derived.Deep.RegionHeld3
import Derived.Deep.DeepCutAuto
set_option linter.unusedVariables false
set_option linter.unusedSimpArgs false
section
namespace Go.Proofs.Ytcilgihmaaobeaa
open Go.RowKit Go.Deep Go.Sd

theorem isLetters_c (k : Int) (w : World) : Calls Try.prog 82 #[.int .i64 k] w fun e w' => e = .returned (.bool (decide (1 ≤ k ∧ k ≤ 3))) ∧ w = w' := by
  by_cases h1 : 1 ≤ k
  · by_cases h2 : k ≤ 3
    · have H := Lib.hid (show decide (1 ≤ k ∧ k ≤ 3) = true from decide_eq_true ⟨h1, h2⟩)
      generalize decide (1 ≤ k ∧ k ≤ 3) = T at H ⊢
      go_enter Try.func82, Try.ntmps82
      go_wp2
      go_ret
      exact ⟨by rw [H.out]; rfl, rfl⟩
    · have H := Lib.hid (show decide (1 ≤ k ∧ k ≤ 3) = false from decide_eq_false (by omega))
      generalize decide (1 ≤ k ∧ k ≤ 3) = T at H ⊢
      go_enter Try.func82, Try.ntmps82
      go_wp2
      go_ret
      exact ⟨by rw [H.out]; rfl, rfl⟩
  · have H := Lib.hid (show decide (1 ≤ k ∧ k ≤ 3) = false from decide_eq_false (by omega))
    generalize decide (1 ≤ k ∧ k ≤ 3) = T at H ⊢
    go_enter Try.func82, Try.ntmps82
    go_wp2
    go_ret
    exact ⟨by rw [H.out]; rfl, rfl⟩
set_option maxHeartbeats 8000000 in
set_option maxRecDepth 10000 in
theorem impl_IsLabels_c {w : World} {v : Value} {l : Lb} (h : LabR w v l) :
    Calls Try.prog 48 #[v] w fun e w' => e = .returned (.bool (isLab l)) ∧ Below w.heap.size w w' := by
  obtain ⟨L, S, xs⟩ := l
  obtain ⟨va, rfl, hlen, a, c, rfl, _, _, _, hcell⟩ := h
  have H := Lib.hid (show isLab (L, S, xs) = (decide (1 ≤ L ∧ L ≤ 3) && (decide (1 ≤ S ∧ S ≤ 12) && allF (arcB L S xs) xs.length 0)) from rfl)
  generalize isLab (L, S, xs) = T at H ⊢
  have Hl := Lib.hid (fun w => isLetters_c L w)
  obtain ⟨n, hn⟩ : ∃ n, n = xs.length := ⟨_, rfl⟩
  have Hn := Lib.hid hn
  simp only at hcell hlen
  simp only
  rw [← hn] at hcell hlen H ⊢
  clear hn
  by_cases hL : 1 ≤ L ∧ L ≤ 3
  rotate_left
  · have HT := Lib.hid (show T = false from by rw [H.out, decide_eq_false hL]; rfl)
    rw [decide_eq_false hL] at Hl
    clear H hL
    go_enter Try.func48, Try.ntmps48
    go_wp2_with fail
    refine (Hl.out _).mono ?_
    rintro e w' ⟨rfl, rfl⟩
    go_wp2
    go_ret
    exact ⟨by rw [HT.out]; rfl, (Below.refl _ _).alloc (Nat.le_refl _) _⟩
  rw [decide_eq_true hL] at Hl H
  by_cases hS : 1 ≤ S ∧ S ≤ 12
  rotate_left
  · have HT := Lib.hid (show T = false from by rw [H.out, decide_eq_false hS]; rfl)
    clear H hL
    by_cases h1 : S < 1
    · clear hS
      go_enter Try.func48, Try.ntmps48
      go_wp2_with fail
      refine (Hl.out _).mono ?_
      rintro e w' ⟨rfl, rfl⟩
      go_wp2
      go_ret
      exact ⟨by rw [HT.out]; rfl, (Below.refl _ _).alloc (Nat.le_refl _) _⟩
    · have h2 : 12 < S := by omega
      clear hS
      go_enter Try.func48, Try.ntmps48
      go_wp2_with fail
      refine (Hl.out _).mono ?_
      rintro e w' ⟨rfl, rfl⟩
      go_wp2
      go_ret
      exact ⟨by rw [HT.out]; rfl, (Below.refl _ _).alloc (Nat.le_refl _) _⟩
  have HT := Lib.hid (show T = allF (arcB L S xs) n 0 from by rw [H.out, decide_eq_true hS]; rfl)
  obtain ⟨hS1, hS2⟩ := hS
  obtain ⟨hL1, hL2⟩ := hL
  clear H
  go_enter Try.func48, Try.ntmps48
  go_wp2_with fail
  obtain ⟨w1, ex, hb1, q0, q1, q2, m1⟩ := boxA3_ex w 26 (.int .i64 L) (.int .i64 S) (.slice a n c)
  change Calls Try.prog _ _ (w.alloc (.cells #[.int .i64 L, .int .i64 S, .slice a n c] 26)) _
  rw [ex]
  clear ex
  refine (Hl.out _).mono ?_
  rintro e w' ⟨rfl, rfl⟩
  have Hb1 := Lib.hid hb1
  have hz := hb1.size
  go_wp2
  go_loopg [22] n (fun g i wr => ∃ (k : Nat), i = .int .i64 k ∧ k + g = n ∧ Hid (T = allF (arcB L S xs) g k) ∧ Below w1.heap.size w1 wr)
  case atStart => exact ⟨0, rfl, by omega, HT, Below.refl _ _⟩
  case round =>
    obtain ⟨k, rfl, hk, HK, hbel⟩ := hrel
    obtain ⟨g, hg⟩ : ∃ g, g = gk := ⟨_, rfl⟩
    rw [← hg] at HK hk
    by_cases hlt : k < n
    · obtain ⟨g', rfl⟩ : ∃ t, g = t + 1 := ⟨g - 1, by omega⟩
      have HK1 := Lib.hid (show T = if arcB L S xs k = true then allF (arcB L S xs) g' (k + 1) else false from HK.out)
      obtain ⟨b, o, rfl, hb, hx0⟩ := hcell (by omega)
      obtain ⟨x, hx, _⟩ := at_lt (xs := xs) (k := k) (by have := Hn.out; omega)
      obtain ⟨f0, f1, f2⟩ := hx0 k x hx
      have g0 : wr.cell? ⟨b, o + k * 3, none⟩ = some (.int .i64 x.1) := (hbel.cell (p := ⟨b, o + k * 3, none⟩) (by simp; omega)).trans ((hb1.cell (p := ⟨b, o + k * 3, none⟩) hb).trans f0)
      have g1 : wr.cell? ⟨b, o + k * 3 + 1, none⟩ = some (.int .i64 x.2.1) := (hbel.cell (p := ⟨b, o + k * 3 + 1, none⟩) (by simp; omega)).trans ((hb1.cell (p := ⟨b, o + k * 3 + 1, none⟩) hb).trans f1)
      have g2 : wr.cell? ⟨b, o + k * 3 + 2, none⟩ = some (.int .i64 x.2.2) := (hbel.cell (p := ⟨b, o + k * 3 + 2, none⟩) (by simp; omega)).trans ((hb1.cell (p := ⟨b, o + k * 3 + 2, none⟩) hb).trans f2)
      have r0 : wr.cell? ⟨w.heap.size, 0, none⟩ = some (.int .i64 L) := (hbel.cell (p := ⟨w.heap.size, 0, none⟩) m1).trans q0
      have r1 : wr.cell? ⟨w.heap.size, 1, none⟩ = some (.int .i64 S) := (hbel.cell (p := ⟨w.heap.size, 1, none⟩) m1).trans q1
      have r2 : wr.cell? ⟨w.heap.size, 2, none⟩ = some (.slice (some ⟨b, o, none⟩) n c) := (hbel.cell (p := ⟨w.heap.size, 2, none⟩) m1).trans q2
      have hz2 := hbel.size
      have hbr : b < wr.heap.size := by omega
      have hwr : w.heap.size < wr.heap.size := by omega
      have Hbel := Lib.hid hbel
      have HA := Lib.hid (at3_of hx)
      have Hcase := Lib.hid (show x.1 < 0 ∨ (0 ≤ x.1 ∧ S ≤ x.1) ∨ (0 ≤ x.1 ∧ x.1 < S ∧ x.2.1 < 0) ∨ (0 ≤ x.1 ∧ x.1 < S ∧ 0 ≤ x.2.1 ∧ S ≤ x.2.1) ∨ (0 ≤ x.1 ∧ x.1 < S ∧ 0 ≤ x.2.1 ∧ x.2.1 < S ∧ x.2.2 < 0) ∨ (0 ≤ x.1 ∧ x.1 < S ∧ 0 ≤ x.2.1 ∧ x.2.1 < S ∧ 0 ≤ x.2.2 ∧ L ≤ x.2.2) ∨ (0 ≤ x.1 ∧ x.1 < S ∧ 0 ≤ x.2.1 ∧ x.2.1 < S ∧ 0 ≤ x.2.2 ∧ x.2.2 < L) from by omega)
      by_cases hok : arcOk L S x = true
      rotate_left
      · have HF := Lib.hid (show T = false from by rw [HK1.out, if_neg (by unfold arcB; rw [HA.out, Bool.eq_false_iff.2 hok]; simp)])
        have hok2 := hok
        unfold arcOk at hok2
        rw [decide_eq_true_eq] at hok2
        have hcs := Hcase.out
        clear HK HK1 hx0 hcell hx f0 f1 f2 Hcase hok
        obtain ⟨x0, x1, x2⟩ := x
        simp only at g0 g1 g2 hok2 hcs
        rcases hcs with hcs | ⟨i0, i1⟩ | ⟨i0, i1, i2⟩ | ⟨i0, i1, i2, i3⟩ | ⟨i0, i1, i2, i3, i4⟩ | ⟨i0, i1, i2, i3, i4, i5⟩ | hcs
        · clear hok2
          have u0 : decide (x0 < 0) = true := decide_eq_true (by omega)
          go_wp2
          go_quiet (fail)
          go_wp2
          go_ret
          exact ⟨by rw [HF.out]; rfl, below_drewN (((Hb1.out.trans (Hbel.out.mono hz)).alloc (Nat.le_of_lt hwr) _)) _⟩
        · clear hok2
          have u0 : decide (x0 < 0) = false := decide_eq_false (by omega)
          have u1 : decide (S ≤ x0) = true := decide_eq_true (by omega)
          go_wp2
          go_quiet (fail)
          go_wp2
          go_ret
          exact ⟨by rw [HF.out]; rfl, below_drewN (((Hb1.out.trans (Hbel.out.mono hz)).alloc (Nat.le_of_lt hwr) _)) _⟩
        · clear hok2
          have u0 : decide (x0 < 0) = false := decide_eq_false (by omega)
          have u1 : decide (S ≤ x0) = false := decide_eq_false (by omega)
          have u2 : decide (x1 < 0) = true := decide_eq_true (by omega)
          go_wp2
          go_quiet (fail)
          go_wp2
          go_ret
          exact ⟨by rw [HF.out]; rfl, below_drewN (((Hb1.out.trans (Hbel.out.mono hz)).alloc (Nat.le_of_lt hwr) _)) _⟩
        · clear hok2
          have u0 : decide (x0 < 0) = false := decide_eq_false (by omega)
          have u1 : decide (S ≤ x0) = false := decide_eq_false (by omega)
          have u2 : decide (x1 < 0) = false := decide_eq_false (by omega)
          have u3 : decide (S ≤ x1) = true := decide_eq_true (by omega)
          go_wp2
          go_quiet (fail)
          go_wp2
          go_ret
          exact ⟨by rw [HF.out]; rfl, below_drewN (((Hb1.out.trans (Hbel.out.mono hz)).alloc (Nat.le_of_lt hwr) _)) _⟩
        · clear hok2
          have u0 : decide (x0 < 0) = false := decide_eq_false (by omega)
          have u1 : decide (S ≤ x0) = false := decide_eq_false (by omega)
          have u2 : decide (x1 < 0) = false := decide_eq_false (by omega)
          have u3 : decide (S ≤ x1) = false := decide_eq_false (by omega)
          have u4 : decide (x2 < 0) = true := decide_eq_true (by omega)
          go_wp2
          go_quiet (fail)
          go_wp2
          go_ret
          exact ⟨by rw [HF.out]; rfl, below_drewN (((Hb1.out.trans (Hbel.out.mono hz)).alloc (Nat.le_of_lt hwr) _)) _⟩
        · clear hok2
          have u0 : decide (x0 < 0) = false := decide_eq_false (by omega)
          have u1 : decide (S ≤ x0) = false := decide_eq_false (by omega)
          have u2 : decide (x1 < 0) = false := decide_eq_false (by omega)
          have u3 : decide (S ≤ x1) = false := decide_eq_false (by omega)
          have u4 : decide (x2 < 0) = false := decide_eq_false (by omega)
          have u5 : decide (L ≤ x2) = true := decide_eq_true (by omega)
          go_wp2
          go_quiet (fail)
          go_wp2
          go_ret
          exact ⟨by rw [HF.out]; rfl, below_drewN (((Hb1.out.trans (Hbel.out.mono hz)).alloc (Nat.le_of_lt hwr) _)) _⟩
        · exact absurd hcs hok2
      · have hok2 := hok
        unfold arcOk at hok2
        rw [decide_eq_true_eq] at hok2
        obtain ⟨i0, i1, i2, i3, i4, i5⟩ := hok2
        by_cases hk0 : k = 0
        · have HT2 := Lib.hid (show T = allF (arcB L S xs) g' (k + 1) from by rw [HK1.out, if_pos (by unfold arcB; rw [HA.out, hok]; simp [hk0])])
          clear HK HK1 hx0 hcell hx f0 f1 f2 Hcase hok HA
          subst hk0
          rw [Nat.zero_mul, Nat.add_zero] at g0 g1 g2
          obtain ⟨x0, x1, x2⟩ := x
          simp only at g0 g1 g2 i0 i1 i2 i3 i4 i5
          have u0 : decide (x0 < 0) = false := decide_eq_false (by omega)
          have u1 : decide (S ≤ x0) = false := decide_eq_false (by omega)
          have u2 : decide (x1 < 0) = false := decide_eq_false (by omega)
          have u3 : decide (S ≤ x1) = false := decide_eq_false (by omega)
          have u4 : decide (x2 < 0) = false := decide_eq_false (by omega)
          have u5 : decide (L ≤ x2) = false := decide_eq_false (by omega)
          go_wp2
          go_quiet (fail)
          go_wp2
          go_roundg g'
          case measure => omega
          case rel => exact ⟨0 + 1, by go_num, by omega, HT2, below_drewN ((Hbel.out.alloc hz2 _)) _⟩
        · obtain ⟨j, rfl⟩ : ∃ j, k = j + 1 := ⟨k - 1, by omega⟩
          obtain ⟨y, hy, _⟩ := at_lt (xs := xs) (k := j) (by have := Hn.out; omega)
          obtain ⟨e0, e1, e2⟩ := hx0 j y hy
          have p0 : wr.cell? ⟨b, o + j * 3, none⟩ = some (.int .i64 y.1) := (hbel.cell (p := ⟨b, o + j * 3, none⟩) (by simp; omega)).trans ((hb1.cell (p := ⟨b, o + j * 3, none⟩) hb).trans e0)
          have p1 : wr.cell? ⟨b, o + j * 3 + 1, none⟩ = some (.int .i64 y.2.1) := (hbel.cell (p := ⟨b, o + j * 3 + 1, none⟩) (by simp; omega)).trans ((hb1.cell (p := ⟨b, o + j * 3 + 1, none⟩) hb).trans e1)
          have p2 : wr.cell? ⟨b, o + j * 3 + 2, none⟩ = some (.int .i64 y.2.2) := (hbel.cell (p := ⟨b, o + j * 3 + 2, none⟩) (by simp; omega)).trans ((hb1.cell (p := ⟨b, o + j * 3 + 2, none⟩) hb).trans e2)
          have HB := Lib.hid (at3_of hy)
          have Hcm := Lib.hid (cmpA_nn y x)
          have Hcc := Lib.hid (fun w => compareArcs_c y x w)
          have HV := Lib.hid (show arcB L S xs (j + 1) = before y x from by unfold arcB; rw [HA.out, hok, show j + 1 - 1 = j from rfl, HB.out]; simp)
          clear HK hx0 hcell hx hy f0 f1 f2 e0 e1 e2 Hcase hok HA HB hk0
          obtain ⟨x0, x1, x2⟩ := x
          obtain ⟨y0, y1, y2⟩ := y
          simp only at g0 g1 g2 i0 i1 i2 i3 i4 i5 p0 p1 p2
          have u0 : decide (x0 < 0) = false := decide_eq_false (by omega)
          have u1 : decide (S ≤ x0) = false := decide_eq_false (by omega)
          have u2 : decide (x1 < 0) = false := decide_eq_false (by omega)
          have u3 : decide (S ≤ x1) = false := decide_eq_false (by omega)
          have u4 : decide (x2 < 0) = false := decide_eq_false (by omega)
          have u5 : decide (L ≤ x2) = false := decide_eq_false (by omega)
          generalize cmpA (y0, y1, y2) (x0, x1, x2) = cv at Hcm Hcc
          have hjn : (j : Int) < (n : Int) := by omega
          have hwj2 : IntKind.i64.wrap (j : Int) = (j : Int) := IntWalk.i64_in _ (by omega)
          have hj0 : (0 : Int) ≤ (j : Int) := by omega
          have hj1 : decide ((0 : Int) < (j : Int) + 1) = true := decide_eq_true (by omega)
          have hwj : IntKind.i64.wrap ((j : Int) + 1 - 1) = (j : Int) := by rw [show (j : Int) + 1 - 1 = j by omega]; exact IntWalk.i64_in _ (by omega)
          go_wp2
          obtain ⟨wn, ex, hbn0, c0, c1, c2, mn⟩ := boxA3_ex wr 59 (.int .i64 x0) (.int .i64 x1) (.int .i64 x2)
          rw [ex]
          clear ex g0 g1 g2
          have hwn : w.heap.size < wn.heap.size := by omega
          have hbn : b < wn.heap.size := by omega
          replace r0 := (hbn0.cell (p := ⟨w.heap.size, 0, none⟩) hwr).trans r0
          replace r1 := (hbn0.cell (p := ⟨w.heap.size, 1, none⟩) hwr).trans r1
          replace r2 := (hbn0.cell (p := ⟨w.heap.size, 2, none⟩) hwr).trans r2
          replace p0 := (hbn0.cell (p := ⟨b, o + j * 3, none⟩) hbr).trans p0
          replace p1 := (hbn0.cell (p := ⟨b, o + j * 3 + 1, none⟩) hbr).trans p1
          replace p2 := (hbn0.cell (p := ⟨b, o + j * 3 + 2, none⟩) hbr).trans p2
          have Hbn := Lib.hid (Hbel.out.trans (hbn0.mono hz2))
          have hS0 : wn.cell? ⟨wr.heap.size, 0, none⟩ = some (.int .i64 x0) ∧ wn.cell? ⟨wr.heap.size, 1, none⟩ = some (.int .i64 x1) ∧ wn.cell? ⟨wr.heap.size, 2, none⟩ = some (.int .i64 x2) ∧ wn.cell? ⟨w.heap.size, 0, none⟩ = some (.int .i64 L) ∧ wn.cell? ⟨w.heap.size, 1, none⟩ = some (.int .i64 S) ∧ wn.cell? ⟨w.heap.size, 2, none⟩ = some (.slice (some ⟨b, o, none⟩) n c) ∧ wn.cell? ⟨b, o + j * 3, none⟩ = some (.int .i64 y0) ∧ wn.cell? ⟨b, o + j * 3 + 1, none⟩ = some (.int .i64 y1) ∧ wn.cell? ⟨b, o + j * 3 + 2, none⟩ = some (.int .i64 y2) := ⟨c0, c1, c2, r0, r1, r2, p0, p1, p2⟩
          have hSd : wn.drew.cell? ⟨wr.heap.size, 0, none⟩ = some (.int .i64 x0) ∧ wn.drew.cell? ⟨wr.heap.size, 1, none⟩ = some (.int .i64 x1) ∧ wn.drew.cell? ⟨wr.heap.size, 2, none⟩ = some (.int .i64 x2) ∧ wn.drew.cell? ⟨w.heap.size, 0, none⟩ = some (.int .i64 L) ∧ wn.drew.cell? ⟨w.heap.size, 1, none⟩ = some (.int .i64 S) ∧ wn.drew.cell? ⟨w.heap.size, 2, none⟩ = some (.slice (some ⟨b, o, none⟩) n c) ∧ wn.drew.cell? ⟨b, o + j * 3, none⟩ = some (.int .i64 y0) ∧ wn.drew.cell? ⟨b, o + j * 3 + 1, none⟩ = some (.int .i64 y1) ∧ wn.drew.cell? ⟨b, o + j * 3 + 2, none⟩ = some (.int .i64 y2) := hS0
          have hzn : w1.heap.size ≤ wn.heap.size := by omega
          clear hbn0
          by_cases hbf : before (y0, y1, y2) (x0, x1, x2) = true
          · have HT2 := Lib.hid (show T = allF (arcB L S xs) g' (j + 1 + 1) from by rw [HK1.out, if_pos (by rw [HV.out]; exact hbf)])
            have hcv : cv < 0 := by
              have h1 : ¬ 0 ≤ cv := fun h2 => by have h3 := Hcm.out.1 h2; rw [hbf] at h3; cases h3
              omega
            clear HK1 HV Hcm hbf
            have HS := Lib.hid (fun (w2 : World) (hb3 : Below wn.heap.size wn w2) => (show w2.cell? ⟨wr.heap.size, 0, none⟩ = some (.int .i64 x0) ∧ w2.cell? ⟨wr.heap.size, 1, none⟩ = some (.int .i64 x1) ∧ w2.cell? ⟨wr.heap.size, 2, none⟩ = some (.int .i64 x2) ∧ w2.cell? ⟨w.heap.size, 0, none⟩ = some (.int .i64 L) ∧ w2.cell? ⟨w.heap.size, 1, none⟩ = some (.int .i64 S) ∧ w2.cell? ⟨w.heap.size, 2, none⟩ = some (.slice (some ⟨b, o, none⟩) n c) ∧ w2.cell? ⟨b, o + j * 3, none⟩ = some (.int .i64 y0) ∧ w2.cell? ⟨b, o + j * 3 + 1, none⟩ = some (.int .i64 y1) ∧ w2.cell? ⟨b, o + j * 3 + 2, none⟩ = some (.int .i64 y2) from ⟨(hb3.cell (p := ⟨wr.heap.size, 0, none⟩) mn).trans hS0.1, (hb3.cell (p := ⟨wr.heap.size, 1, none⟩) mn).trans hS0.2.1, (hb3.cell (p := ⟨wr.heap.size, 2, none⟩) mn).trans hS0.2.2.1, (hb3.cell (p := ⟨w.heap.size, 0, none⟩) hwn).trans hS0.2.2.2.1, (hb3.cell (p := ⟨w.heap.size, 1, none⟩) hwn).trans hS0.2.2.2.2.1, (hb3.cell (p := ⟨w.heap.size, 2, none⟩) hwn).trans hS0.2.2.2.2.2.1, (hb3.cell (p := ⟨b, o + j * 3, none⟩) hbn).trans hS0.2.2.2.2.2.2.1, (hb3.cell (p := ⟨b, o + j * 3 + 1, none⟩) hbn).trans hS0.2.2.2.2.2.2.2.1, (hb3.cell (p := ⟨b, o + j * 3 + 2, none⟩) hbn).trans hS0.2.2.2.2.2.2.2.2⟩))
            go_region_held3 (fun w' => w'.cell? ⟨wr.heap.size, 0, none⟩ = some (.int .i64 x0) ∧ w'.cell? ⟨wr.heap.size, 1, none⟩ = some (.int .i64 x1) ∧ w'.cell? ⟨wr.heap.size, 2, none⟩ = some (.int .i64 x2) ∧ w'.cell? ⟨w.heap.size, 0, none⟩ = some (.int .i64 L) ∧ w'.cell? ⟨w.heap.size, 1, none⟩ = some (.int .i64 S) ∧ w'.cell? ⟨w.heap.size, 2, none⟩ = some (.slice (some ⟨b, o, none⟩) n c) ∧ w'.cell? ⟨b, o + j * 3, none⟩ = some (.int .i64 y0) ∧ w'.cell? ⟨b, o + j * 3 + 1, none⟩ = some (.int .i64 y1) ∧ w'.cell? ⟨b, o + j * 3 + 2, none⟩ = some (.int .i64 y2))
              (first | with_reducible exact hS1 | with_reducible exact hSd | with_reducible exact hS0 | go_keep)
              ((first
                | (go_at_call 70; (with_reducible refine (Hcc.out _).mono ?_); rintro e w2 ⟨rfl, hb2'⟩; have hb3 := ((Below.refl wn.heap.size wn).drew).trans hb2'; have hS1 := HS.out w2 hb3; have Hb3 := Lib.hid (Hbn.out.trans (hb3.mono hzn)); clear hb2' hb3)
                | fail))
            go_wp2
            go_roundg g'
            case measure => omega
            case rel => exact ⟨j + 1 + 1, by go_num, by omega, HT2, Hb3.out⟩
          · have HF := Lib.hid (show T = false from by rw [HK1.out, if_neg (by rw [HV.out]; exact hbf)])
            have hcv : 0 ≤ cv := Hcm.out.2 (Bool.eq_false_iff.2 hbf)
            clear HK1 HV Hcm hbf
            have HS := Lib.hid (fun (w2 : World) (hb3 : Below wn.heap.size wn w2) => (show w2.cell? ⟨wr.heap.size, 0, none⟩ = some (.int .i64 x0) ∧ w2.cell? ⟨wr.heap.size, 1, none⟩ = some (.int .i64 x1) ∧ w2.cell? ⟨wr.heap.size, 2, none⟩ = some (.int .i64 x2) ∧ w2.cell? ⟨w.heap.size, 0, none⟩ = some (.int .i64 L) ∧ w2.cell? ⟨w.heap.size, 1, none⟩ = some (.int .i64 S) ∧ w2.cell? ⟨w.heap.size, 2, none⟩ = some (.slice (some ⟨b, o, none⟩) n c) ∧ w2.cell? ⟨b, o + j * 3, none⟩ = some (.int .i64 y0) ∧ w2.cell? ⟨b, o + j * 3 + 1, none⟩ = some (.int .i64 y1) ∧ w2.cell? ⟨b, o + j * 3 + 2, none⟩ = some (.int .i64 y2) from ⟨(hb3.cell (p := ⟨wr.heap.size, 0, none⟩) mn).trans hS0.1, (hb3.cell (p := ⟨wr.heap.size, 1, none⟩) mn).trans hS0.2.1, (hb3.cell (p := ⟨wr.heap.size, 2, none⟩) mn).trans hS0.2.2.1, (hb3.cell (p := ⟨w.heap.size, 0, none⟩) hwn).trans hS0.2.2.2.1, (hb3.cell (p := ⟨w.heap.size, 1, none⟩) hwn).trans hS0.2.2.2.2.1, (hb3.cell (p := ⟨w.heap.size, 2, none⟩) hwn).trans hS0.2.2.2.2.2.1, (hb3.cell (p := ⟨b, o + j * 3, none⟩) hbn).trans hS0.2.2.2.2.2.2.1, (hb3.cell (p := ⟨b, o + j * 3 + 1, none⟩) hbn).trans hS0.2.2.2.2.2.2.2.1, (hb3.cell (p := ⟨b, o + j * 3 + 2, none⟩) hbn).trans hS0.2.2.2.2.2.2.2.2⟩))
            go_region_held3 (fun w' => w'.cell? ⟨wr.heap.size, 0, none⟩ = some (.int .i64 x0) ∧ w'.cell? ⟨wr.heap.size, 1, none⟩ = some (.int .i64 x1) ∧ w'.cell? ⟨wr.heap.size, 2, none⟩ = some (.int .i64 x2) ∧ w'.cell? ⟨w.heap.size, 0, none⟩ = some (.int .i64 L) ∧ w'.cell? ⟨w.heap.size, 1, none⟩ = some (.int .i64 S) ∧ w'.cell? ⟨w.heap.size, 2, none⟩ = some (.slice (some ⟨b, o, none⟩) n c) ∧ w'.cell? ⟨b, o + j * 3, none⟩ = some (.int .i64 y0) ∧ w'.cell? ⟨b, o + j * 3 + 1, none⟩ = some (.int .i64 y1) ∧ w'.cell? ⟨b, o + j * 3 + 2, none⟩ = some (.int .i64 y2))
              (first | with_reducible exact hS1 | with_reducible exact hSd | with_reducible exact hS0 | go_keep)
              ((first
                | (go_at_call 70; (with_reducible refine (Hcc.out _).mono ?_); rintro e w2 ⟨rfl, hb2'⟩; have hb3 := ((Below.refl wn.heap.size wn).drew).trans hb2'; have hS1 := HS.out w2 hb3; have Hb3 := Lib.hid (Hbn.out.trans (hb3.mono hzn)); clear hb2' hb3)
                | fail))
            go_wp2
            go_ret
            exact ⟨by rw [HF.out]; rfl, Hb1.out.trans (Hb3.out.mono hz)⟩
    · have e : g = 0 := by omega
      subst e
      have HF := Lib.hid (show T = true from HK.out)
      have Hbz := Lib.hid (Hb1.out.trans (hbel.mono hz))
      clear HK hbel hg hb1 hcell
      go_wp2
      go_ret
      exact ⟨by rw [HF.out]; rfl, Hbz.out⟩
end Go.Proofs.Ytcilgihmaaobeaa
end

section
namespace Go.Proofs.Ytcilgihmaaobeaa
open Go.RowKit Go.Deep Go.Sd

def inW (a lim : Int) : Bool := decide (0 ≤ a) && decide (a ≤ wrap64 (lim - 1))
def arcBW (L S : Int) (xs : List Arc3) (k : Nat) : Bool := (inW (at3 xs k).1 S && (inW (at3 xs k).2.1 S && inW (at3 xs k).2.2 L)) && (decide (k = 0) || before (at3 xs (k - 1)) (at3 xs k))
theorem allF_congr {f g : Nat → Bool} (h : ∀ k, f k = g k) : ∀ m k, allF f m k = allF g m k
  | 0, _ => rfl
  | m + 1, k => by
    show (if f k = true then allF f m (k + 1) else false) = if g k = true then allF g m (k + 1) else false
    rw [h k, allF_congr h m (k + 1)]
theorem inW_of {a lim : Int} (h1 : 1 ≤ lim) (h2 : lim ≤ 12) : inW a lim = decide (0 ≤ a ∧ a < lim) := by
  unfold inW
  rw [show wrap64 (lim - 1) = lim - 1 from IntWalk.wrap64_in _ (by omega)]
  by_cases h : 0 ≤ a ∧ a < lim
  · rw [decide_eq_true h, decide_eq_true h.1, decide_eq_true (show a ≤ lim - 1 by omega)]; rfl
  · rw [decide_eq_false h]
    by_cases h3 : 0 ≤ a
    · rw [decide_eq_true h3, decide_eq_false (show ¬ a ≤ lim - 1 by omega)]; rfl
    · rw [decide_eq_false h3]; rfl
theorem inW_yes {a lim : Int} (h : inW a lim = true) : 0 ≤ a ∧ a ≤ IntKind.i64.wrap (lim - 1) := by
  unfold inW at h
  rw [← IntWalk.i64_left] at h
  rw [Bool.and_eq_true, decide_eq_true_eq, decide_eq_true_eq] at h
  exact h
theorem isLab_spec (L S : Int) (xs : List Arc3) : isLab (L, S, xs) = (allF (arcBW L S xs) xs.length 0 && (decide (1 ≤ L ∧ L ≤ 3) && decide (1 ≤ S ∧ S ≤ 12))) := by
  show (decide (1 ≤ L ∧ L ≤ 3) && (decide (1 ≤ S ∧ S ≤ 12) && allF (arcB L S xs) xs.length 0)) = _
  by_cases hL : 1 ≤ L ∧ L ≤ 3
  · by_cases hS : 1 ≤ S ∧ S ≤ 12
    · rw [allF_congr (f := arcB L S xs) (g := arcBW L S xs) fun k => by
        unfold arcB arcBW arcOk
        rw [inW_of hS.1 hS.2, inW_of hS.1 hS.2, inW_of hL.1 (by omega)]
        congr 1
        rw [← Bool.decide_and, ← Bool.decide_and]
        exact decide_eq_decide.2 ⟨fun h => ⟨⟨h.1, h.2.1⟩, ⟨h.2.2.1, h.2.2.2.1⟩, h.2.2.2.2⟩, fun h => ⟨h.1.1, h.1.2, h.2.1.1, h.2.1.2, h.2.2⟩⟩]
      rw [decide_eq_true hL, decide_eq_true hS]
      simp
    · rw [decide_eq_false hS]; simp
  · rw [decide_eq_false hL]; simp

set_option maxHeartbeats 40000000 in
set_option maxRecDepth 10000 in
theorem spec_IsLabels_c {w : World} {v : Value} {l : Lb} (h : LabR w v l) :
    Calls Try.prog 49 #[v] w fun e w' => e = .returned (.bool (isLab l)) ∧ Below w.heap.size w w' := by
  obtain ⟨L, S, xs⟩ := l
  obtain ⟨va, rfl, hlen, a, c, rfl, _, _, _, hcell⟩ := h
  have H := Lib.hid (isLab_spec L S xs)
  generalize isLab (L, S, xs) = T at H ⊢
  obtain ⟨n, hn⟩ : ∃ n, n = xs.length := ⟨_, rfl⟩
  have Hn := Lib.hid hn
  simp only at hcell hlen
  simp only
  rw [← hn] at hcell hlen H ⊢
  clear hn
  have HL := Lib.hid (fun w => l1In_c L 1 3 w)
  have HS := Lib.hid (fun w => l1In_c S 1 12 w)
  go_enter Try.func49, Try.ntmps49
  have qq0 : (w.alloc (.cells #[.int .i64 L, .int .i64 S, .slice a n c] 26)).cell? ⟨w.heap.size, 0, none⟩ = some (.int .i64 L) := by simp
  have qq1 : (w.alloc (.cells #[.int .i64 L, .int .i64 S, .slice a n c] 26)).cell? ⟨w.heap.size, 1, none⟩ = some (.int .i64 S) := by simp
  have qq2 : (w.alloc (.cells #[.int .i64 L, .int .i64 S, .slice a n c] 26)).cell? ⟨w.heap.size, 2, none⟩ = some (.slice a n c) := by simp
  have hb1 : Below w.heap.size w (w.alloc (.cells #[.int .i64 L, .int .i64 S, .slice a n c] 26)) := (Below.refl _ _).alloc (Nat.le_refl _) _
  have m1 : w.heap.size < (w.alloc (.cells #[.int .i64 L, .int .i64 S, .slice a n c] 26)).heap.size := by simp
  go_wp2
  generalize w.alloc (.cells #[.int .i64 L, .int .i64 S, .slice a n c] 26) = w1 at *
  have Hb1 := Lib.hid hb1
  have hz := hb1.size
  go_loopg [3] n (fun g i wr => ∃ (k : Nat), i = .int .i64 k ∧ k + g = n ∧ Hid (T = (allF (arcBW L S xs) g k && (decide (1 ≤ L ∧ L ≤ 3) && decide (1 ≤ S ∧ S ≤ 12)))) ∧ Below w1.heap.size w1 wr)
  case atStart => exact ⟨0, rfl, by omega, H, Below.refl _ _⟩
  case round =>
    obtain ⟨k, rfl, hk, HK, hbel⟩ := hrel
    obtain ⟨g, hg⟩ : ∃ g, g = gk := ⟨_, rfl⟩
    rw [← hg] at HK hk
    clear H
    by_cases hlt : k < n
    · obtain ⟨g', rfl⟩ : ∃ t, g = t + 1 := ⟨g - 1, by omega⟩
      have HK1 := Lib.hid (show T = ((if arcBW L S xs k = true then allF (arcBW L S xs) g' (k + 1) else false) && (decide (1 ≤ L ∧ L ≤ 3) && decide (1 ≤ S ∧ S ≤ 12))) from HK.out)
      obtain ⟨b, o, rfl, hb, hx0⟩ := hcell (by omega)
      obtain ⟨x, hx, _⟩ := at_lt (xs := xs) (k := k) (by have := Hn.out; omega)
      obtain ⟨f0, f1, f2⟩ := hx0 k x hx
      have g0 : wr.cell? ⟨b, o + k * 3, none⟩ = some (.int .i64 x.1) := (hbel.cell (p := ⟨b, o + k * 3, none⟩) (by simp; omega)).trans ((hb1.cell (p := ⟨b, o + k * 3, none⟩) hb).trans f0)
      have g1 : wr.cell? ⟨b, o + k * 3 + 1, none⟩ = some (.int .i64 x.2.1) := (hbel.cell (p := ⟨b, o + k * 3 + 1, none⟩) (by simp; omega)).trans ((hb1.cell (p := ⟨b, o + k * 3 + 1, none⟩) hb).trans f1)
      have g2 : wr.cell? ⟨b, o + k * 3 + 2, none⟩ = some (.int .i64 x.2.2) := (hbel.cell (p := ⟨b, o + k * 3 + 2, none⟩) (by simp; omega)).trans ((hb1.cell (p := ⟨b, o + k * 3 + 2, none⟩) hb).trans f2)
      have r0 : wr.cell? ⟨w.heap.size, 0, none⟩ = some (.int .i64 L) := (hbel.cell (p := ⟨w.heap.size, 0, none⟩) m1).trans qq0
      have r1 : wr.cell? ⟨w.heap.size, 1, none⟩ = some (.int .i64 S) := (hbel.cell (p := ⟨w.heap.size, 1, none⟩) m1).trans qq1
      have r2 : wr.cell? ⟨w.heap.size, 2, none⟩ = some (.slice (some ⟨b, o, none⟩) n c) := (hbel.cell (p := ⟨w.heap.size, 2, none⟩) m1).trans qq2
      have hz2 := hbel.size
      have hbr : b < wr.heap.size := by omega
      have hwr : w.heap.size < wr.heap.size := by omega
      have Hbel := Lib.hid hbel
      have HA := Lib.hid (at3_of hx)
      have H0 := Lib.hid (fun w => (show Calls Try.prog 54 #[.int .i64 x.1, .int .i64 0, .int .i64 (wrap64 (S - 1))] w fun e w' => e = .returned (.bool (inW x.1 S)) ∧ w = w' from l1In_c x.1 0 (wrap64 (S - 1)) w))
      have H1 := Lib.hid (fun w => (show Calls Try.prog 54 #[.int .i64 x.2.1, .int .i64 0, .int .i64 (wrap64 (S - 1))] w fun e w' => e = .returned (.bool (inW x.2.1 S)) ∧ w = w' from l1In_c x.2.1 0 (wrap64 (S - 1)) w))
      have H2 := Lib.hid (fun w => (show Calls Try.prog 54 #[.int .i64 x.2.2, .int .i64 0, .int .i64 (wrap64 (L - 1))] w fun e w' => e = .returned (.bool (inW x.2.2 L)) ∧ w = w' from l1In_c x.2.2 0 (wrap64 (L - 1)) w))
      have HBW := Lib.hid (show arcBW L S xs k = ((inW x.1 S && (inW x.2.1 S && inW x.2.2 L)) && (decide (k = 0) || before (at3 xs (k - 1)) x)) from by unfold arcBW; rw [HA.out])
      have Hy := Lib.hid (fun j (hj : k = j + 1) => show ∃ y, at3 xs j = y ∧ wr.cell? ⟨b, o + j * 3, none⟩ = some (.int .i64 y.1) ∧ wr.cell? ⟨b, o + j * 3 + 1, none⟩ = some (.int .i64 y.2.1) ∧ wr.cell? ⟨b, o + j * 3 + 2, none⟩ = some (.int .i64 y.2.2) from by
        obtain ⟨y, hy, _⟩ := at_lt (xs := xs) (k := j) (by have := Hn.out; omega)
        obtain ⟨e0, e1, e2⟩ := hx0 j y hy
        exact ⟨y, at3_of hy, (hbel.cell (p := ⟨b, o + j * 3, none⟩) (by simp; omega)).trans ((hb1.cell (p := ⟨b, o + j * 3, none⟩) hb).trans e0), (hbel.cell (p := ⟨b, o + j * 3 + 1, none⟩) (by simp; omega)).trans ((hb1.cell (p := ⟨b, o + j * 3 + 1, none⟩) hb).trans e1), (hbel.cell (p := ⟨b, o + j * 3 + 2, none⟩) (by simp; omega)).trans ((hb1.cell (p := ⟨b, o + j * 3 + 2, none⟩) hb).trans e2)⟩)
      clear HK hx0 hcell hx f0 f1 f2 HA hbel hb1 HL HS
      obtain ⟨x0, x1, x2⟩ := x
      simp only at g0 g1 g2 H0 H1 H2 HBW
      generalize hb0 : inW x0 S = b0 at H0 HBW
      have E0 := Lib.hid hb0
      clear hb0
      generalize hb1 : inW x1 S = b1 at H1 HBW
      have E1 := Lib.hid hb1
      clear hb1
      generalize hb2 : inW x2 L = b2 at H2 HBW
      have E2 := Lib.hid hb2
      clear hb2
      go_wp2
      obtain ⟨wn, ex, hbn0, c0, c1, c2, mn⟩ := boxA3_ex wr 59 (.int .i64 x0) (.int .i64 x1) (.int .i64 x2)
      rw [ex]
      clear ex g0 g1 g2
      have hwn : w.heap.size < wn.heap.size := by omega
      have hbn : b < wn.heap.size := by omega
      replace r0 := (hbn0.cell (p := ⟨w.heap.size, 0, none⟩) hwr).trans r0
      replace r1 := (hbn0.cell (p := ⟨w.heap.size, 1, none⟩) hwr).trans r1
      replace r2 := (hbn0.cell (p := ⟨w.heap.size, 2, none⟩) hwr).trans r2
      have Hbn := Lib.hid (Hbel.out.trans (hbn0.mono hz2))
      have hzn : w1.heap.size ≤ wn.heap.size := by omega
      have hS0 : wn.cell? ⟨wr.heap.size, 0, none⟩ = some (.int .i64 x0) ∧ wn.cell? ⟨wr.heap.size, 1, none⟩ = some (.int .i64 x1) ∧ wn.cell? ⟨wr.heap.size, 2, none⟩ = some (.int .i64 x2) ∧ wn.cell? ⟨w.heap.size, 0, none⟩ = some (.int .i64 L) ∧ wn.cell? ⟨w.heap.size, 1, none⟩ = some (.int .i64 S) ∧ wn.cell? ⟨w.heap.size, 2, none⟩ = some (.slice (some ⟨b, o, none⟩) n c) := ⟨c0, c1, c2, r0, r1, r2⟩
      have hSd : wn.drew.cell? ⟨wr.heap.size, 0, none⟩ = some (.int .i64 x0) ∧ wn.drew.cell? ⟨wr.heap.size, 1, none⟩ = some (.int .i64 x1) ∧ wn.drew.cell? ⟨wr.heap.size, 2, none⟩ = some (.int .i64 x2) ∧ wn.drew.cell? ⟨w.heap.size, 0, none⟩ = some (.int .i64 L) ∧ wn.drew.cell? ⟨w.heap.size, 1, none⟩ = some (.int .i64 S) ∧ wn.drew.cell? ⟨w.heap.size, 2, none⟩ = some (.slice (some ⟨b, o, none⟩) n c) := hS0
      have Hbn0 := Lib.hid hbn0
      have hbw := Hb1.out.trans (Hbn.out.mono hz)
      have Hbw := Lib.hid hbw
      clear hbn0 hbw
      cases b0 with
      | false =>
        have HF := Lib.hid (show T = false from by rw [HK1.out, if_neg (by rw [HBW.out]; simp)]; rfl)
        clear HK1 HBW Hy Hbn0 hS0 hSd
        have Q0 := Lib.hid (fun q => (H0.out (wn.drewN q)).mono (fun e w'' h => (⟨h.1, q, h.2.symm⟩ : e = .returned (.bool false) ∧ ∃ q', w'' = wn.drewN q')))
        refine wp_region_quiet_lit (by kernel_rfl) (by kernel_rfl) ?_
        repeat (go_big_quiet_step (fail))
        go_big_quiet_step ((with_reducible exact Q0.out _))
        repeat (go_big_quiet_step (fail))
        refine wpQuiet_nil ?_
        intro _ hw'
        obtain ⟨nq, hw''⟩ := hw'
        subst hw''
        go_wp2
        go_ret
        exact ⟨by rw [HF.out]; rfl, below_drewN Hbw.out _⟩
      | true =>
      cases b1 with
      | false =>
        have HF := Lib.hid (show T = false from by rw [HK1.out, if_neg (by rw [HBW.out]; simp)]; rfl)
        clear HK1 HBW Hy Hbn0 hS0 hSd
        have Q0 := Lib.hid (fun q => (H0.out (wn.drewN q)).mono (fun e w'' h => (⟨h.1, q, h.2.symm⟩ : e = .returned (.bool true) ∧ ∃ q', w'' = wn.drewN q')))
        have Q1 := Lib.hid (fun q => (H1.out (wn.drewN q)).mono (fun e w'' h => (⟨h.1, q, h.2.symm⟩ : e = .returned (.bool false) ∧ ∃ q', w'' = wn.drewN q')))
        refine wp_region_quiet_lit (by kernel_rfl) (by kernel_rfl) ?_
        repeat (go_big_quiet_step (fail))
        go_big_quiet_step ((with_reducible exact Q0.out _))
        repeat (go_big_quiet_step (fail))
        go_big_quiet_step ((with_reducible exact Q1.out _))
        repeat (go_big_quiet_step (fail))
        refine wpQuiet_nil ?_
        intro _ hw'
        obtain ⟨nq, hw''⟩ := hw'
        subst hw''
        go_wp2
        go_ret
        exact ⟨by rw [HF.out]; rfl, below_drewN Hbw.out _⟩
      | true =>
      cases b2 with
      | false =>
        have HF := Lib.hid (show T = false from by rw [HK1.out, if_neg (by rw [HBW.out]; simp)]; rfl)
        clear HK1 HBW Hy Hbn0 hS0 hSd
        have Q0 := Lib.hid (fun q => (H0.out (wn.drewN q)).mono (fun e w'' h => (⟨h.1, q, h.2.symm⟩ : e = .returned (.bool true) ∧ ∃ q', w'' = wn.drewN q')))
        have Q1 := Lib.hid (fun q => (H1.out (wn.drewN q)).mono (fun e w'' h => (⟨h.1, q, h.2.symm⟩ : e = .returned (.bool true) ∧ ∃ q', w'' = wn.drewN q')))
        have Q2 := Lib.hid (fun q => (H2.out (wn.drewN q)).mono (fun e w'' h => (⟨h.1, q, h.2.symm⟩ : e = .returned (.bool false) ∧ ∃ q', w'' = wn.drewN q')))
        refine wp_region_quiet_lit (by kernel_rfl) (by kernel_rfl) ?_
        repeat (go_big_quiet_step (fail))
        go_big_quiet_step ((with_reducible exact Q0.out _))
        repeat (go_big_quiet_step (fail))
        go_big_quiet_step ((with_reducible exact Q1.out _))
        repeat (go_big_quiet_step (fail))
        go_big_quiet_step ((with_reducible exact Q2.out _))
        repeat (go_big_quiet_step (fail))
        refine wpQuiet_nil ?_
        intro _ hw'
        obtain ⟨nq, hw''⟩ := hw'
        subst hw''
        go_wp2
        go_ret
        exact ⟨by rw [HF.out]; rfl, below_drewN Hbw.out _⟩
      | true =>
      by_cases hk0 : k = 0
      · have HT2 := Lib.hid (show T = (allF (arcBW L S xs) g' (k + 1) && (decide (1 ≤ L ∧ L ≤ 3) && decide (1 ≤ S ∧ S ≤ 12))) from by rw [HK1.out, if_pos (by rw [HBW.out]; simp [hk0])])
        clear HK1 HBW Hy Hbn0 hS0 hSd
        subst hk0
        have Q0 := Lib.hid (fun q => (H0.out (wn.drewN q)).mono (fun e w'' h => (⟨h.1, q, h.2.symm⟩ : e = .returned (.bool true) ∧ ∃ q', w'' = wn.drewN q')))
        have Q1 := Lib.hid (fun q => (H1.out (wn.drewN q)).mono (fun e w'' h => (⟨h.1, q, h.2.symm⟩ : e = .returned (.bool true) ∧ ∃ q', w'' = wn.drewN q')))
        have Q2 := Lib.hid (fun q => (H2.out (wn.drewN q)).mono (fun e w'' h => (⟨h.1, q, h.2.symm⟩ : e = .returned (.bool true) ∧ ∃ q', w'' = wn.drewN q')))
        refine wp_region_quiet_lit (by kernel_rfl) (by kernel_rfl) ?_
        repeat (go_big_quiet_step (fail))
        go_big_quiet_step ((with_reducible exact Q0.out _))
        repeat (go_big_quiet_step (fail))
        go_big_quiet_step ((with_reducible exact Q1.out _))
        repeat (go_big_quiet_step (fail))
        go_big_quiet_step ((with_reducible exact Q2.out _))
        repeat (go_big_quiet_step (fail))
        refine wpQuiet_nil ?_
        intro _ hw'
        obtain ⟨nq, hw''⟩ := hw'
        subst hw''
        go_wp2
        go_roundg g'
        case measure => omega
        case rel => exact ⟨0 + 1, by go_num, by omega, HT2, below_drewN Hbn.out _⟩
      obtain ⟨j, rfl⟩ : ∃ j, k = j + 1 := ⟨k - 1, by omega⟩
      obtain ⟨y, hya, p0, p1, p2⟩ := Hy.out j rfl
      have HBW2 := Lib.hid (show arcBW L S xs (j + 1) = before y (x0, x1, x2) from by rw [HBW.out, show j + 1 - 1 = j from rfl, hya]; simp)
      have Hcc := Lib.hid (fun w => l14Before_c y (x0, x1, x2) w)
      replace p0 := (Hbn0.out.cell (p := ⟨b, o + j * 3, none⟩) hbr).trans p0
      replace p1 := (Hbn0.out.cell (p := ⟨b, o + j * 3 + 1, none⟩) hbr).trans p1
      replace p2 := (Hbn0.out.cell (p := ⟨b, o + j * 3 + 2, none⟩) hbr).trans p2
      clear HBW Hy Hbn0 hya hk0 hS0 hSd
      obtain ⟨y0, y1, y2⟩ := y
      simp only at p0 p1 p2
      have hS0 : wn.cell? ⟨wr.heap.size, 0, none⟩ = some (.int .i64 x0) ∧ wn.cell? ⟨wr.heap.size, 1, none⟩ = some (.int .i64 x1) ∧ wn.cell? ⟨wr.heap.size, 2, none⟩ = some (.int .i64 x2) ∧ wn.cell? ⟨w.heap.size, 0, none⟩ = some (.int .i64 L) ∧ wn.cell? ⟨w.heap.size, 1, none⟩ = some (.int .i64 S) ∧ wn.cell? ⟨w.heap.size, 2, none⟩ = some (.slice (some ⟨b, o, none⟩) n c) ∧ wn.cell? ⟨b, o + j * 3, none⟩ = some (.int .i64 y0) ∧ wn.cell? ⟨b, o + j * 3 + 1, none⟩ = some (.int .i64 y1) ∧ wn.cell? ⟨b, o + j * 3 + 2, none⟩ = some (.int .i64 y2) := ⟨c0, c1, c2, r0, r1, r2, p0, p1, p2⟩
      have hSd : wn.drew.cell? ⟨wr.heap.size, 0, none⟩ = some (.int .i64 x0) ∧ wn.drew.cell? ⟨wr.heap.size, 1, none⟩ = some (.int .i64 x1) ∧ wn.drew.cell? ⟨wr.heap.size, 2, none⟩ = some (.int .i64 x2) ∧ wn.drew.cell? ⟨w.heap.size, 0, none⟩ = some (.int .i64 L) ∧ wn.drew.cell? ⟨w.heap.size, 1, none⟩ = some (.int .i64 S) ∧ wn.drew.cell? ⟨w.heap.size, 2, none⟩ = some (.slice (some ⟨b, o, none⟩) n c) ∧ wn.drew.cell? ⟨b, o + j * 3, none⟩ = some (.int .i64 y0) ∧ wn.drew.cell? ⟨b, o + j * 3 + 1, none⟩ = some (.int .i64 y1) ∧ wn.drew.cell? ⟨b, o + j * 3 + 2, none⟩ = some (.int .i64 y2) := hS0
      have hjn : (j : Int) < (n : Int) := by omega
      obtain ⟨u0, v0⟩ := inW_yes E0.out
      obtain ⟨u1, v1⟩ := inW_yes E1.out
      obtain ⟨u2, v2⟩ := inW_yes E2.out
      clear H0 H1 H2 E0 E1 E2
      have hwj2 : IntKind.i64.wrap (j : Int) = (j : Int) := IntWalk.i64_in _ (by omega)
      have hj0 : (0 : Int) ≤ (j : Int) := by omega
      have hj1 : decide ((0 : Int) < (j : Int) + 1) = true := decide_eq_true (by omega)
      generalize before (y0, y1, y2) (x0, x1, x2) = bf at HBW2 Hcc
      cases bf with
      | true =>
        have HT2 := Lib.hid (show T = (allF (arcBW L S xs) g' (j + 1 + 1) && (decide (1 ≤ L ∧ L ≤ 3) && decide (1 ≤ S ∧ S ≤ 12))) from by rw [HK1.out, if_pos HBW2.out])
        clear HK1 HBW2
        have HS := Lib.hid (fun (w2 : World) (hb3 : Below wn.heap.size wn w2) => (show w2.cell? ⟨wr.heap.size, 0, none⟩ = some (.int .i64 x0) ∧ w2.cell? ⟨wr.heap.size, 1, none⟩ = some (.int .i64 x1) ∧ w2.cell? ⟨wr.heap.size, 2, none⟩ = some (.int .i64 x2) ∧ w2.cell? ⟨w.heap.size, 0, none⟩ = some (.int .i64 L) ∧ w2.cell? ⟨w.heap.size, 1, none⟩ = some (.int .i64 S) ∧ w2.cell? ⟨w.heap.size, 2, none⟩ = some (.slice (some ⟨b, o, none⟩) n c) ∧ w2.cell? ⟨b, o + j * 3, none⟩ = some (.int .i64 y0) ∧ w2.cell? ⟨b, o + j * 3 + 1, none⟩ = some (.int .i64 y1) ∧ w2.cell? ⟨b, o + j * 3 + 2, none⟩ = some (.int .i64 y2) from ⟨(hb3.cell (p := ⟨wr.heap.size, 0, none⟩) mn).trans hS0.1, (hb3.cell (p := ⟨wr.heap.size, 1, none⟩) mn).trans hS0.2.1, (hb3.cell (p := ⟨wr.heap.size, 2, none⟩) mn).trans hS0.2.2.1, (hb3.cell (p := ⟨w.heap.size, 0, none⟩) hwn).trans hS0.2.2.2.1, (hb3.cell (p := ⟨w.heap.size, 1, none⟩) hwn).trans hS0.2.2.2.2.1, (hb3.cell (p := ⟨w.heap.size, 2, none⟩) hwn).trans hS0.2.2.2.2.2.1, (hb3.cell (p := ⟨b, o + j * 3, none⟩) hbn).trans hS0.2.2.2.2.2.2.1, (hb3.cell (p := ⟨b, o + j * 3 + 1, none⟩) hbn).trans hS0.2.2.2.2.2.2.2.1, (hb3.cell (p := ⟨b, o + j * 3 + 2, none⟩) hbn).trans hS0.2.2.2.2.2.2.2.2⟩))
        go_region_held3 (fun w' => w'.cell? ⟨wr.heap.size, 0, none⟩ = some (.int .i64 x0) ∧ w'.cell? ⟨wr.heap.size, 1, none⟩ = some (.int .i64 x1) ∧ w'.cell? ⟨wr.heap.size, 2, none⟩ = some (.int .i64 x2) ∧ w'.cell? ⟨w.heap.size, 0, none⟩ = some (.int .i64 L) ∧ w'.cell? ⟨w.heap.size, 1, none⟩ = some (.int .i64 S) ∧ w'.cell? ⟨w.heap.size, 2, none⟩ = some (.slice (some ⟨b, o, none⟩) n c) ∧ w'.cell? ⟨b, o + j * 3, none⟩ = some (.int .i64 y0) ∧ w'.cell? ⟨b, o + j * 3 + 1, none⟩ = some (.int .i64 y1) ∧ w'.cell? ⟨b, o + j * 3 + 2, none⟩ = some (.int .i64 y2))
          (first | with_reducible exact hS1 | with_reducible exact hSd | with_reducible exact hS0 | go_keep)
          ((first
            | (go_at_call 54; refine (l1In_yes _ (by omega) (by omega)).mono ?_; rintro e w' ⟨rfl, rfl⟩)
            | (go_at_call 83; (with_reducible refine (Hcc.out _).mono ?_); rintro e w2 ⟨rfl, hb2'⟩; have hb3 := ((Below.refl wn.heap.size wn).drew).trans hb2'; have hS1 := HS.out w2 hb3; have Hb3 := Lib.hid (Hbn.out.trans (hb3.mono hzn)); clear hb2' hb3)
            | fail))
        go_wp2
        go_roundg g'
        case measure => omega
        case rel => exact ⟨j + 1 + 1, by go_num, by omega, HT2, Hb3.out⟩
      | false =>
        have HF := Lib.hid (show T = false from by rw [HK1.out, if_neg (by rw [HBW2.out]; simp)]; rfl)
        clear HK1 HBW2
        have HS := Lib.hid (fun (w2 : World) (hb3 : Below wn.heap.size wn w2) => (show w2.cell? ⟨wr.heap.size, 0, none⟩ = some (.int .i64 x0) ∧ w2.cell? ⟨wr.heap.size, 1, none⟩ = some (.int .i64 x1) ∧ w2.cell? ⟨wr.heap.size, 2, none⟩ = some (.int .i64 x2) ∧ w2.cell? ⟨w.heap.size, 0, none⟩ = some (.int .i64 L) ∧ w2.cell? ⟨w.heap.size, 1, none⟩ = some (.int .i64 S) ∧ w2.cell? ⟨w.heap.size, 2, none⟩ = some (.slice (some ⟨b, o, none⟩) n c) ∧ w2.cell? ⟨b, o + j * 3, none⟩ = some (.int .i64 y0) ∧ w2.cell? ⟨b, o + j * 3 + 1, none⟩ = some (.int .i64 y1) ∧ w2.cell? ⟨b, o + j * 3 + 2, none⟩ = some (.int .i64 y2) from ⟨(hb3.cell (p := ⟨wr.heap.size, 0, none⟩) mn).trans hS0.1, (hb3.cell (p := ⟨wr.heap.size, 1, none⟩) mn).trans hS0.2.1, (hb3.cell (p := ⟨wr.heap.size, 2, none⟩) mn).trans hS0.2.2.1, (hb3.cell (p := ⟨w.heap.size, 0, none⟩) hwn).trans hS0.2.2.2.1, (hb3.cell (p := ⟨w.heap.size, 1, none⟩) hwn).trans hS0.2.2.2.2.1, (hb3.cell (p := ⟨w.heap.size, 2, none⟩) hwn).trans hS0.2.2.2.2.2.1, (hb3.cell (p := ⟨b, o + j * 3, none⟩) hbn).trans hS0.2.2.2.2.2.2.1, (hb3.cell (p := ⟨b, o + j * 3 + 1, none⟩) hbn).trans hS0.2.2.2.2.2.2.2.1, (hb3.cell (p := ⟨b, o + j * 3 + 2, none⟩) hbn).trans hS0.2.2.2.2.2.2.2.2⟩))
        go_region_held3 (fun w' => w'.cell? ⟨wr.heap.size, 0, none⟩ = some (.int .i64 x0) ∧ w'.cell? ⟨wr.heap.size, 1, none⟩ = some (.int .i64 x1) ∧ w'.cell? ⟨wr.heap.size, 2, none⟩ = some (.int .i64 x2) ∧ w'.cell? ⟨w.heap.size, 0, none⟩ = some (.int .i64 L) ∧ w'.cell? ⟨w.heap.size, 1, none⟩ = some (.int .i64 S) ∧ w'.cell? ⟨w.heap.size, 2, none⟩ = some (.slice (some ⟨b, o, none⟩) n c) ∧ w'.cell? ⟨b, o + j * 3, none⟩ = some (.int .i64 y0) ∧ w'.cell? ⟨b, o + j * 3 + 1, none⟩ = some (.int .i64 y1) ∧ w'.cell? ⟨b, o + j * 3 + 2, none⟩ = some (.int .i64 y2))
          (first | with_reducible exact hS1 | with_reducible exact hSd | with_reducible exact hS0 | go_keep)
          ((first
            | (go_at_call 54; refine (l1In_yes _ (by omega) (by omega)).mono ?_; rintro e w' ⟨rfl, rfl⟩)
            | (go_at_call 83; (with_reducible refine (Hcc.out _).mono ?_); rintro e w2 ⟨rfl, hb2'⟩; have hb3 := ((Below.refl wn.heap.size wn).drew).trans hb2'; have hS1 := HS.out w2 hb3; have Hb3 := Lib.hid (Hbn.out.trans (hb3.mono hzn)); clear hb2' hb3)
            | fail))
        go_wp2
        go_ret
        exact ⟨by rw [HF.out]; rfl, Hb1.out.trans (Hb3.out.mono hz)⟩
    · have e : g = 0 := by omega
      subst e
      have HF := Lib.hid (show T = (decide (1 ≤ L ∧ L ≤ 3) && decide (1 ≤ S ∧ S ≤ 12)) from by rw [HK.out]; rfl)
      have Hbz := Lib.hid (Hb1.out.trans (hbel.mono hz))
      have r0 : wr.cell? ⟨w.heap.size, 0, none⟩ = some (.int .i64 L) := (hbel.cell (p := ⟨w.heap.size, 0, none⟩) m1).trans qq0
      have r1 : wr.cell? ⟨w.heap.size, 1, none⟩ = some (.int .i64 S) := (hbel.cell (p := ⟨w.heap.size, 1, none⟩) m1).trans qq1
      have r2 : wr.cell? ⟨w.heap.size, 2, none⟩ = some (.slice a n c) := (hbel.cell (p := ⟨w.heap.size, 2, none⟩) m1).trans qq2
      have HL2 := Lib.hid (fun w => (show Calls Try.prog 54 #[.int .i64 L, .int .i64 1, .int .i64 3] w fun e w' => e = .returned (.bool (decide (1 ≤ L ∧ L ≤ 3))) ∧ w = w' from by rw [Bool.decide_and]; exact HL.out w))
      have HS2 := Lib.hid (fun w => (show Calls Try.prog 54 #[.int .i64 S, .int .i64 1, .int .i64 12] w fun e w' => e = .returned (.bool (decide (1 ≤ S ∧ S ≤ 12))) ∧ w = w' from by rw [Bool.decide_and]; exact HS.out w))
      generalize decide (1 ≤ L ∧ L ≤ 3) = d1 at HF HL2
      generalize decide (1 ≤ S ∧ S ≤ 12) = d2 at HF HS2
      clear HK hbel hg hb1 hcell HL HS
      go_wp2_with fail
      refine (HL2.out _).mono ?_
      rintro e w' ⟨rfl, rfl⟩
      cases d1 with
      | false => go_wp2; go_ret; exact ⟨by rw [HF.out]; rfl, Hbz.out⟩
      | true =>
      go_wp2_with fail
      refine (HS2.out _).mono ?_
      rintro e w' ⟨rfl, rfl⟩
      go_wp2
      go_ret
      exact ⟨by rw [HF.out]; rfl, Hbz.out⟩
end Go.Proofs.Ytcilgihmaaobeaa
end

section
namespace Go.Proofs.Ytcilgihmaaobeaa
open Go.RowKit Go.Deep Go.Sd

def resB (xs : List Arc3) (k : Nat) : Bool := decide (k = 0) || !(decide ((at3 xs (k - 1)).1 = (at3 xs k).1) && decide ((at3 xs (k - 1)).2.2 = (at3 xs k).2.2))
def resolvM (l : Lb) : Bool := isLab l && allF (resB l.2.2) l.2.2.length 0
theorem resB_first (xs : List Arc3) (n : Nat) : allF (resB xs) n 0 = allF (resB xs) (n - 1) (0 + 1) := by
  cases n with
  | zero => rfl
  | succ n =>
    show (if resB xs 0 = true then allF (resB xs) n (0 + 1) else false) = _
    rw [if_pos (by unfold resB; simp)]
    rfl
set_option maxHeartbeats 1000000 in
set_option maxRecDepth 10000 in
theorem isResolving_c {w : World} {v : Value} {l : Lb} (h : LabR w v l) :
    Calls Try.prog 57 #[v] w fun e w' => e = .returned (.bool (allF (resB l.2.2) l.2.2.length 0)) ∧ Below w.heap.size w w' := by
  obtain ⟨L, S, xs⟩ := l
  obtain ⟨va, rfl, hlen, a, c, rfl, _, _, _, hcell⟩ := h
  have HT0 := Lib.hid (show allF (resB xs) xs.length 0 = allF (resB xs) xs.length 0 from rfl)
  simp only at hcell hlen
  simp only
  obtain ⟨n, hn⟩ : ∃ n, n = xs.length := ⟨_, rfl⟩
  have Hn := Lib.hid hn
  rw [← hn] at hcell hlen HT0 ⊢
  clear hn
  obtain ⟨T, hT⟩ : ∃ T, T = allF (resB xs) n 0 := ⟨_, rfl⟩
  rw [← hT]
  have HT := Lib.hid hT
  clear hT HT0
  go_enter Try.func57, Try.ntmps57
  have q0 : (w.alloc (.cells #[.int .i64 L, .int .i64 S, .slice a n c] 26)).cell? ⟨w.heap.size, 2, none⟩ = some (.slice a n c) := by simp
  have hb1 : Below w.heap.size w (w.alloc (.cells #[.int .i64 L, .int .i64 S, .slice a n c] 26)) := (Below.refl _ _).alloc (Nat.le_refl _) _
  have m1 : w.heap.size < (w.alloc (.cells #[.int .i64 L, .int .i64 S, .slice a n c] 26)).heap.size := by simp
  go_wp2
  generalize w.alloc (.cells #[.int .i64 L, .int .i64 S, .slice a n c] 26) = w1 at *
  have Hb1 := Lib.hid hb1
  have hz := hb1.size
  go_loopg [8] n (fun g i wr => ∃ (k : Nat), i = .int .i64 k ∧ k + g = n ∧ Hid (T = allF (resB xs) g k) ∧ Below w1.heap.size w1 wr)
  case atStart => exact ⟨0, rfl, by omega, HT, Below.refl _ _⟩
  case round =>
    obtain ⟨k, rfl, hk, HK, hbel⟩ := hrel
    obtain ⟨g, hg⟩ : ∃ g, g = gk := ⟨_, rfl⟩
    rw [← hg] at HK hk
    by_cases hlt : k < n
    · obtain ⟨g', rfl⟩ : ∃ t, g = t + 1 := ⟨g - 1, by omega⟩
      have HK1 := Lib.hid (show T = if resB xs k = true then allF (resB xs) g' (k + 1) else false from HK.out)
      obtain ⟨b, o, rfl, hb, hx0⟩ := hcell (by omega)
      have r2 : wr.cell? ⟨w.heap.size, 2, none⟩ = some (.slice (some ⟨b, o, none⟩) n c) := (hbel.cell (p := ⟨w.heap.size, 2, none⟩) m1).trans q0
      have hz2 := hbel.size
      have hbr : b < wr.heap.size := by omega
      have hwr : w.heap.size < wr.heap.size := by omega
      have Hbel := Lib.hid hbel
      by_cases hk0 : k = 0
      · subst hk0
        obtain ⟨x, hx, _⟩ := at_lt (xs := xs) (k := 0) (by have := Hn.out; omega)
        obtain ⟨f0, f1, f2⟩ := hx0 0 x hx
        rw [Nat.zero_mul, Nat.add_zero] at f0 f1 f2
        have g0 : wr.cell? ⟨b, o, none⟩ = some (.int .i64 x.1) := (hbel.cell (p := ⟨b, o, none⟩) (by simp; omega)).trans ((hb1.cell (p := ⟨b, o, none⟩) hb).trans f0)
        have g1 : wr.cell? ⟨b, o + 1, none⟩ = some (.int .i64 x.2.1) := (hbel.cell (p := ⟨b, o + 1, none⟩) (by simp; omega)).trans ((hb1.cell (p := ⟨b, o + 1, none⟩) hb).trans f1)
        have g2 : wr.cell? ⟨b, o + 2, none⟩ = some (.int .i64 x.2.2) := (hbel.cell (p := ⟨b, o + 2, none⟩) (by simp; omega)).trans ((hb1.cell (p := ⟨b, o + 2, none⟩) hb).trans f2)
        have HT2 := Lib.hid (show T = allF (resB xs) g' (0 + 1) from by rw [HK1.out, if_pos (by unfold resB; simp)])
        clear HK HK1 hx0 hcell hx f0 f1 f2 hbel hb1
        obtain ⟨x0, x1, x2⟩ := x
        simp only at g0 g1 g2
        go_wp2
        go_quiet (fail)
        go_wp2
        go_roundg g'
        case measure => omega
        case rel => exact ⟨0 + 1, by go_num, by omega, HT2, below_drewN (Hbel.out.alloc hz2 _) _⟩
      obtain ⟨j, rfl⟩ : ∃ j, k = j + 1 := ⟨k - 1, by omega⟩
      obtain ⟨x, hx, _⟩ := at_lt (xs := xs) (k := j + 1) (by have := Hn.out; omega)
      obtain ⟨f0, f1, f2⟩ := hx0 (j + 1) x hx
      have g0 : wr.cell? ⟨b, o + (j + 1) * 3, none⟩ = some (.int .i64 x.1) := (hbel.cell (p := ⟨b, o + (j + 1) * 3, none⟩) (by simp; omega)).trans ((hb1.cell (p := ⟨b, o + (j + 1) * 3, none⟩) hb).trans f0)
      have g1 : wr.cell? ⟨b, o + (j + 1) * 3 + 1, none⟩ = some (.int .i64 x.2.1) := (hbel.cell (p := ⟨b, o + (j + 1) * 3 + 1, none⟩) (by simp; omega)).trans ((hb1.cell (p := ⟨b, o + (j + 1) * 3 + 1, none⟩) hb).trans f1)
      have g2 : wr.cell? ⟨b, o + (j + 1) * 3 + 2, none⟩ = some (.int .i64 x.2.2) := (hbel.cell (p := ⟨b, o + (j + 1) * 3 + 2, none⟩) (by simp; omega)).trans ((hb1.cell (p := ⟨b, o + (j + 1) * 3 + 2, none⟩) hb).trans f2)
      obtain ⟨y, hy, _⟩ := at_lt (xs := xs) (k := j) (by have := Hn.out; omega)
      obtain ⟨e0, e1, e2⟩ := hx0 (j) y hy
      have p0 : wr.cell? ⟨b, o + (j) * 3, none⟩ = some (.int .i64 y.1) := (hbel.cell (p := ⟨b, o + (j) * 3, none⟩) (by simp; omega)).trans ((hb1.cell (p := ⟨b, o + (j) * 3, none⟩) hb).trans e0)
      have p1 : wr.cell? ⟨b, o + (j) * 3 + 1, none⟩ = some (.int .i64 y.2.1) := (hbel.cell (p := ⟨b, o + (j) * 3 + 1, none⟩) (by simp; omega)).trans ((hb1.cell (p := ⟨b, o + (j) * 3 + 1, none⟩) hb).trans e1)
      have p2 : wr.cell? ⟨b, o + (j) * 3 + 2, none⟩ = some (.int .i64 y.2.2) := (hbel.cell (p := ⟨b, o + (j) * 3 + 2, none⟩) (by simp; omega)).trans ((hb1.cell (p := ⟨b, o + (j) * 3 + 2, none⟩) hb).trans e2)
      have HB := Lib.hid (show resB xs (j + 1) = !(decide (y.1 = x.1) && decide (y.2.2 = x.2.2)) from by unfold resB; rw [show j + 1 - 1 = j from rfl, at3_of hx, at3_of hy]; simp)
      have hjn : (j : Int) < (n : Int) := by omega
      have hjn1 : (j : Int) + 1 < (n : Int) := by omega
      clear HK hx0 hcell hx hy f0 f1 f2 e0 e1 e2 hbel hb1
      obtain ⟨x0, x1, x2⟩ := x
      obtain ⟨y0, y1, y2⟩ := y
      simp only at g0 g1 g2 p0 p1 p2
      by_cases hf : y0 = x0
      rotate_left
      · have HT2 := Lib.hid (show T = allF (resB xs) g' (j + 1 + 1) from by rw [HK1.out, if_pos (by rw [HB.out]; simp [hf])])
        have t1 : (y0 == x0) = false := by simp; omega
        clear HK1 HB hf
        go_wp2
        go_quiet (fail)
        go_wp2
        go_roundg g'
        case measure => omega
        case rel => exact ⟨j + 1 + 1, by go_num, by omega, HT2, below_drewN (Hbel.out.alloc hz2 _) _⟩
      by_cases hl : y2 = x2
      rotate_left
      · have HT2 := Lib.hid (show T = allF (resB xs) g' (j + 1 + 1) from by rw [HK1.out, if_pos (by rw [HB.out]; simp [hl])])
        have t1 : (y0 == x0) = true := by simp [hf]
        have t2 : (y2 == x2) = false := by simp; omega
        clear HK1 HB hf hl
        go_wp2
        go_quiet (fail)
        go_wp2
        go_roundg g'
        case measure => omega
        case rel => exact ⟨j + 1 + 1, by go_num, by omega, HT2, below_drewN (Hbel.out.alloc hz2 _) _⟩
      have HF := Lib.hid (show T = false from by rw [HK1.out, if_neg (by rw [HB.out]; simp [hf, hl])])
      have t1 : (y0 == x0) = true := by simp [hf]
      have t2 : (y2 == x2) = true := by simp [hl]
      clear HK1 HB hf hl
      go_wp2
      go_quiet (fail)
      go_wp2
      go_ret
      exact ⟨by rw [HF.out]; rfl, below_drewN ((Hb1.out.trans (Hbel.out.mono hz)).alloc (Nat.le_of_lt hwr) _) _⟩
    · have e : g = 0 := by omega
      subst e
      have HF := Lib.hid (show T = true from HK.out)
      have Hbz := Lib.hid (Hb1.out.trans (hbel.mono hz))
      have r2 : wr.cell? ⟨w.heap.size, 2, none⟩ = some (.slice a n c) := (hbel.cell (p := ⟨w.heap.size, 2, none⟩) m1).trans q0
      clear HK hbel hg hb1 hcell
      go_wp2
      go_ret
      exact ⟨by rw [HF.out]; rfl, Hbz.out⟩
set_option maxHeartbeats 1000000 in
set_option maxRecDepth 10000 in
theorem l15Resolving_c {w : World} {v : Value} {l : Lb} (h : LabR w v l) :
    Calls Try.prog 58 #[v] w fun e w' => e = .returned (.bool (allF (resB l.2.2) l.2.2.length 0)) ∧ Below w.heap.size w w' := by
  obtain ⟨L, S, xs⟩ := l
  obtain ⟨va, rfl, hlen, a, c, rfl, _, _, _, hcell⟩ := h
  have HT0 := Lib.hid (show allF (resB xs) xs.length 0 = allF (resB xs) xs.length 0 from rfl)
  simp only at hcell hlen
  simp only
  obtain ⟨n, hn⟩ : ∃ n, n = xs.length := ⟨_, rfl⟩
  have Hn := Lib.hid hn
  rw [← hn] at hcell hlen HT0 ⊢
  clear hn
  obtain ⟨T, hT⟩ : ∃ T, T = allF (resB xs) n 0 := ⟨_, rfl⟩
  rw [← hT]
  have HT := Lib.hid hT
  clear hT HT0
  go_enter Try.func58, Try.ntmps58
  have q0 : (w.alloc (.cells #[.int .i64 L, .int .i64 S, .slice a n c] 26)).cell? ⟨w.heap.size, 2, none⟩ = some (.slice a n c) := by simp
  have hb1 : Below w.heap.size w (w.alloc (.cells #[.int .i64 L, .int .i64 S, .slice a n c] 26)) := (Below.refl _ _).alloc (Nat.le_refl _) _
  have m1 : w.heap.size < (w.alloc (.cells #[.int .i64 L, .int .i64 S, .slice a n c] 26)).heap.size := by simp
  go_wp2
  generalize w.alloc (.cells #[.int .i64 L, .int .i64 S, .slice a n c] 26) = w1 at *
  have Hb1 := Lib.hid hb1
  have hz := hb1.size
  go_loopg [3] (n - 1) (fun g i wr => ∃ (k : Nat), i = .int .i64 ((k : Int) + 1) ∧ (k + 1 + g = n ∨ n = 0 ∧ g = 0) ∧ Hid (T = allF (resB xs) g (k + 1)) ∧ Below w1.heap.size w1 wr)
  case atStart => exact ⟨0, rfl, by omega, Lib.hid (by rw [HT.out]; exact resB_first xs n), Below.refl _ _⟩
  case round =>
    obtain ⟨k, rfl, hk, HK, hbel⟩ := hrel
    obtain ⟨g, hg⟩ : ∃ g, g = gk := ⟨_, rfl⟩
    rw [← hg] at HK hk
    by_cases hlt : k + 1 < n
    · obtain ⟨g', rfl⟩ : ∃ t, g = t + 1 := ⟨g - 1, by omega⟩
      obtain ⟨j, rfl⟩ : ∃ j, j = k := ⟨_, rfl⟩
      have HK1 := Lib.hid (show T = if resB xs (j + 1) = true then allF (resB xs) g' (j + 1 + 1) else false from HK.out)
      obtain ⟨b, o, rfl, hb, hx0⟩ := hcell (by omega)
      have r2 : wr.cell? ⟨w.heap.size, 2, none⟩ = some (.slice (some ⟨b, o, none⟩) n c) := (hbel.cell (p := ⟨w.heap.size, 2, none⟩) m1).trans q0
      have hz2 := hbel.size
      have hbr : b < wr.heap.size := by omega
      have hwr : w.heap.size < wr.heap.size := by omega
      have Hbel := Lib.hid hbel
      obtain ⟨x, hx, _⟩ := at_lt (xs := xs) (k := j + 1) (by have := Hn.out; omega)
      obtain ⟨f0, f1, f2⟩ := hx0 (j + 1) x hx
      have g0 : wr.cell? ⟨b, o + (j + 1) * 3, none⟩ = some (.int .i64 x.1) := (hbel.cell (p := ⟨b, o + (j + 1) * 3, none⟩) (by simp; omega)).trans ((hb1.cell (p := ⟨b, o + (j + 1) * 3, none⟩) hb).trans f0)
      have g1 : wr.cell? ⟨b, o + (j + 1) * 3 + 1, none⟩ = some (.int .i64 x.2.1) := (hbel.cell (p := ⟨b, o + (j + 1) * 3 + 1, none⟩) (by simp; omega)).trans ((hb1.cell (p := ⟨b, o + (j + 1) * 3 + 1, none⟩) hb).trans f1)
      have g2 : wr.cell? ⟨b, o + (j + 1) * 3 + 2, none⟩ = some (.int .i64 x.2.2) := (hbel.cell (p := ⟨b, o + (j + 1) * 3 + 2, none⟩) (by simp; omega)).trans ((hb1.cell (p := ⟨b, o + (j + 1) * 3 + 2, none⟩) hb).trans f2)
      obtain ⟨y, hy, _⟩ := at_lt (xs := xs) (k := j) (by have := Hn.out; omega)
      obtain ⟨e0, e1, e2⟩ := hx0 (j) y hy
      have p0 : wr.cell? ⟨b, o + (j) * 3, none⟩ = some (.int .i64 y.1) := (hbel.cell (p := ⟨b, o + (j) * 3, none⟩) (by simp; omega)).trans ((hb1.cell (p := ⟨b, o + (j) * 3, none⟩) hb).trans e0)
      have p1 : wr.cell? ⟨b, o + (j) * 3 + 1, none⟩ = some (.int .i64 y.2.1) := (hbel.cell (p := ⟨b, o + (j) * 3 + 1, none⟩) (by simp; omega)).trans ((hb1.cell (p := ⟨b, o + (j) * 3 + 1, none⟩) hb).trans e1)
      have p2 : wr.cell? ⟨b, o + (j) * 3 + 2, none⟩ = some (.int .i64 y.2.2) := (hbel.cell (p := ⟨b, o + (j) * 3 + 2, none⟩) (by simp; omega)).trans ((hb1.cell (p := ⟨b, o + (j) * 3 + 2, none⟩) hb).trans e2)
      have HB := Lib.hid (show resB xs (j + 1) = !(decide (y.1 = x.1) && decide (y.2.2 = x.2.2)) from by unfold resB; rw [show j + 1 - 1 = j from rfl, at3_of hx, at3_of hy]; simp)
      have hjn : (j : Int) < (n : Int) := by omega
      have hjn1 : (j : Int) + 1 < (n : Int) := by omega
      clear HK hx0 hcell hx hy f0 f1 f2 e0 e1 e2 hbel hb1
      obtain ⟨x0, x1, x2⟩ := x
      obtain ⟨y0, y1, y2⟩ := y
      simp only at g0 g1 g2 p0 p1 p2
      by_cases hf : y0 = x0
      rotate_left
      · have HT2 := Lib.hid (show T = allF (resB xs) g' (j + 1 + 1) from by rw [HK1.out, if_pos (by rw [HB.out]; simp [hf])])
        have t1 : (x0 == y0) = false := by simp; omega
        clear HK1 HB hf
        go_wp2
        go_quiet (fail)
        go_wp2
        go_roundg g'
        case measure => omega
        case rel => exact ⟨j + 1, by go_num, by omega, HT2, below_drewN Hbel.out _⟩
      by_cases hl : y2 = x2
      rotate_left
      · have HT2 := Lib.hid (show T = allF (resB xs) g' (j + 1 + 1) from by rw [HK1.out, if_pos (by rw [HB.out]; simp [hl])])
        have t1 : (x0 == y0) = true := by simp [hf]
        have t2 : (x2 == y2) = false := by simp; omega
        clear HK1 HB hf hl
        go_wp2
        go_quiet (fail)
        go_wp2
        go_roundg g'
        case measure => omega
        case rel => exact ⟨j + 1, by go_num, by omega, HT2, below_drewN Hbel.out _⟩
      have HF := Lib.hid (show T = false from by rw [HK1.out, if_neg (by rw [HB.out]; simp [hf, hl])])
      have t1 : (x0 == y0) = true := by simp [hf]
      have t2 : (x2 == y2) = true := by simp [hl]
      clear HK1 HB hf hl
      go_wp2
      go_quiet (fail)
      go_wp2
      go_ret
      exact ⟨by rw [HF.out]; rfl, below_drewN (Hb1.out.trans (Hbel.out.mono hz)) _⟩
    · have e : g = 0 := by omega
      subst e
      have HF := Lib.hid (show T = true from HK.out)
      have Hbz := Lib.hid (Hb1.out.trans (hbel.mono hz))
      have r2 : wr.cell? ⟨w.heap.size, 2, none⟩ = some (.slice a n c) := (hbel.cell (p := ⟨w.heap.size, 2, none⟩) m1).trans q0
      clear HK hbel hg hb1 hcell
      go_wp2
      go_ret
      exact ⟨by rw [HF.out]; rfl, Hbz.out⟩
set_option maxHeartbeats 400000 in
theorem impl_IsResolving_c {w : World} {v : Value} {l : Lb} (h : LabR w v l) :
    Calls Try.prog 20 #[v] w fun e w' => e = .returned (.bool (resolvM l)) ∧ Below w.heap.size w w' := by
  have H := Lib.hid (show resolvM l = (isLab l && allF (resB l.2.2) l.2.2.length 0) from rfl)
  have H1 := Lib.hid (fun w1 (hb : Below w.heap.size w w1) => impl_IsLabels_c (LabR.frame _ _ _ _ h hb))
  have H2 := Lib.hid (fun w1 (hb : Below w.heap.size w w1) => isResolving_c (LabR.frame _ _ _ _ h hb))
  generalize resolvM l = T at H ⊢
  generalize isLab l = p at H H1
  generalize allF (resB l.2.2) l.2.2.length 0 = q at H H2
  obtain ⟨L, S, xs⟩ := l
  obtain ⟨va, rfl, _, a, c, rfl, _, _, _, _⟩ := h
  simp only at *
  go_enter Try.func20, Try.ntmps20
  go_wp2_with fail
  obtain ⟨w1, ex, A0, c0, c1, c2, m1⟩ := boxA3_ex w 26 (.int .i64 L) (.int .i64 S) (.slice a xs.length c)
  change Calls Try.prog _ _ (w.alloc (.cells #[.int .i64 L, .int .i64 S, .slice a xs.length c] 26)) _
  rw [ex]
  clear ex
  refine (H1.out _ A0).mono ?_
  rintro e w2 ⟨rfl, hb2⟩
  replace c0 := (hb2.cell (p := ⟨w.heap.size, 0, none⟩) m1).trans c0
  replace c1 := (hb2.cell (p := ⟨w.heap.size, 1, none⟩) m1).trans c1
  replace c2 := (hb2.cell (p := ⟨w.heap.size, 2, none⟩) m1).trans c2
  replace A0 := A0.trans (hb2.mono A0.size)
  clear hb2
  cases p with
  | false => go_wp2; go_ret; exact ⟨by rw [H.out]; rfl, A0⟩
  | true =>
  go_wp2_with fail
  refine (H2.out _ A0).mono ?_
  rintro e w3 ⟨rfl, hb3⟩
  replace A0 := A0.trans (hb3.mono A0.size)
  clear hb3
  go_wp2
  go_ret
  exact ⟨by rw [H.out]; rfl, A0⟩
set_option maxHeartbeats 400000 in
theorem spec_IsResolving_c {w : World} {v : Value} {l : Lb} (h : LabR w v l) :
    Calls Try.prog 21 #[v] w fun e w' => e = .returned (.bool (resolvM l)) ∧ Below w.heap.size w w' := by
  have H := Lib.hid (show resolvM l = (isLab l && allF (resB l.2.2) l.2.2.length 0) from rfl)
  have H1 := Lib.hid (fun w1 (hb : Below w.heap.size w w1) => spec_IsLabels_c (LabR.frame _ _ _ _ h hb))
  have H2 := Lib.hid (fun w1 (hb : Below w.heap.size w w1) => l15Resolving_c (LabR.frame _ _ _ _ h hb))
  generalize resolvM l = T at H ⊢
  generalize isLab l = p at H H1
  generalize allF (resB l.2.2) l.2.2.length 0 = q at H H2
  obtain ⟨L, S, xs⟩ := l
  obtain ⟨va, rfl, _, a, c, rfl, _, _, _, _⟩ := h
  simp only at *
  go_enter Try.func21, Try.ntmps21
  go_wp2_with fail
  obtain ⟨w1, ex, A0, c0, c1, c2, m1⟩ := boxA3_ex w 26 (.int .i64 L) (.int .i64 S) (.slice a xs.length c)
  change Calls Try.prog _ _ (w.alloc (.cells #[.int .i64 L, .int .i64 S, .slice a xs.length c] 26)) _
  rw [ex]
  clear ex
  refine (H1.out _ A0).mono ?_
  rintro e w2 ⟨rfl, hb2⟩
  replace c0 := (hb2.cell (p := ⟨w.heap.size, 0, none⟩) m1).trans c0
  replace c1 := (hb2.cell (p := ⟨w.heap.size, 1, none⟩) m1).trans c1
  replace c2 := (hb2.cell (p := ⟨w.heap.size, 2, none⟩) m1).trans c2
  replace A0 := A0.trans (hb2.mono A0.size)
  clear hb2
  cases p with
  | false => go_wp2; go_ret; exact ⟨by rw [H.out]; rfl, A0⟩
  | true =>
  go_wp2_with fail
  refine (H2.out _ A0).mono ?_
  rintro e w3 ⟨rfl, hb3⟩
  replace A0 := A0.trans (hb3.mono A0.size)
  clear hb3
  go_wp2
  go_ret
  exact ⟨by rw [H.out]; rfl, A0⟩
end Go.Proofs.Ytcilgihmaaobeaa
end

section
namespace Go.Proofs.Ytcilgihmaaobeaa
open Go.RowKit Go.Deep Go.Sd

def letB (k : Int) : List UInt8 → Bool
  | [] => true
  | c :: l => if 97 ≤ c.toNat ∧ (c.toNat : Int) - 97 < k then letB k l else false
def wordM (k : Int) (s : ByteArray) : Bool := decide (1 ≤ k ∧ k ≤ 3) && (decide (s.size ≤ 16) && letB k s.data.toList)
theorem str_len (s : ByteArray) : s.data.toList.length = s.size := by show s.data.toList.length = s.data.size; exact Array.length_toList
theorem str_drop (s : ByteArray) (k : Nat) (h : k < s.size) : s.data.toList.drop k = s[k] :: s.data.toList.drop (k + 1) := by
  have h1 : k < s.data.toList.length := by rw [str_len]; exact h
  rw [List.drop_eq_getElem_cons h1]
  rfl
theorem str_end (s : ByteArray) (k : Nat) (h : ¬ k < s.size) : s.data.toList.drop k = [] := List.drop_eq_nil_of_le (by rw [str_len]; omega)
theorem byte_lt (c : UInt8) : c.toNat < 256 := c.toNat_lt

set_option maxHeartbeats 1000000 in
theorem spec_IsWord_c (k : Int) (s : ByteArray) (w : World) (hs : s.size ≤ maxLen) :
    Calls Try.prog 87 #[.int .i64 k, .string s] w fun e w' => e = .returned (.bool (wordM k s)) ∧ w = w' := by
  unfold maxLen at hs
  have Hl := Lib.hid (fun w => (show Calls Try.prog 54 #[.int .i64 k, .int .i64 1, .int .i64 3] w fun e w' => e = .returned (.bool (decide (1 ≤ k ∧ k ≤ 3))) ∧ w = w' from by rw [Bool.decide_and]; exact l1In_c k 1 3 w))
  have H0 := Lib.hid (show wordM k s = (letB k (s.data.toList.drop 0) && (decide (1 ≤ k ∧ k ≤ 3) && decide (s.size ≤ 16))) from by
    show (decide (1 ≤ k ∧ k ≤ 3) && (decide (s.size ≤ 16) && letB k s.data.toList)) = (letB k s.data.toList && (decide (1 ≤ k ∧ k ≤ 3) && decide (s.size ≤ 16)))
    cases letB k s.data.toList <;> simp)
  generalize wordM k s = T at H0 ⊢
  generalize decide (1 ≤ k ∧ k ≤ 3) = kb at H0 Hl
  go_enter Try.func87, Try.ntmps87
  go_wp2
  go_loopg [5] (s.size) (fun g i wr => ∃ (j : Nat), i = .int .i64 j ∧ j + g = s.size ∧ Hid (T = (letB k (s.data.toList.drop j) && (kb && decide (s.size ≤ 16)))) ∧ w = wr)
  case atStart => exact ⟨0, rfl, by omega, H0, rfl⟩
  case round =>
    obtain ⟨j, rfl, hj, HK, rfl⟩ := hrel
    by_cases hlt : j < s.size
    · have HK1 := Lib.hid (show T = ((if 97 ≤ s[j].toNat ∧ (s[j].toNat : Int) - 97 < k then letB k (s.data.toList.drop (j + 1)) else false) && (kb && decide (s.size ≤ 16))) from by rw [HK.out, str_drop s j hlt]; rfl)
      have hc := byte_lt s[j]
      clear HK H0
      by_cases h1 : 97 ≤ s[j].toNat
      · by_cases h2 : (s[j].toNat : Int) - 97 < k
        · have HK2 := Lib.hid (show T = (letB k (s.data.toList.drop (j + 1)) && (kb && decide (s.size ≤ 16))) from by rw [HK1.out, if_pos ⟨h1, h2⟩])
          clear HK1
          go_wp2
          go_roundg (s.size - (j + 1))
          case measure => omega
          case rel => exact ⟨j + 1, by go_num, by omega, HK2, rfl⟩
        · have HK2 := Lib.hid (show T = false from by rw [HK1.out, if_neg (fun h => h2 h.2)]; rfl)
          clear HK1
          go_wp2
          go_ret
          exact ⟨by rw [HK2.out]; rfl, rfl⟩
      · have HK2 := Lib.hid (show T = false from by rw [HK1.out, if_neg (fun h => h1 h.1)]; rfl)
        clear HK1
        go_wp2
        go_ret
        exact ⟨by rw [HK2.out]; rfl, rfl⟩
    · have HF := Lib.hid (show T = (kb && decide (s.size ≤ 16)) from by rw [HK.out, str_end s j hlt]; rfl)
      clear HK H0
      cases kb with
      | false =>
        go_wp2_with fail
        refine (Hl.out _).mono ?_
        rintro e w' ⟨rfl, rfl⟩
        go_wp2
        go_ret
        exact ⟨by rw [HF.out]; rfl, rfl⟩
      | true =>
        by_cases h16 : s.size ≤ 16
        · have HG := Lib.hid (show T = true from by rw [HF.out, decide_eq_true h16]; rfl)
          have d16 : decide ((s.size : Int) ≤ 16) = true := decide_eq_true (by omega)
          go_wp2_with fail
          refine (Hl.out _).mono ?_
          rintro e w' ⟨rfl, rfl⟩
          go_wp2
          go_ret
          exact ⟨by rw [HG.out]; rfl, rfl⟩
        · have HG := Lib.hid (show T = false from by rw [HF.out, decide_eq_false h16]; rfl)
          have d16 : decide ((s.size : Int) ≤ 16) = false := decide_eq_false (by omega)
          go_wp2_with fail
          refine (Hl.out _).mono ?_
          rintro e w' ⟨rfl, rfl⟩
          go_wp2
          go_ret
          exact ⟨by rw [HG.out]; rfl, rfl⟩
end Go.Proofs.Ytcilgihmaaobeaa
end
