/-
  Laws for this claim's walks, contracts of the functions that it reaches.
-/
import Derived.Test.YtcilgihmaaobeaaGreatDoorFnLabelsM10
set_option linter.unusedVariables false
set_option linter.unusedSimpArgs false
section
namespace Go.Proofs.YtcilgihmaaobeaaGreatDoor
open Go.RowKit Go.Deep Go.Sd

theorem isLetters_c (k : Int) (w : World) : Calls Tryz.prog 64 #[.int .i64 k] w fun e w' => e = .returned (.bool (decide (1 ≤ k ∧ k ≤ 3))) ∧ w = w' := by
  by_cases h1 : 1 ≤ k
  · by_cases h2 : k ≤ 3
    · have H := Lib.hid (show decide (1 ≤ k ∧ k ≤ 3) = true from decide_eq_true ⟨h1, h2⟩)
      generalize decide (1 ≤ k ∧ k ≤ 3) = T at H ⊢
      go_enter Tryz.func64, Tryz.ntmps64
      go_wp2
      go_ret
      exact ⟨by rw [H.out]; rfl, rfl⟩
    · have H := Lib.hid (show decide (1 ≤ k ∧ k ≤ 3) = false from decide_eq_false (by omega))
      generalize decide (1 ≤ k ∧ k ≤ 3) = T at H ⊢
      go_enter Tryz.func64, Tryz.ntmps64
      go_wp2
      go_ret
      exact ⟨by rw [H.out]; rfl, rfl⟩
  · have H := Lib.hid (show decide (1 ≤ k ∧ k ≤ 3) = false from decide_eq_false (by omega))
    generalize decide (1 ≤ k ∧ k ≤ 3) = T at H ⊢
    go_enter Tryz.func64, Tryz.ntmps64
    go_wp2
    go_ret
    exact ⟨by rw [H.out]; rfl, rfl⟩
set_option maxHeartbeats 8000000 in
set_option maxRecDepth 10000 in
theorem impl_IsLabels_c {w : World} {v : Value} {l : Lb} (h : LabR w v l) :
    Calls Tryz.prog 27 #[v] w fun e w' => e = .returned (.bool (isLab l)) ∧ Below w.heap.size w w' := by
  obtain ⟨L, S, xs⟩ := l
  obtain ⟨va, rfl, hlen, a, c, rfl, _, _, _, hcell⟩ := h
  have H := Lib.hid (show isLab (L, S, xs) = (decide (1 ≤ L ∧ L ≤ 3) && (decide (1 ≤ S ∧ S ≤ 12) && allF (arcB L S xs) xs.length 0)) from rfl)
  generalize isLab (L, S, xs) = T at H ⊢
  have Hl := Lib.hid (fun w => isLetters_c L w)
  obtain ⟨n, hn⟩ : ∃ n, n = xs.length := ⟨_, rfl⟩
  have Hn := Lib.hid hn
  simp only at hcell hlen
  simp only
  rw [← hn] at hcell hlen H ⊢
  clear hn
  by_cases hL : 1 ≤ L ∧ L ≤ 3
  rotate_left
  · have HT := Lib.hid (show T = false from by rw [H.out, decide_eq_false hL]; rfl)
    rw [decide_eq_false hL] at Hl
    clear H hL
    go_enter Tryz.func27, Tryz.ntmps27
    go_wp2_with fail
    refine (Hl.out _).mono ?_
    rintro e w' ⟨rfl, rfl⟩
    go_wp2
    go_ret
    exact ⟨by rw [HT.out]; rfl, (Below.refl _ _).alloc (Nat.le_refl _) _⟩
  rw [decide_eq_true hL] at Hl H
  by_cases hS : 1 ≤ S ∧ S ≤ 12
  rotate_left
  · have HT := Lib.hid (show T = false from by rw [H.out, decide_eq_false hS]; rfl)
    clear H hL
    by_cases h1 : S < 1
    · clear hS
      go_enter Tryz.func27, Tryz.ntmps27
      go_wp2_with fail
      refine (Hl.out _).mono ?_
      rintro e w' ⟨rfl, rfl⟩
      go_wp2
      go_ret
      exact ⟨by rw [HT.out]; rfl, (Below.refl _ _).alloc (Nat.le_refl _) _⟩
    · have h2 : 12 < S := by omega
      clear hS
      go_enter Tryz.func27, Tryz.ntmps27
      go_wp2_with fail
      refine (Hl.out _).mono ?_
      rintro e w' ⟨rfl, rfl⟩
      go_wp2
      go_ret
      exact ⟨by rw [HT.out]; rfl, (Below.refl _ _).alloc (Nat.le_refl _) _⟩
  have HT := Lib.hid (show T = allF (arcB L S xs) n 0 from by rw [H.out, decide_eq_true hS]; rfl)
  obtain ⟨hS1, hS2⟩ := hS
  obtain ⟨hL1, hL2⟩ := hL
  clear H
  go_enter Tryz.func27, Tryz.ntmps27
  go_wp2_with fail
  obtain ⟨w1, ex, hb1, q0, q1, q2, m1⟩ := boxA3_ex w 26 (.int .i64 L) (.int .i64 S) (.slice a n c)
  change Calls Tryz.prog _ _ (w.alloc (.cells #[.int .i64 L, .int .i64 S, .slice a n c] 26)) _
  rw [ex]
  clear ex
  refine (Hl.out _).mono ?_
  rintro e w' ⟨rfl, rfl⟩
  have Hb1 := Lib.hid hb1
  have hz := hb1.size
  go_wp2
  go_loopg [22] n (fun g i wr => ∃ (k : Nat), i = .int .i64 k ∧ k + g = n ∧ Hid (T = allF (arcB L S xs) g k) ∧ Below w1.heap.size w1 wr)
  case atStart => exact ⟨0, rfl, by omega, HT, Below.refl _ _⟩
  case round =>
    obtain ⟨k, rfl, hk, HK, hbel⟩ := hrel
    obtain ⟨g, hg⟩ : ∃ g, g = gk := ⟨_, rfl⟩
    rw [← hg] at HK hk
    by_cases hlt : k < n
    · obtain ⟨g', rfl⟩ : ∃ t, g = t + 1 := ⟨g - 1, by omega⟩
      have HK1 := Lib.hid (show T = if arcB L S xs k = true then allF (arcB L S xs) g' (k + 1) else false from HK.out)
      obtain ⟨b, o, rfl, hb, hx0⟩ := hcell (by omega)
      obtain ⟨x, hx, _⟩ := at_lt (xs := xs) (k := k) (by have := Hn.out; omega)
      obtain ⟨f0, f1, f2⟩ := hx0 k x hx
      have g0 : wr.cell? ⟨b, o + k * 3, none⟩ = some (.int .i64 x.1) := (hbel.cell (p := ⟨b, o + k * 3, none⟩) (by simp; omega)).trans ((hb1.cell (p := ⟨b, o + k * 3, none⟩) hb).trans f0)
      have g1 : wr.cell? ⟨b, o + k * 3 + 1, none⟩ = some (.int .i64 x.2.1) := (hbel.cell (p := ⟨b, o + k * 3 + 1, none⟩) (by simp; omega)).trans ((hb1.cell (p := ⟨b, o + k * 3 + 1, none⟩) hb).trans f1)
      have g2 : wr.cell? ⟨b, o + k * 3 + 2, none⟩ = some (.int .i64 x.2.2) := (hbel.cell (p := ⟨b, o + k * 3 + 2, none⟩) (by simp; omega)).trans ((hb1.cell (p := ⟨b, o + k * 3 + 2, none⟩) hb).trans f2)
      have r0 : wr.cell? ⟨w.heap.size, 0, none⟩ = some (.int .i64 L) := (hbel.cell (p := ⟨w.heap.size, 0, none⟩) m1).trans q0
      have r1 : wr.cell? ⟨w.heap.size, 1, none⟩ = some (.int .i64 S) := (hbel.cell (p := ⟨w.heap.size, 1, none⟩) m1).trans q1
      have r2 : wr.cell? ⟨w.heap.size, 2, none⟩ = some (.slice (some ⟨b, o, none⟩) n c) := (hbel.cell (p := ⟨w.heap.size, 2, none⟩) m1).trans q2
      have hz2 := hbel.size
      have hbr : b < wr.heap.size := by omega
      have hwr : w.heap.size < wr.heap.size := by omega
      have Hbel := Lib.hid hbel
      have HA := Lib.hid (at3_of hx)
      have Hcase := Lib.hid (show x.1 < 0 ∨ (0 ≤ x.1 ∧ S ≤ x.1) ∨ (0 ≤ x.1 ∧ x.1 < S ∧ x.2.1 < 0) ∨ (0 ≤ x.1 ∧ x.1 < S ∧ 0 ≤ x.2.1 ∧ S ≤ x.2.1) ∨ (0 ≤ x.1 ∧ x.1 < S ∧ 0 ≤ x.2.1 ∧ x.2.1 < S ∧ x.2.2 < 0) ∨ (0 ≤ x.1 ∧ x.1 < S ∧ 0 ≤ x.2.1 ∧ x.2.1 < S ∧ 0 ≤ x.2.2 ∧ L ≤ x.2.2) ∨ (0 ≤ x.1 ∧ x.1 < S ∧ 0 ≤ x.2.1 ∧ x.2.1 < S ∧ 0 ≤ x.2.2 ∧ x.2.2 < L) from by omega)
      by_cases hok : arcOk L S x = true
      rotate_left
      · have HF := Lib.hid (show T = false from by rw [HK1.out, if_neg (by unfold arcB; rw [HA.out, Bool.eq_false_iff.2 hok]; simp)])
        have hok2 := hok
        unfold arcOk at hok2
        rw [decide_eq_true_eq] at hok2
        have hcs := Hcase.out
        clear HK HK1 hx0 hcell hx f0 f1 f2 Hcase hok
        obtain ⟨x0, x1, x2⟩ := x
        simp only at g0 g1 g2 hok2 hcs
        rcases hcs with hcs | ⟨i0, i1⟩ | ⟨i0, i1, i2⟩ | ⟨i0, i1, i2, i3⟩ | ⟨i0, i1, i2, i3, i4⟩ | ⟨i0, i1, i2, i3, i4, i5⟩ | hcs
        · clear hok2
          have u0 : decide (x0 < 0) = true := decide_eq_true (by omega)
          go_wp2
          go_quiet (fail)
          go_wp2
          go_ret
          exact ⟨by rw [HF.out]; rfl, below_drewN (((Hb1.out.trans (Hbel.out.mono hz)).alloc (Nat.le_of_lt hwr) _)) _⟩
        · clear hok2
          have u0 : decide (x0 < 0) = false := decide_eq_false (by omega)
          have u1 : decide (S ≤ x0) = true := decide_eq_true (by omega)
          go_wp2
          go_quiet (fail)
          go_wp2
          go_ret
          exact ⟨by rw [HF.out]; rfl, below_drewN (((Hb1.out.trans (Hbel.out.mono hz)).alloc (Nat.le_of_lt hwr) _)) _⟩
        · clear hok2
          have u0 : decide (x0 < 0) = false := decide_eq_false (by omega)
          have u1 : decide (S ≤ x0) = false := decide_eq_false (by omega)
          have u2 : decide (x1 < 0) = true := decide_eq_true (by omega)
          go_wp2
          go_quiet (fail)
          go_wp2
          go_ret
          exact ⟨by rw [HF.out]; rfl, below_drewN (((Hb1.out.trans (Hbel.out.mono hz)).alloc (Nat.le_of_lt hwr) _)) _⟩
        · clear hok2
          have u0 : decide (x0 < 0) = false := decide_eq_false (by omega)
          have u1 : decide (S ≤ x0) = false := decide_eq_false (by omega)
          have u2 : decide (x1 < 0) = false := decide_eq_false (by omega)
          have u3 : decide (S ≤ x1) = true := decide_eq_true (by omega)
          go_wp2
          go_quiet (fail)
          go_wp2
          go_ret
          exact ⟨by rw [HF.out]; rfl, below_drewN (((Hb1.out.trans (Hbel.out.mono hz)).alloc (Nat.le_of_lt hwr) _)) _⟩
        · clear hok2
          have u0 : decide (x0 < 0) = false := decide_eq_false (by omega)
          have u1 : decide (S ≤ x0) = false := decide_eq_false (by omega)
          have u2 : decide (x1 < 0) = false := decide_eq_false (by omega)
          have u3 : decide (S ≤ x1) = false := decide_eq_false (by omega)
          have u4 : decide (x2 < 0) = true := decide_eq_true (by omega)
          go_wp2
          go_quiet (fail)
          go_wp2
          go_ret
          exact ⟨by rw [HF.out]; rfl, below_drewN (((Hb1.out.trans (Hbel.out.mono hz)).alloc (Nat.le_of_lt hwr) _)) _⟩
        · clear hok2
          have u0 : decide (x0 < 0) = false := decide_eq_false (by omega)
          have u1 : decide (S ≤ x0) = false := decide_eq_false (by omega)
          have u2 : decide (x1 < 0) = false := decide_eq_false (by omega)
          have u3 : decide (S ≤ x1) = false := decide_eq_false (by omega)
          have u4 : decide (x2 < 0) = false := decide_eq_false (by omega)
          have u5 : decide (L ≤ x2) = true := decide_eq_true (by omega)
          go_wp2
          go_quiet (fail)
          go_wp2
          go_ret
          exact ⟨by rw [HF.out]; rfl, below_drewN (((Hb1.out.trans (Hbel.out.mono hz)).alloc (Nat.le_of_lt hwr) _)) _⟩
        · exact absurd hcs hok2
      · have hok2 := hok
        unfold arcOk at hok2
        rw [decide_eq_true_eq] at hok2
        obtain ⟨i0, i1, i2, i3, i4, i5⟩ := hok2
        by_cases hk0 : k = 0
        · have HT2 := Lib.hid (show T = allF (arcB L S xs) g' (k + 1) from by rw [HK1.out, if_pos (by unfold arcB; rw [HA.out, hok]; simp [hk0])])
          clear HK HK1 hx0 hcell hx f0 f1 f2 Hcase hok HA
          subst hk0
          rw [Nat.zero_mul, Nat.add_zero] at g0 g1 g2
          obtain ⟨x0, x1, x2⟩ := x
          simp only at g0 g1 g2 i0 i1 i2 i3 i4 i5
          have u0 : decide (x0 < 0) = false := decide_eq_false (by omega)
          have u1 : decide (S ≤ x0) = false := decide_eq_false (by omega)
          have u2 : decide (x1 < 0) = false := decide_eq_false (by omega)
          have u3 : decide (S ≤ x1) = false := decide_eq_false (by omega)
          have u4 : decide (x2 < 0) = false := decide_eq_false (by omega)
          have u5 : decide (L ≤ x2) = false := decide_eq_false (by omega)
          go_wp2
          go_quiet (fail)
          go_wp2
          go_roundg g'
          case measure => omega
          case rel => exact ⟨0 + 1, by go_num, by omega, HT2, below_drewN ((Hbel.out.alloc hz2 _)) _⟩
        · obtain ⟨j, rfl⟩ : ∃ j, k = j + 1 := ⟨k - 1, by omega⟩
          obtain ⟨y, hy, _⟩ := at_lt (xs := xs) (k := j) (by have := Hn.out; omega)
          obtain ⟨e0, e1, e2⟩ := hx0 j y hy
          have p0 : wr.cell? ⟨b, o + j * 3, none⟩ = some (.int .i64 y.1) := (hbel.cell (p := ⟨b, o + j * 3, none⟩) (by simp; omega)).trans ((hb1.cell (p := ⟨b, o + j * 3, none⟩) hb).trans e0)
          have p1 : wr.cell? ⟨b, o + j * 3 + 1, none⟩ = some (.int .i64 y.2.1) := (hbel.cell (p := ⟨b, o + j * 3 + 1, none⟩) (by simp; omega)).trans ((hb1.cell (p := ⟨b, o + j * 3 + 1, none⟩) hb).trans e1)
          have p2 : wr.cell? ⟨b, o + j * 3 + 2, none⟩ = some (.int .i64 y.2.2) := (hbel.cell (p := ⟨b, o + j * 3 + 2, none⟩) (by simp; omega)).trans ((hb1.cell (p := ⟨b, o + j * 3 + 2, none⟩) hb).trans e2)
          have HB := Lib.hid (at3_of hy)
          have Hcm := Lib.hid (cmpA_nn y x)
          have Hcc := Lib.hid (fun w => compareArcs_c y x w)
          have HV := Lib.hid (show arcB L S xs (j + 1) = before y x from by unfold arcB; rw [HA.out, hok, show j + 1 - 1 = j from rfl, HB.out]; simp)
          clear HK hx0 hcell hx hy f0 f1 f2 e0 e1 e2 Hcase hok HA HB hk0
          obtain ⟨x0, x1, x2⟩ := x
          obtain ⟨y0, y1, y2⟩ := y
          simp only at g0 g1 g2 i0 i1 i2 i3 i4 i5 p0 p1 p2
          have u0 : decide (x0 < 0) = false := decide_eq_false (by omega)
          have u1 : decide (S ≤ x0) = false := decide_eq_false (by omega)
          have u2 : decide (x1 < 0) = false := decide_eq_false (by omega)
          have u3 : decide (S ≤ x1) = false := decide_eq_false (by omega)
          have u4 : decide (x2 < 0) = false := decide_eq_false (by omega)
          have u5 : decide (L ≤ x2) = false := decide_eq_false (by omega)
          generalize cmpA (y0, y1, y2) (x0, x1, x2) = cv at Hcm Hcc
          have hjn : (j : Int) < (n : Int) := by omega
          have hwj2 : IntKind.i64.wrap (j : Int) = (j : Int) := IntWalk.i64_in _ (by omega)
          have hj0 : (0 : Int) ≤ (j : Int) := by omega
          have hj1 : decide ((0 : Int) < (j : Int) + 1) = true := decide_eq_true (by omega)
          have hwj : IntKind.i64.wrap ((j : Int) + 1 - 1) = (j : Int) := by rw [show (j : Int) + 1 - 1 = j by omega]; exact IntWalk.i64_in _ (by omega)
          go_wp2
          obtain ⟨wn, ex, hbn0, c0, c1, c2, mn⟩ := boxA3_ex wr 68 (.int .i64 x0) (.int .i64 x1) (.int .i64 x2)
          rw [ex]
          clear ex g0 g1 g2
          have hwn : w.heap.size < wn.heap.size := by omega
          have hbn : b < wn.heap.size := by omega
          replace r0 := (hbn0.cell (p := ⟨w.heap.size, 0, none⟩) hwr).trans r0
          replace r1 := (hbn0.cell (p := ⟨w.heap.size, 1, none⟩) hwr).trans r1
          replace r2 := (hbn0.cell (p := ⟨w.heap.size, 2, none⟩) hwr).trans r2
          replace p0 := (hbn0.cell (p := ⟨b, o + j * 3, none⟩) hbr).trans p0
          replace p1 := (hbn0.cell (p := ⟨b, o + j * 3 + 1, none⟩) hbr).trans p1
          replace p2 := (hbn0.cell (p := ⟨b, o + j * 3 + 2, none⟩) hbr).trans p2
          have Hbn := Lib.hid (Hbel.out.trans (hbn0.mono hz2))
          have hS0 : wn.cell? ⟨wr.heap.size, 0, none⟩ = some (.int .i64 x0) ∧ wn.cell? ⟨wr.heap.size, 1, none⟩ = some (.int .i64 x1) ∧ wn.cell? ⟨wr.heap.size, 2, none⟩ = some (.int .i64 x2) ∧ wn.cell? ⟨w.heap.size, 0, none⟩ = some (.int .i64 L) ∧ wn.cell? ⟨w.heap.size, 1, none⟩ = some (.int .i64 S) ∧ wn.cell? ⟨w.heap.size, 2, none⟩ = some (.slice (some ⟨b, o, none⟩) n c) ∧ wn.cell? ⟨b, o + j * 3, none⟩ = some (.int .i64 y0) ∧ wn.cell? ⟨b, o + j * 3 + 1, none⟩ = some (.int .i64 y1) ∧ wn.cell? ⟨b, o + j * 3 + 2, none⟩ = some (.int .i64 y2) := ⟨c0, c1, c2, r0, r1, r2, p0, p1, p2⟩
          have hSd : wn.drew.cell? ⟨wr.heap.size, 0, none⟩ = some (.int .i64 x0) ∧ wn.drew.cell? ⟨wr.heap.size, 1, none⟩ = some (.int .i64 x1) ∧ wn.drew.cell? ⟨wr.heap.size, 2, none⟩ = some (.int .i64 x2) ∧ wn.drew.cell? ⟨w.heap.size, 0, none⟩ = some (.int .i64 L) ∧ wn.drew.cell? ⟨w.heap.size, 1, none⟩ = some (.int .i64 S) ∧ wn.drew.cell? ⟨w.heap.size, 2, none⟩ = some (.slice (some ⟨b, o, none⟩) n c) ∧ wn.drew.cell? ⟨b, o + j * 3, none⟩ = some (.int .i64 y0) ∧ wn.drew.cell? ⟨b, o + j * 3 + 1, none⟩ = some (.int .i64 y1) ∧ wn.drew.cell? ⟨b, o + j * 3 + 2, none⟩ = some (.int .i64 y2) := hS0
          have hzn : w1.heap.size ≤ wn.heap.size := by omega
          clear hbn0
          by_cases hbf : before (y0, y1, y2) (x0, x1, x2) = true
          · have HT2 := Lib.hid (show T = allF (arcB L S xs) g' (j + 1 + 1) from by rw [HK1.out, if_pos (by rw [HV.out]; exact hbf)])
            have hcv : cv < 0 := by
              have h1 : ¬ 0 ≤ cv := fun h2 => by have h3 := Hcm.out.1 h2; rw [hbf] at h3; cases h3
              omega
            clear HK1 HV Hcm hbf
            have HS := Lib.hid (fun (w2 : World) (hb3 : Below wn.heap.size wn w2) => (show w2.cell? ⟨wr.heap.size, 0, none⟩ = some (.int .i64 x0) ∧ w2.cell? ⟨wr.heap.size, 1, none⟩ = some (.int .i64 x1) ∧ w2.cell? ⟨wr.heap.size, 2, none⟩ = some (.int .i64 x2) ∧ w2.cell? ⟨w.heap.size, 0, none⟩ = some (.int .i64 L) ∧ w2.cell? ⟨w.heap.size, 1, none⟩ = some (.int .i64 S) ∧ w2.cell? ⟨w.heap.size, 2, none⟩ = some (.slice (some ⟨b, o, none⟩) n c) ∧ w2.cell? ⟨b, o + j * 3, none⟩ = some (.int .i64 y0) ∧ w2.cell? ⟨b, o + j * 3 + 1, none⟩ = some (.int .i64 y1) ∧ w2.cell? ⟨b, o + j * 3 + 2, none⟩ = some (.int .i64 y2) from ⟨(hb3.cell (p := ⟨wr.heap.size, 0, none⟩) mn).trans hS0.1, (hb3.cell (p := ⟨wr.heap.size, 1, none⟩) mn).trans hS0.2.1, (hb3.cell (p := ⟨wr.heap.size, 2, none⟩) mn).trans hS0.2.2.1, (hb3.cell (p := ⟨w.heap.size, 0, none⟩) hwn).trans hS0.2.2.2.1, (hb3.cell (p := ⟨w.heap.size, 1, none⟩) hwn).trans hS0.2.2.2.2.1, (hb3.cell (p := ⟨w.heap.size, 2, none⟩) hwn).trans hS0.2.2.2.2.2.1, (hb3.cell (p := ⟨b, o + j * 3, none⟩) hbn).trans hS0.2.2.2.2.2.2.1, (hb3.cell (p := ⟨b, o + j * 3 + 1, none⟩) hbn).trans hS0.2.2.2.2.2.2.2.1, (hb3.cell (p := ⟨b, o + j * 3 + 2, none⟩) hbn).trans hS0.2.2.2.2.2.2.2.2⟩))
            go_region_held3 (fun w' => w'.cell? ⟨wr.heap.size, 0, none⟩ = some (.int .i64 x0) ∧ w'.cell? ⟨wr.heap.size, 1, none⟩ = some (.int .i64 x1) ∧ w'.cell? ⟨wr.heap.size, 2, none⟩ = some (.int .i64 x2) ∧ w'.cell? ⟨w.heap.size, 0, none⟩ = some (.int .i64 L) ∧ w'.cell? ⟨w.heap.size, 1, none⟩ = some (.int .i64 S) ∧ w'.cell? ⟨w.heap.size, 2, none⟩ = some (.slice (some ⟨b, o, none⟩) n c) ∧ w'.cell? ⟨b, o + j * 3, none⟩ = some (.int .i64 y0) ∧ w'.cell? ⟨b, o + j * 3 + 1, none⟩ = some (.int .i64 y1) ∧ w'.cell? ⟨b, o + j * 3 + 2, none⟩ = some (.int .i64 y2))
              (first | with_reducible exact hS1 | with_reducible exact hSd | with_reducible exact hS0 | go_keep)
              ((first
                | (go_at_call 49; (with_reducible refine (Hcc.out _).mono ?_); rintro e w2 ⟨rfl, hb2'⟩; have hb3 := ((Below.refl wn.heap.size wn).drew).trans hb2'; have hS1 := HS.out w2 hb3; have Hb3 := Lib.hid (Hbn.out.trans (hb3.mono hzn)); clear hb2' hb3)
                | fail))
            go_wp2
            go_roundg g'
            case measure => omega
            case rel => exact ⟨j + 1 + 1, by go_num, by omega, HT2, Hb3.out⟩
          · have HF := Lib.hid (show T = false from by rw [HK1.out, if_neg (by rw [HV.out]; exact hbf)])
            have hcv : 0 ≤ cv := Hcm.out.2 (Bool.eq_false_iff.2 hbf)
            clear HK1 HV Hcm hbf
            have HS := Lib.hid (fun (w2 : World) (hb3 : Below wn.heap.size wn w2) => (show w2.cell? ⟨wr.heap.size, 0, none⟩ = some (.int .i64 x0) ∧ w2.cell? ⟨wr.heap.size, 1, none⟩ = some (.int .i64 x1) ∧ w2.cell? ⟨wr.heap.size, 2, none⟩ = some (.int .i64 x2) ∧ w2.cell? ⟨w.heap.size, 0, none⟩ = some (.int .i64 L) ∧ w2.cell? ⟨w.heap.size, 1, none⟩ = some (.int .i64 S) ∧ w2.cell? ⟨w.heap.size, 2, none⟩ = some (.slice (some ⟨b, o, none⟩) n c) ∧ w2.cell? ⟨b, o + j * 3, none⟩ = some (.int .i64 y0) ∧ w2.cell? ⟨b, o + j * 3 + 1, none⟩ = some (.int .i64 y1) ∧ w2.cell? ⟨b, o + j * 3 + 2, none⟩ = some (.int .i64 y2) from ⟨(hb3.cell (p := ⟨wr.heap.size, 0, none⟩) mn).trans hS0.1, (hb3.cell (p := ⟨wr.heap.size, 1, none⟩) mn).trans hS0.2.1, (hb3.cell (p := ⟨wr.heap.size, 2, none⟩) mn).trans hS0.2.2.1, (hb3.cell (p := ⟨w.heap.size, 0, none⟩) hwn).trans hS0.2.2.2.1, (hb3.cell (p := ⟨w.heap.size, 1, none⟩) hwn).trans hS0.2.2.2.2.1, (hb3.cell (p := ⟨w.heap.size, 2, none⟩) hwn).trans hS0.2.2.2.2.2.1, (hb3.cell (p := ⟨b, o + j * 3, none⟩) hbn).trans hS0.2.2.2.2.2.2.1, (hb3.cell (p := ⟨b, o + j * 3 + 1, none⟩) hbn).trans hS0.2.2.2.2.2.2.2.1, (hb3.cell (p := ⟨b, o + j * 3 + 2, none⟩) hbn).trans hS0.2.2.2.2.2.2.2.2⟩))
            go_region_held3 (fun w' => w'.cell? ⟨wr.heap.size, 0, none⟩ = some (.int .i64 x0) ∧ w'.cell? ⟨wr.heap.size, 1, none⟩ = some (.int .i64 x1) ∧ w'.cell? ⟨wr.heap.size, 2, none⟩ = some (.int .i64 x2) ∧ w'.cell? ⟨w.heap.size, 0, none⟩ = some (.int .i64 L) ∧ w'.cell? ⟨w.heap.size, 1, none⟩ = some (.int .i64 S) ∧ w'.cell? ⟨w.heap.size, 2, none⟩ = some (.slice (some ⟨b, o, none⟩) n c) ∧ w'.cell? ⟨b, o + j * 3, none⟩ = some (.int .i64 y0) ∧ w'.cell? ⟨b, o + j * 3 + 1, none⟩ = some (.int .i64 y1) ∧ w'.cell? ⟨b, o + j * 3 + 2, none⟩ = some (.int .i64 y2))
              (first | with_reducible exact hS1 | with_reducible exact hSd | with_reducible exact hS0 | go_keep)
              ((first
                | (go_at_call 49; (with_reducible refine (Hcc.out _).mono ?_); rintro e w2 ⟨rfl, hb2'⟩; have hb3 := ((Below.refl wn.heap.size wn).drew).trans hb2'; have hS1 := HS.out w2 hb3; have Hb3 := Lib.hid (Hbn.out.trans (hb3.mono hzn)); clear hb2' hb3)
                | fail))
            go_wp2
            go_ret
            exact ⟨by rw [HF.out]; rfl, Hb1.out.trans (Hb3.out.mono hz)⟩
    · have e : g = 0 := by omega
      subst e
      have HF := Lib.hid (show T = true from HK.out)
      have Hbz := Lib.hid (Hb1.out.trans (hbel.mono hz))
      clear HK hbel hg hb1 hcell
      go_wp2
      go_ret
      exact ⟨by rw [HF.out]; rfl, Hbz.out⟩
end Go.Proofs.YtcilgihmaaobeaaGreatDoor
end
