/-
  Laws for this claim's walks, contracts of the functions that it reaches.
-/
import Derived.Test.YtcilgihmaaobeaaGreatDoorFnLabelsM10
set_option linter.unusedVariables false
set_option linter.unusedSimpArgs false
section
namespace Go.Proofs.YtcilgihmaaobeaaGreatDoor
open Go.RowKit Go.Deep Go.Sd

def inW (a lim : Int) : Bool := decide (0 ≤ a) && decide (a ≤ wrap64 (lim - 1))
def arcBW (L S : Int) (xs : List Arc3) (k : Nat) : Bool := (inW (at3 xs k).1 S && (inW (at3 xs k).2.1 S && inW (at3 xs k).2.2 L)) && (decide (k = 0) || before (at3 xs (k - 1)) (at3 xs k))
theorem allF_congr {f g : Nat → Bool} (h : ∀ k, f k = g k) : ∀ m k, allF f m k = allF g m k
  | 0, _ => rfl
  | m + 1, k => by
    show (if f k = true then allF f m (k + 1) else false) = if g k = true then allF g m (k + 1) else false
    rw [h k, allF_congr h m (k + 1)]
theorem inW_of {a lim : Int} (h1 : 1 ≤ lim) (h2 : lim ≤ 12) : inW a lim = decide (0 ≤ a ∧ a < lim) := by
  unfold inW
  rw [show wrap64 (lim - 1) = lim - 1 from IntWalk.wrap64_in _ (by omega)]
  by_cases h : 0 ≤ a ∧ a < lim
  · rw [decide_eq_true h, decide_eq_true h.1, decide_eq_true (show a ≤ lim - 1 by omega)]; rfl
  · rw [decide_eq_false h]
    by_cases h3 : 0 ≤ a
    · rw [decide_eq_true h3, decide_eq_false (show ¬ a ≤ lim - 1 by omega)]; rfl
    · rw [decide_eq_false h3]; rfl
theorem inW_yes {a lim : Int} (h : inW a lim = true) : 0 ≤ a ∧ a ≤ IntKind.i64.wrap (lim - 1) := by
  unfold inW at h
  rw [← IntWalk.i64_left] at h
  rw [Bool.and_eq_true, decide_eq_true_eq, decide_eq_true_eq] at h
  exact h
theorem isLab_spec (L S : Int) (xs : List Arc3) : isLab (L, S, xs) = (allF (arcBW L S xs) xs.length 0 && (decide (1 ≤ L ∧ L ≤ 3) && decide (1 ≤ S ∧ S ≤ 12))) := by
  show (decide (1 ≤ L ∧ L ≤ 3) && (decide (1 ≤ S ∧ S ≤ 12) && allF (arcB L S xs) xs.length 0)) = _
  by_cases hL : 1 ≤ L ∧ L ≤ 3
  · by_cases hS : 1 ≤ S ∧ S ≤ 12
    · rw [allF_congr (f := arcB L S xs) (g := arcBW L S xs) fun k => by
        unfold arcB arcBW arcOk
        rw [inW_of hS.1 hS.2, inW_of hS.1 hS.2, inW_of hL.1 (by omega)]
        congr 1
        rw [← Bool.decide_and, ← Bool.decide_and]
        exact decide_eq_decide.2 ⟨fun h => ⟨⟨h.1, h.2.1⟩, ⟨h.2.2.1, h.2.2.2.1⟩, h.2.2.2.2⟩, fun h => ⟨h.1.1, h.1.2, h.2.1.1, h.2.1.2, h.2.2⟩⟩]
      rw [decide_eq_true hL, decide_eq_true hS]
      simp
    · rw [decide_eq_false hS]; simp
  · rw [decide_eq_false hL]; simp

set_option maxHeartbeats 40000000 in
set_option maxRecDepth 10000 in
theorem spec_IsLabels_c {w : World} {v : Value} {l : Lb} (h : LabR w v l) :
    Calls Tryz.prog 28 #[v] w fun e w' => e = .returned (.bool (isLab l)) ∧ Below w.heap.size w w' := by
  obtain ⟨L, S, xs⟩ := l
  obtain ⟨va, rfl, hlen, a, c, rfl, _, _, _, hcell⟩ := h
  have H := Lib.hid (isLab_spec L S xs)
  generalize isLab (L, S, xs) = T at H ⊢
  obtain ⟨n, hn⟩ : ∃ n, n = xs.length := ⟨_, rfl⟩
  have Hn := Lib.hid hn
  simp only at hcell hlen
  simp only
  rw [← hn] at hcell hlen H ⊢
  clear hn
  have HL := Lib.hid (fun w => l1In_c L 1 3 w)
  have HS := Lib.hid (fun w => l1In_c S 1 12 w)
  go_enter Tryz.func28, Tryz.ntmps28
  have qq0 : (w.alloc (.cells #[.int .i64 L, .int .i64 S, .slice a n c] 26)).cell? ⟨w.heap.size, 0, none⟩ = some (.int .i64 L) := by simp
  have qq1 : (w.alloc (.cells #[.int .i64 L, .int .i64 S, .slice a n c] 26)).cell? ⟨w.heap.size, 1, none⟩ = some (.int .i64 S) := by simp
  have qq2 : (w.alloc (.cells #[.int .i64 L, .int .i64 S, .slice a n c] 26)).cell? ⟨w.heap.size, 2, none⟩ = some (.slice a n c) := by simp
  have hb1 : Below w.heap.size w (w.alloc (.cells #[.int .i64 L, .int .i64 S, .slice a n c] 26)) := (Below.refl _ _).alloc (Nat.le_refl _) _
  have m1 : w.heap.size < (w.alloc (.cells #[.int .i64 L, .int .i64 S, .slice a n c] 26)).heap.size := by simp
  go_wp2
  generalize w.alloc (.cells #[.int .i64 L, .int .i64 S, .slice a n c] 26) = w1 at *
  have Hb1 := Lib.hid hb1
  have hz := hb1.size
  go_loopg [3] n (fun g i wr => ∃ (k : Nat), i = .int .i64 k ∧ k + g = n ∧ Hid (T = (allF (arcBW L S xs) g k && (decide (1 ≤ L ∧ L ≤ 3) && decide (1 ≤ S ∧ S ≤ 12)))) ∧ Below w1.heap.size w1 wr)
  case atStart => exact ⟨0, rfl, by omega, H, Below.refl _ _⟩
  case round =>
    obtain ⟨k, rfl, hk, HK, hbel⟩ := hrel
    obtain ⟨g, hg⟩ : ∃ g, g = gk := ⟨_, rfl⟩
    rw [← hg] at HK hk
    clear H
    by_cases hlt : k < n
    · obtain ⟨g', rfl⟩ : ∃ t, g = t + 1 := ⟨g - 1, by omega⟩
      have HK1 := Lib.hid (show T = ((if arcBW L S xs k = true then allF (arcBW L S xs) g' (k + 1) else false) && (decide (1 ≤ L ∧ L ≤ 3) && decide (1 ≤ S ∧ S ≤ 12))) from HK.out)
      obtain ⟨b, o, rfl, hb, hx0⟩ := hcell (by omega)
      obtain ⟨x, hx, _⟩ := at_lt (xs := xs) (k := k) (by have := Hn.out; omega)
      obtain ⟨f0, f1, f2⟩ := hx0 k x hx
      have g0 : wr.cell? ⟨b, o + k * 3, none⟩ = some (.int .i64 x.1) := (hbel.cell (p := ⟨b, o + k * 3, none⟩) (by simp; omega)).trans ((hb1.cell (p := ⟨b, o + k * 3, none⟩) hb).trans f0)
      have g1 : wr.cell? ⟨b, o + k * 3 + 1, none⟩ = some (.int .i64 x.2.1) := (hbel.cell (p := ⟨b, o + k * 3 + 1, none⟩) (by simp; omega)).trans ((hb1.cell (p := ⟨b, o + k * 3 + 1, none⟩) hb).trans f1)
      have g2 : wr.cell? ⟨b, o + k * 3 + 2, none⟩ = some (.int .i64 x.2.2) := (hbel.cell (p := ⟨b, o + k * 3 + 2, none⟩) (by simp; omega)).trans ((hb1.cell (p := ⟨b, o + k * 3 + 2, none⟩) hb).trans f2)
      have r0 : wr.cell? ⟨w.heap.size, 0, none⟩ = some (.int .i64 L) := (hbel.cell (p := ⟨w.heap.size, 0, none⟩) m1).trans qq0
      have r1 : wr.cell? ⟨w.heap.size, 1, none⟩ = some (.int .i64 S) := (hbel.cell (p := ⟨w.heap.size, 1, none⟩) m1).trans qq1
      have r2 : wr.cell? ⟨w.heap.size, 2, none⟩ = some (.slice (some ⟨b, o, none⟩) n c) := (hbel.cell (p := ⟨w.heap.size, 2, none⟩) m1).trans qq2
      have hz2 := hbel.size
      have hbr : b < wr.heap.size := by omega
      have hwr : w.heap.size < wr.heap.size := by omega
      have Hbel := Lib.hid hbel
      have HA := Lib.hid (at3_of hx)
      have H0 := Lib.hid (fun w => (show Calls Tryz.prog 57 #[.int .i64 x.1, .int .i64 0, .int .i64 (wrap64 (S - 1))] w fun e w' => e = .returned (.bool (inW x.1 S)) ∧ w = w' from l1In_c x.1 0 (wrap64 (S - 1)) w))
      have H1 := Lib.hid (fun w => (show Calls Tryz.prog 57 #[.int .i64 x.2.1, .int .i64 0, .int .i64 (wrap64 (S - 1))] w fun e w' => e = .returned (.bool (inW x.2.1 S)) ∧ w = w' from l1In_c x.2.1 0 (wrap64 (S - 1)) w))
      have H2 := Lib.hid (fun w => (show Calls Tryz.prog 57 #[.int .i64 x.2.2, .int .i64 0, .int .i64 (wrap64 (L - 1))] w fun e w' => e = .returned (.bool (inW x.2.2 L)) ∧ w = w' from l1In_c x.2.2 0 (wrap64 (L - 1)) w))
      have HBW := Lib.hid (show arcBW L S xs k = ((inW x.1 S && (inW x.2.1 S && inW x.2.2 L)) && (decide (k = 0) || before (at3 xs (k - 1)) x)) from by unfold arcBW; rw [HA.out])
      have Hy := Lib.hid (fun j (hj : k = j + 1) => show ∃ y, at3 xs j = y ∧ wr.cell? ⟨b, o + j * 3, none⟩ = some (.int .i64 y.1) ∧ wr.cell? ⟨b, o + j * 3 + 1, none⟩ = some (.int .i64 y.2.1) ∧ wr.cell? ⟨b, o + j * 3 + 2, none⟩ = some (.int .i64 y.2.2) from by
        obtain ⟨y, hy, _⟩ := at_lt (xs := xs) (k := j) (by have := Hn.out; omega)
        obtain ⟨e0, e1, e2⟩ := hx0 j y hy
        exact ⟨y, at3_of hy, (hbel.cell (p := ⟨b, o + j * 3, none⟩) (by simp; omega)).trans ((hb1.cell (p := ⟨b, o + j * 3, none⟩) hb).trans e0), (hbel.cell (p := ⟨b, o + j * 3 + 1, none⟩) (by simp; omega)).trans ((hb1.cell (p := ⟨b, o + j * 3 + 1, none⟩) hb).trans e1), (hbel.cell (p := ⟨b, o + j * 3 + 2, none⟩) (by simp; omega)).trans ((hb1.cell (p := ⟨b, o + j * 3 + 2, none⟩) hb).trans e2)⟩)
      clear HK hx0 hcell hx f0 f1 f2 HA hbel hb1 HL HS
      obtain ⟨x0, x1, x2⟩ := x
      simp only at g0 g1 g2 H0 H1 H2 HBW
      generalize hb0 : inW x0 S = b0 at H0 HBW
      have E0 := Lib.hid hb0
      clear hb0
      generalize hb1 : inW x1 S = b1 at H1 HBW
      have E1 := Lib.hid hb1
      clear hb1
      generalize hb2 : inW x2 L = b2 at H2 HBW
      have E2 := Lib.hid hb2
      clear hb2
      go_wp2
      obtain ⟨wn, ex, hbn0, c0, c1, c2, mn⟩ := boxA3_ex wr 68 (.int .i64 x0) (.int .i64 x1) (.int .i64 x2)
      rw [ex]
      clear ex g0 g1 g2
      have hwn : w.heap.size < wn.heap.size := by omega
      have hbn : b < wn.heap.size := by omega
      replace r0 := (hbn0.cell (p := ⟨w.heap.size, 0, none⟩) hwr).trans r0
      replace r1 := (hbn0.cell (p := ⟨w.heap.size, 1, none⟩) hwr).trans r1
      replace r2 := (hbn0.cell (p := ⟨w.heap.size, 2, none⟩) hwr).trans r2
      have Hbn := Lib.hid (Hbel.out.trans (hbn0.mono hz2))
      have hzn : w1.heap.size ≤ wn.heap.size := by omega
      have hS0 : wn.cell? ⟨wr.heap.size, 0, none⟩ = some (.int .i64 x0) ∧ wn.cell? ⟨wr.heap.size, 1, none⟩ = some (.int .i64 x1) ∧ wn.cell? ⟨wr.heap.size, 2, none⟩ = some (.int .i64 x2) ∧ wn.cell? ⟨w.heap.size, 0, none⟩ = some (.int .i64 L) ∧ wn.cell? ⟨w.heap.size, 1, none⟩ = some (.int .i64 S) ∧ wn.cell? ⟨w.heap.size, 2, none⟩ = some (.slice (some ⟨b, o, none⟩) n c) := ⟨c0, c1, c2, r0, r1, r2⟩
      have hSd : wn.drew.cell? ⟨wr.heap.size, 0, none⟩ = some (.int .i64 x0) ∧ wn.drew.cell? ⟨wr.heap.size, 1, none⟩ = some (.int .i64 x1) ∧ wn.drew.cell? ⟨wr.heap.size, 2, none⟩ = some (.int .i64 x2) ∧ wn.drew.cell? ⟨w.heap.size, 0, none⟩ = some (.int .i64 L) ∧ wn.drew.cell? ⟨w.heap.size, 1, none⟩ = some (.int .i64 S) ∧ wn.drew.cell? ⟨w.heap.size, 2, none⟩ = some (.slice (some ⟨b, o, none⟩) n c) := hS0
      have Hbn0 := Lib.hid hbn0
      have hbw := Hb1.out.trans (Hbn.out.mono hz)
      have Hbw := Lib.hid hbw
      clear hbn0 hbw
      cases b0 with
      | false =>
        have HF := Lib.hid (show T = false from by rw [HK1.out, if_neg (by rw [HBW.out]; simp)]; rfl)
        clear HK1 HBW Hy Hbn0 hS0 hSd
        have Q0 := Lib.hid (fun q => (H0.out (wn.drewN q)).mono (fun e w'' h => (⟨h.1, q, h.2.symm⟩ : e = .returned (.bool false) ∧ ∃ q', w'' = wn.drewN q')))
        refine wp_region_quiet_lit (by kernel_rfl) (by kernel_rfl) ?_
        repeat (go_big_quiet_step (fail))
        go_big_quiet_step ((with_reducible exact Q0.out _))
        repeat (go_big_quiet_step (fail))
        refine wpQuiet_nil ?_
        intro _ hw'
        obtain ⟨nq, hw''⟩ := hw'
        subst hw''
        go_wp2
        go_ret
        exact ⟨by rw [HF.out]; rfl, below_drewN Hbw.out _⟩
      | true =>
      cases b1 with
      | false =>
        have HF := Lib.hid (show T = false from by rw [HK1.out, if_neg (by rw [HBW.out]; simp)]; rfl)
        clear HK1 HBW Hy Hbn0 hS0 hSd
        have Q0 := Lib.hid (fun q => (H0.out (wn.drewN q)).mono (fun e w'' h => (⟨h.1, q, h.2.symm⟩ : e = .returned (.bool true) ∧ ∃ q', w'' = wn.drewN q')))
        have Q1 := Lib.hid (fun q => (H1.out (wn.drewN q)).mono (fun e w'' h => (⟨h.1, q, h.2.symm⟩ : e = .returned (.bool false) ∧ ∃ q', w'' = wn.drewN q')))
        refine wp_region_quiet_lit (by kernel_rfl) (by kernel_rfl) ?_
        repeat (go_big_quiet_step (fail))
        go_big_quiet_step ((with_reducible exact Q0.out _))
        repeat (go_big_quiet_step (fail))
        go_big_quiet_step ((with_reducible exact Q1.out _))
        repeat (go_big_quiet_step (fail))
        refine wpQuiet_nil ?_
        intro _ hw'
        obtain ⟨nq, hw''⟩ := hw'
        subst hw''
        go_wp2
        go_ret
        exact ⟨by rw [HF.out]; rfl, below_drewN Hbw.out _⟩
      | true =>
      cases b2 with
      | false =>
        have HF := Lib.hid (show T = false from by rw [HK1.out, if_neg (by rw [HBW.out]; simp)]; rfl)
        clear HK1 HBW Hy Hbn0 hS0 hSd
        have Q0 := Lib.hid (fun q => (H0.out (wn.drewN q)).mono (fun e w'' h => (⟨h.1, q, h.2.symm⟩ : e = .returned (.bool true) ∧ ∃ q', w'' = wn.drewN q')))
        have Q1 := Lib.hid (fun q => (H1.out (wn.drewN q)).mono (fun e w'' h => (⟨h.1, q, h.2.symm⟩ : e = .returned (.bool true) ∧ ∃ q', w'' = wn.drewN q')))
        have Q2 := Lib.hid (fun q => (H2.out (wn.drewN q)).mono (fun e w'' h => (⟨h.1, q, h.2.symm⟩ : e = .returned (.bool false) ∧ ∃ q', w'' = wn.drewN q')))
        refine wp_region_quiet_lit (by kernel_rfl) (by kernel_rfl) ?_
        repeat (go_big_quiet_step (fail))
        go_big_quiet_step ((with_reducible exact Q0.out _))
        repeat (go_big_quiet_step (fail))
        go_big_quiet_step ((with_reducible exact Q1.out _))
        repeat (go_big_quiet_step (fail))
        go_big_quiet_step ((with_reducible exact Q2.out _))
        repeat (go_big_quiet_step (fail))
        refine wpQuiet_nil ?_
        intro _ hw'
        obtain ⟨nq, hw''⟩ := hw'
        subst hw''
        go_wp2
        go_ret
        exact ⟨by rw [HF.out]; rfl, below_drewN Hbw.out _⟩
      | true =>
      by_cases hk0 : k = 0
      · have HT2 := Lib.hid (show T = (allF (arcBW L S xs) g' (k + 1) && (decide (1 ≤ L ∧ L ≤ 3) && decide (1 ≤ S ∧ S ≤ 12))) from by rw [HK1.out, if_pos (by rw [HBW.out]; simp [hk0])])
        clear HK1 HBW Hy Hbn0 hS0 hSd
        subst hk0
        have Q0 := Lib.hid (fun q => (H0.out (wn.drewN q)).mono (fun e w'' h => (⟨h.1, q, h.2.symm⟩ : e = .returned (.bool true) ∧ ∃ q', w'' = wn.drewN q')))
        have Q1 := Lib.hid (fun q => (H1.out (wn.drewN q)).mono (fun e w'' h => (⟨h.1, q, h.2.symm⟩ : e = .returned (.bool true) ∧ ∃ q', w'' = wn.drewN q')))
        have Q2 := Lib.hid (fun q => (H2.out (wn.drewN q)).mono (fun e w'' h => (⟨h.1, q, h.2.symm⟩ : e = .returned (.bool true) ∧ ∃ q', w'' = wn.drewN q')))
        refine wp_region_quiet_lit (by kernel_rfl) (by kernel_rfl) ?_
        repeat (go_big_quiet_step (fail))
        go_big_quiet_step ((with_reducible exact Q0.out _))
        repeat (go_big_quiet_step (fail))
        go_big_quiet_step ((with_reducible exact Q1.out _))
        repeat (go_big_quiet_step (fail))
        go_big_quiet_step ((with_reducible exact Q2.out _))
        repeat (go_big_quiet_step (fail))
        refine wpQuiet_nil ?_
        intro _ hw'
        obtain ⟨nq, hw''⟩ := hw'
        subst hw''
        go_wp2
        go_roundg g'
        case measure => omega
        case rel => exact ⟨0 + 1, by go_num, by omega, HT2, below_drewN Hbn.out _⟩
      obtain ⟨j, rfl⟩ : ∃ j, k = j + 1 := ⟨k - 1, by omega⟩
      obtain ⟨y, hya, p0, p1, p2⟩ := Hy.out j rfl
      have HBW2 := Lib.hid (show arcBW L S xs (j + 1) = before y (x0, x1, x2) from by rw [HBW.out, show j + 1 - 1 = j from rfl, hya]; simp)
      have Hcc := Lib.hid (fun w => l14Before_c y (x0, x1, x2) w)
      replace p0 := (Hbn0.out.cell (p := ⟨b, o + j * 3, none⟩) hbr).trans p0
      replace p1 := (Hbn0.out.cell (p := ⟨b, o + j * 3 + 1, none⟩) hbr).trans p1
      replace p2 := (Hbn0.out.cell (p := ⟨b, o + j * 3 + 2, none⟩) hbr).trans p2
      clear HBW Hy Hbn0 hya hk0 hS0 hSd
      obtain ⟨y0, y1, y2⟩ := y
      simp only at p0 p1 p2
      have hS0 : wn.cell? ⟨wr.heap.size, 0, none⟩ = some (.int .i64 x0) ∧ wn.cell? ⟨wr.heap.size, 1, none⟩ = some (.int .i64 x1) ∧ wn.cell? ⟨wr.heap.size, 2, none⟩ = some (.int .i64 x2) ∧ wn.cell? ⟨w.heap.size, 0, none⟩ = some (.int .i64 L) ∧ wn.cell? ⟨w.heap.size, 1, none⟩ = some (.int .i64 S) ∧ wn.cell? ⟨w.heap.size, 2, none⟩ = some (.slice (some ⟨b, o, none⟩) n c) ∧ wn.cell? ⟨b, o + j * 3, none⟩ = some (.int .i64 y0) ∧ wn.cell? ⟨b, o + j * 3 + 1, none⟩ = some (.int .i64 y1) ∧ wn.cell? ⟨b, o + j * 3 + 2, none⟩ = some (.int .i64 y2) := ⟨c0, c1, c2, r0, r1, r2, p0, p1, p2⟩
      have hSd : wn.drew.cell? ⟨wr.heap.size, 0, none⟩ = some (.int .i64 x0) ∧ wn.drew.cell? ⟨wr.heap.size, 1, none⟩ = some (.int .i64 x1) ∧ wn.drew.cell? ⟨wr.heap.size, 2, none⟩ = some (.int .i64 x2) ∧ wn.drew.cell? ⟨w.heap.size, 0, none⟩ = some (.int .i64 L) ∧ wn.drew.cell? ⟨w.heap.size, 1, none⟩ = some (.int .i64 S) ∧ wn.drew.cell? ⟨w.heap.size, 2, none⟩ = some (.slice (some ⟨b, o, none⟩) n c) ∧ wn.drew.cell? ⟨b, o + j * 3, none⟩ = some (.int .i64 y0) ∧ wn.drew.cell? ⟨b, o + j * 3 + 1, none⟩ = some (.int .i64 y1) ∧ wn.drew.cell? ⟨b, o + j * 3 + 2, none⟩ = some (.int .i64 y2) := hS0
      have hjn : (j : Int) < (n : Int) := by omega
      obtain ⟨u0, v0⟩ := inW_yes E0.out
      obtain ⟨u1, v1⟩ := inW_yes E1.out
      obtain ⟨u2, v2⟩ := inW_yes E2.out
      clear H0 H1 H2 E0 E1 E2
      have hwj2 : IntKind.i64.wrap (j : Int) = (j : Int) := IntWalk.i64_in _ (by omega)
      have hj0 : (0 : Int) ≤ (j : Int) := by omega
      have hj1 : decide ((0 : Int) < (j : Int) + 1) = true := decide_eq_true (by omega)
      generalize before (y0, y1, y2) (x0, x1, x2) = bf at HBW2 Hcc
      cases bf with
      | true =>
        have HT2 := Lib.hid (show T = (allF (arcBW L S xs) g' (j + 1 + 1) && (decide (1 ≤ L ∧ L ≤ 3) && decide (1 ≤ S ∧ S ≤ 12))) from by rw [HK1.out, if_pos HBW2.out])
        clear HK1 HBW2
        have HS := Lib.hid (fun (w2 : World) (hb3 : Below wn.heap.size wn w2) => (show w2.cell? ⟨wr.heap.size, 0, none⟩ = some (.int .i64 x0) ∧ w2.cell? ⟨wr.heap.size, 1, none⟩ = some (.int .i64 x1) ∧ w2.cell? ⟨wr.heap.size, 2, none⟩ = some (.int .i64 x2) ∧ w2.cell? ⟨w.heap.size, 0, none⟩ = some (.int .i64 L) ∧ w2.cell? ⟨w.heap.size, 1, none⟩ = some (.int .i64 S) ∧ w2.cell? ⟨w.heap.size, 2, none⟩ = some (.slice (some ⟨b, o, none⟩) n c) ∧ w2.cell? ⟨b, o + j * 3, none⟩ = some (.int .i64 y0) ∧ w2.cell? ⟨b, o + j * 3 + 1, none⟩ = some (.int .i64 y1) ∧ w2.cell? ⟨b, o + j * 3 + 2, none⟩ = some (.int .i64 y2) from ⟨(hb3.cell (p := ⟨wr.heap.size, 0, none⟩) mn).trans hS0.1, (hb3.cell (p := ⟨wr.heap.size, 1, none⟩) mn).trans hS0.2.1, (hb3.cell (p := ⟨wr.heap.size, 2, none⟩) mn).trans hS0.2.2.1, (hb3.cell (p := ⟨w.heap.size, 0, none⟩) hwn).trans hS0.2.2.2.1, (hb3.cell (p := ⟨w.heap.size, 1, none⟩) hwn).trans hS0.2.2.2.2.1, (hb3.cell (p := ⟨w.heap.size, 2, none⟩) hwn).trans hS0.2.2.2.2.2.1, (hb3.cell (p := ⟨b, o + j * 3, none⟩) hbn).trans hS0.2.2.2.2.2.2.1, (hb3.cell (p := ⟨b, o + j * 3 + 1, none⟩) hbn).trans hS0.2.2.2.2.2.2.2.1, (hb3.cell (p := ⟨b, o + j * 3 + 2, none⟩) hbn).trans hS0.2.2.2.2.2.2.2.2⟩))
        go_region_held3 (fun w' => w'.cell? ⟨wr.heap.size, 0, none⟩ = some (.int .i64 x0) ∧ w'.cell? ⟨wr.heap.size, 1, none⟩ = some (.int .i64 x1) ∧ w'.cell? ⟨wr.heap.size, 2, none⟩ = some (.int .i64 x2) ∧ w'.cell? ⟨w.heap.size, 0, none⟩ = some (.int .i64 L) ∧ w'.cell? ⟨w.heap.size, 1, none⟩ = some (.int .i64 S) ∧ w'.cell? ⟨w.heap.size, 2, none⟩ = some (.slice (some ⟨b, o, none⟩) n c) ∧ w'.cell? ⟨b, o + j * 3, none⟩ = some (.int .i64 y0) ∧ w'.cell? ⟨b, o + j * 3 + 1, none⟩ = some (.int .i64 y1) ∧ w'.cell? ⟨b, o + j * 3 + 2, none⟩ = some (.int .i64 y2))
          (first | with_reducible exact hS1 | with_reducible exact hSd | with_reducible exact hS0 | go_keep)
          ((first
            | (go_at_call 57; refine (l1In_yes _ (by omega) (by omega)).mono ?_; rintro e w' ⟨rfl, rfl⟩)
            | (go_at_call 65; (with_reducible refine (Hcc.out _).mono ?_); rintro e w2 ⟨rfl, hb2'⟩; have hb3 := ((Below.refl wn.heap.size wn).drew).trans hb2'; have hS1 := HS.out w2 hb3; have Hb3 := Lib.hid (Hbn.out.trans (hb3.mono hzn)); clear hb2' hb3)
            | fail))
        go_wp2
        go_roundg g'
        case measure => omega
        case rel => exact ⟨j + 1 + 1, by go_num, by omega, HT2, Hb3.out⟩
      | false =>
        have HF := Lib.hid (show T = false from by rw [HK1.out, if_neg (by rw [HBW2.out]; simp)]; rfl)
        clear HK1 HBW2
        have HS := Lib.hid (fun (w2 : World) (hb3 : Below wn.heap.size wn w2) => (show w2.cell? ⟨wr.heap.size, 0, none⟩ = some (.int .i64 x0) ∧ w2.cell? ⟨wr.heap.size, 1, none⟩ = some (.int .i64 x1) ∧ w2.cell? ⟨wr.heap.size, 2, none⟩ = some (.int .i64 x2) ∧ w2.cell? ⟨w.heap.size, 0, none⟩ = some (.int .i64 L) ∧ w2.cell? ⟨w.heap.size, 1, none⟩ = some (.int .i64 S) ∧ w2.cell? ⟨w.heap.size, 2, none⟩ = some (.slice (some ⟨b, o, none⟩) n c) ∧ w2.cell? ⟨b, o + j * 3, none⟩ = some (.int .i64 y0) ∧ w2.cell? ⟨b, o + j * 3 + 1, none⟩ = some (.int .i64 y1) ∧ w2.cell? ⟨b, o + j * 3 + 2, none⟩ = some (.int .i64 y2) from ⟨(hb3.cell (p := ⟨wr.heap.size, 0, none⟩) mn).trans hS0.1, (hb3.cell (p := ⟨wr.heap.size, 1, none⟩) mn).trans hS0.2.1, (hb3.cell (p := ⟨wr.heap.size, 2, none⟩) mn).trans hS0.2.2.1, (hb3.cell (p := ⟨w.heap.size, 0, none⟩) hwn).trans hS0.2.2.2.1, (hb3.cell (p := ⟨w.heap.size, 1, none⟩) hwn).trans hS0.2.2.2.2.1, (hb3.cell (p := ⟨w.heap.size, 2, none⟩) hwn).trans hS0.2.2.2.2.2.1, (hb3.cell (p := ⟨b, o + j * 3, none⟩) hbn).trans hS0.2.2.2.2.2.2.1, (hb3.cell (p := ⟨b, o + j * 3 + 1, none⟩) hbn).trans hS0.2.2.2.2.2.2.2.1, (hb3.cell (p := ⟨b, o + j * 3 + 2, none⟩) hbn).trans hS0.2.2.2.2.2.2.2.2⟩))
        go_region_held3 (fun w' => w'.cell? ⟨wr.heap.size, 0, none⟩ = some (.int .i64 x0) ∧ w'.cell? ⟨wr.heap.size, 1, none⟩ = some (.int .i64 x1) ∧ w'.cell? ⟨wr.heap.size, 2, none⟩ = some (.int .i64 x2) ∧ w'.cell? ⟨w.heap.size, 0, none⟩ = some (.int .i64 L) ∧ w'.cell? ⟨w.heap.size, 1, none⟩ = some (.int .i64 S) ∧ w'.cell? ⟨w.heap.size, 2, none⟩ = some (.slice (some ⟨b, o, none⟩) n c) ∧ w'.cell? ⟨b, o + j * 3, none⟩ = some (.int .i64 y0) ∧ w'.cell? ⟨b, o + j * 3 + 1, none⟩ = some (.int .i64 y1) ∧ w'.cell? ⟨b, o + j * 3 + 2, none⟩ = some (.int .i64 y2))
          (first | with_reducible exact hS1 | with_reducible exact hSd | with_reducible exact hS0 | go_keep)
          ((first
            | (go_at_call 57; refine (l1In_yes _ (by omega) (by omega)).mono ?_; rintro e w' ⟨rfl, rfl⟩)
            | (go_at_call 65; (with_reducible refine (Hcc.out _).mono ?_); rintro e w2 ⟨rfl, hb2'⟩; have hb3 := ((Below.refl wn.heap.size wn).drew).trans hb2'; have hS1 := HS.out w2 hb3; have Hb3 := Lib.hid (Hbn.out.trans (hb3.mono hzn)); clear hb2' hb3)
            | fail))
        go_wp2
        go_ret
        exact ⟨by rw [HF.out]; rfl, Hb1.out.trans (Hb3.out.mono hz)⟩
    · have e : g = 0 := by omega
      subst e
      have HF := Lib.hid (show T = (decide (1 ≤ L ∧ L ≤ 3) && decide (1 ≤ S ∧ S ≤ 12)) from by rw [HK.out]; rfl)
      have Hbz := Lib.hid (Hb1.out.trans (hbel.mono hz))
      have r0 : wr.cell? ⟨w.heap.size, 0, none⟩ = some (.int .i64 L) := (hbel.cell (p := ⟨w.heap.size, 0, none⟩) m1).trans qq0
      have r1 : wr.cell? ⟨w.heap.size, 1, none⟩ = some (.int .i64 S) := (hbel.cell (p := ⟨w.heap.size, 1, none⟩) m1).trans qq1
      have r2 : wr.cell? ⟨w.heap.size, 2, none⟩ = some (.slice a n c) := (hbel.cell (p := ⟨w.heap.size, 2, none⟩) m1).trans qq2
      have HL2 := Lib.hid (fun w => (show Calls Tryz.prog 57 #[.int .i64 L, .int .i64 1, .int .i64 3] w fun e w' => e = .returned (.bool (decide (1 ≤ L ∧ L ≤ 3))) ∧ w = w' from by rw [Bool.decide_and]; exact HL.out w))
      have HS2 := Lib.hid (fun w => (show Calls Tryz.prog 57 #[.int .i64 S, .int .i64 1, .int .i64 12] w fun e w' => e = .returned (.bool (decide (1 ≤ S ∧ S ≤ 12))) ∧ w = w' from by rw [Bool.decide_and]; exact HS.out w))
      generalize decide (1 ≤ L ∧ L ≤ 3) = d1 at HF HL2
      generalize decide (1 ≤ S ∧ S ≤ 12) = d2 at HF HS2
      clear HK hbel hg hb1 hcell HL HS
      go_wp2_with fail
      refine (HL2.out _).mono ?_
      rintro e w' ⟨rfl, rfl⟩
      cases d1 with
      | false => go_wp2; go_ret; exact ⟨by rw [HF.out]; rfl, Hbz.out⟩
      | true =>
      go_wp2_with fail
      refine (HS2.out _).mono ?_
      rintro e w' ⟨rfl, rfl⟩
      go_wp2
      go_ret
      exact ⟨by rw [HF.out]; rfl, Hbz.out⟩
end Go.Proofs.YtcilgihmaaobeaaGreatDoor
end
