/-
  Texts of this claim joined: laws for its walks, contracts of the functions that the law reaches.
-/
import Derived.Test.YtcilgihmaaobeaaDoorRows
import Derived.Test.YtcilgihmaaobeaaDoorFnSyncM1
import Derived.IntWalk
import Derived.Deep.RegionHeld3
import Derived.Deep.DeepCutAuto
import Derived.Test.YtcilgihmaaobeaaDoorFnSyncM4
import Derived.Test.YtcilgihmaaobeaaDoorFnSyncM3
set_option linter.unusedVariables false
set_option linter.unusedSimpArgs false
section
namespace Go.Proofs.YtcilgihmaaobeaaDoor
open Go.RowKit Go.Deep Go.Sd

def inW (a lim : Int) : Bool := decide (0 ≤ a) && decide (a ≤ wrap64 (lim - 1))
def arcBW (L S : Int) (xs : List Arc3) (k : Nat) : Bool := (inW (at3 xs k).1 S && (inW (at3 xs k).2.1 S && inW (at3 xs k).2.2 L)) && (decide (k = 0) || before (at3 xs (k - 1)) (at3 xs k))
theorem allF_congr {f g : Nat → Bool} (h : ∀ k, f k = g k) : ∀ m k, allF f m k = allF g m k
  | 0, _ => rfl
  | m + 1, k => by
    show (if f k = true then allF f m (k + 1) else false) = if g k = true then allF g m (k + 1) else false
    rw [h k, allF_congr h m (k + 1)]
theorem inW_of {a lim : Int} (h1 : 1 ≤ lim) (h2 : lim ≤ 12) : inW a lim = decide (0 ≤ a ∧ a < lim) := by
  unfold inW
  rw [show wrap64 (lim - 1) = lim - 1 from IntWalk.wrap64_in _ (by omega)]
  by_cases h : 0 ≤ a ∧ a < lim
  · rw [decide_eq_true h, decide_eq_true h.1, decide_eq_true (show a ≤ lim - 1 by omega)]; rfl
  · rw [decide_eq_false h]
    by_cases h3 : 0 ≤ a
    · rw [decide_eq_true h3, decide_eq_false (show ¬ a ≤ lim - 1 by omega)]; rfl
    · rw [decide_eq_false h3]; rfl
theorem inW_yes {a lim : Int} (h : inW a lim = true) : 0 ≤ a ∧ a ≤ IntKind.i64.wrap (lim - 1) := by
  unfold inW at h
  rw [← IntWalk.i64_left] at h
  rw [Bool.and_eq_true, decide_eq_true_eq, decide_eq_true_eq] at h
  exact h
theorem isLab_spec (L S : Int) (xs : List Arc3) : isLab (L, S, xs) = (allF (arcBW L S xs) xs.length 0 && (decide (1 ≤ L ∧ L ≤ 3) && decide (1 ≤ S ∧ S ≤ 12))) := by
  show (decide (1 ≤ L ∧ L ≤ 3) && (decide (1 ≤ S ∧ S ≤ 12) && allF (arcB L S xs) xs.length 0)) = _
  by_cases hL : 1 ≤ L ∧ L ≤ 3
  · by_cases hS : 1 ≤ S ∧ S ≤ 12
    · rw [allF_congr (f := arcB L S xs) (g := arcBW L S xs) fun k => by
        unfold arcB arcBW arcOk
        rw [inW_of hS.1 hS.2, inW_of hS.1 hS.2, inW_of hL.1 (by omega)]
        congr 1
        rw [← Bool.decide_and, ← Bool.decide_and]
        exact decide_eq_decide.2 ⟨fun h => ⟨⟨h.1, h.2.1⟩, ⟨h.2.2.1, h.2.2.2.1⟩, h.2.2.2.2⟩, fun h => ⟨h.1.1, h.1.2, h.2.1.1, h.2.1.2, h.2.2⟩⟩]
      rw [decide_eq_true hL, decide_eq_true hS]
      simp
    · rw [decide_eq_false hS]; simp
  · rw [decide_eq_false hL]; simp

set_option maxHeartbeats 40000000 in
set_option maxRecDepth 10000 in
theorem spec_IsLabels_c {w : World} {v : Value} {l : Lb} (h : LabR w v l) :
    Calls Tryd.prog 50 #[v] w fun e w' => e = .returned (.bool (isLab l)) ∧ Below w.heap.size w w' := by
  obtain ⟨L, S, xs⟩ := l
  obtain ⟨va, rfl, hlen, a, c, rfl, _, _, _, hcell⟩ := h
  have H := Lib.hid (isLab_spec L S xs)
  generalize isLab (L, S, xs) = T at H ⊢
  obtain ⟨n, hn⟩ : ∃ n, n = xs.length := ⟨_, rfl⟩
  have Hn := Lib.hid hn
  simp only at hcell hlen
  simp only
  rw [← hn] at hcell hlen H ⊢
  clear hn
  have HL := Lib.hid (fun w => l1In_c L 1 3 w)
  have HS := Lib.hid (fun w => l1In_c S 1 12 w)
  go_enter Tryd.func50, Tryd.ntmps50
  have qq0 : (w.alloc (.cells #[.int .i64 L, .int .i64 S, .slice a n c] 26)).cell? ⟨w.heap.size, 0, none⟩ = some (.int .i64 L) := by simp
  have qq1 : (w.alloc (.cells #[.int .i64 L, .int .i64 S, .slice a n c] 26)).cell? ⟨w.heap.size, 1, none⟩ = some (.int .i64 S) := by simp
  have qq2 : (w.alloc (.cells #[.int .i64 L, .int .i64 S, .slice a n c] 26)).cell? ⟨w.heap.size, 2, none⟩ = some (.slice a n c) := by simp
  have hb1 : Below w.heap.size w (w.alloc (.cells #[.int .i64 L, .int .i64 S, .slice a n c] 26)) := (Below.refl _ _).alloc (Nat.le_refl _) _
  have m1 : w.heap.size < (w.alloc (.cells #[.int .i64 L, .int .i64 S, .slice a n c] 26)).heap.size := by simp
  go_wp2
  generalize w.alloc (.cells #[.int .i64 L, .int .i64 S, .slice a n c] 26) = w1 at *
  have Hb1 := Lib.hid hb1
  have hz := hb1.size
  go_loopg [3] n (fun g i wr => ∃ (k : Nat), i = .int .i64 k ∧ k + g = n ∧ Hid (T = (allF (arcBW L S xs) g k && (decide (1 ≤ L ∧ L ≤ 3) && decide (1 ≤ S ∧ S ≤ 12)))) ∧ Below w1.heap.size w1 wr)
  case atStart => exact ⟨0, rfl, by omega, H, Below.refl _ _⟩
  case round =>
    obtain ⟨k, rfl, hk, HK, hbel⟩ := hrel
    obtain ⟨g, hg⟩ : ∃ g, g = gk := ⟨_, rfl⟩
    rw [← hg] at HK hk
    clear H
    by_cases hlt : k < n
    · obtain ⟨g', rfl⟩ : ∃ t, g = t + 1 := ⟨g - 1, by omega⟩
      have HK1 := Lib.hid (show T = ((if arcBW L S xs k = true then allF (arcBW L S xs) g' (k + 1) else false) && (decide (1 ≤ L ∧ L ≤ 3) && decide (1 ≤ S ∧ S ≤ 12))) from HK.out)
      obtain ⟨b, o, rfl, hb, hx0⟩ := hcell (by omega)
      obtain ⟨x, hx, _⟩ := at_lt (xs := xs) (k := k) (by have := Hn.out; omega)
      obtain ⟨f0, f1, f2⟩ := hx0 k x hx
      have g0 : wr.cell? ⟨b, o + k * 3, none⟩ = some (.int .i64 x.1) := (hbel.cell (p := ⟨b, o + k * 3, none⟩) (by simp; omega)).trans ((hb1.cell (p := ⟨b, o + k * 3, none⟩) hb).trans f0)
      have g1 : wr.cell? ⟨b, o + k * 3 + 1, none⟩ = some (.int .i64 x.2.1) := (hbel.cell (p := ⟨b, o + k * 3 + 1, none⟩) (by simp; omega)).trans ((hb1.cell (p := ⟨b, o + k * 3 + 1, none⟩) hb).trans f1)
      have g2 : wr.cell? ⟨b, o + k * 3 + 2, none⟩ = some (.int .i64 x.2.2) := (hbel.cell (p := ⟨b, o + k * 3 + 2, none⟩) (by simp; omega)).trans ((hb1.cell (p := ⟨b, o + k * 3 + 2, none⟩) hb).trans f2)
      have r0 : wr.cell? ⟨w.heap.size, 0, none⟩ = some (.int .i64 L) := (hbel.cell (p := ⟨w.heap.size, 0, none⟩) m1).trans qq0
      have r1 : wr.cell? ⟨w.heap.size, 1, none⟩ = some (.int .i64 S) := (hbel.cell (p := ⟨w.heap.size, 1, none⟩) m1).trans qq1
      have r2 : wr.cell? ⟨w.heap.size, 2, none⟩ = some (.slice (some ⟨b, o, none⟩) n c) := (hbel.cell (p := ⟨w.heap.size, 2, none⟩) m1).trans qq2
      have hz2 := hbel.size
      have hbr : b < wr.heap.size := by omega
      have hwr : w.heap.size < wr.heap.size := by omega
      have Hbel := Lib.hid hbel
      have HA := Lib.hid (at3_of hx)
      have H0 := Lib.hid (fun w => (show Calls Tryd.prog 41 #[.int .i64 x.1, .int .i64 0, .int .i64 (wrap64 (S - 1))] w fun e w' => e = .returned (.bool (inW x.1 S)) ∧ w = w' from l1In_c x.1 0 (wrap64 (S - 1)) w))
      have H1 := Lib.hid (fun w => (show Calls Tryd.prog 41 #[.int .i64 x.2.1, .int .i64 0, .int .i64 (wrap64 (S - 1))] w fun e w' => e = .returned (.bool (inW x.2.1 S)) ∧ w = w' from l1In_c x.2.1 0 (wrap64 (S - 1)) w))
      have H2 := Lib.hid (fun w => (show Calls Tryd.prog 41 #[.int .i64 x.2.2, .int .i64 0, .int .i64 (wrap64 (L - 1))] w fun e w' => e = .returned (.bool (inW x.2.2 L)) ∧ w = w' from l1In_c x.2.2 0 (wrap64 (L - 1)) w))
      have HBW := Lib.hid (show arcBW L S xs k = ((inW x.1 S && (inW x.2.1 S && inW x.2.2 L)) && (decide (k = 0) || before (at3 xs (k - 1)) x)) from by unfold arcBW; rw [HA.out])
      have Hy := Lib.hid (fun j (hj : k = j + 1) => show ∃ y, at3 xs j = y ∧ wr.cell? ⟨b, o + j * 3, none⟩ = some (.int .i64 y.1) ∧ wr.cell? ⟨b, o + j * 3 + 1, none⟩ = some (.int .i64 y.2.1) ∧ wr.cell? ⟨b, o + j * 3 + 2, none⟩ = some (.int .i64 y.2.2) from by
        obtain ⟨y, hy, _⟩ := at_lt (xs := xs) (k := j) (by have := Hn.out; omega)
        obtain ⟨e0, e1, e2⟩ := hx0 j y hy
        exact ⟨y, at3_of hy, (hbel.cell (p := ⟨b, o + j * 3, none⟩) (by simp; omega)).trans ((hb1.cell (p := ⟨b, o + j * 3, none⟩) hb).trans e0), (hbel.cell (p := ⟨b, o + j * 3 + 1, none⟩) (by simp; omega)).trans ((hb1.cell (p := ⟨b, o + j * 3 + 1, none⟩) hb).trans e1), (hbel.cell (p := ⟨b, o + j * 3 + 2, none⟩) (by simp; omega)).trans ((hb1.cell (p := ⟨b, o + j * 3 + 2, none⟩) hb).trans e2)⟩)
      clear HK hx0 hcell hx f0 f1 f2 HA hbel hb1 HL HS
      obtain ⟨x0, x1, x2⟩ := x
      simp only at g0 g1 g2 H0 H1 H2 HBW
      generalize hb0 : inW x0 S = b0 at H0 HBW
      have E0 := Lib.hid hb0
      clear hb0
      generalize hb1 : inW x1 S = b1 at H1 HBW
      have E1 := Lib.hid hb1
      clear hb1
      generalize hb2 : inW x2 L = b2 at H2 HBW
      have E2 := Lib.hid hb2
      clear hb2
      go_wp2
      obtain ⟨wn, ex, hbn0, c0, c1, c2, mn⟩ := boxA3_ex wr 80 (.int .i64 x0) (.int .i64 x1) (.int .i64 x2)
      rw [ex]
      clear ex g0 g1 g2
      have hwn : w.heap.size < wn.heap.size := by omega
      have hbn : b < wn.heap.size := by omega
      replace r0 := (hbn0.cell (p := ⟨w.heap.size, 0, none⟩) hwr).trans r0
      replace r1 := (hbn0.cell (p := ⟨w.heap.size, 1, none⟩) hwr).trans r1
      replace r2 := (hbn0.cell (p := ⟨w.heap.size, 2, none⟩) hwr).trans r2
      have Hbn := Lib.hid (Hbel.out.trans (hbn0.mono hz2))
      have hzn : w1.heap.size ≤ wn.heap.size := by omega
      have hS0 : wn.cell? ⟨wr.heap.size, 0, none⟩ = some (.int .i64 x0) ∧ wn.cell? ⟨wr.heap.size, 1, none⟩ = some (.int .i64 x1) ∧ wn.cell? ⟨wr.heap.size, 2, none⟩ = some (.int .i64 x2) ∧ wn.cell? ⟨w.heap.size, 0, none⟩ = some (.int .i64 L) ∧ wn.cell? ⟨w.heap.size, 1, none⟩ = some (.int .i64 S) ∧ wn.cell? ⟨w.heap.size, 2, none⟩ = some (.slice (some ⟨b, o, none⟩) n c) := ⟨c0, c1, c2, r0, r1, r2⟩
      have hSd : wn.drew.cell? ⟨wr.heap.size, 0, none⟩ = some (.int .i64 x0) ∧ wn.drew.cell? ⟨wr.heap.size, 1, none⟩ = some (.int .i64 x1) ∧ wn.drew.cell? ⟨wr.heap.size, 2, none⟩ = some (.int .i64 x2) ∧ wn.drew.cell? ⟨w.heap.size, 0, none⟩ = some (.int .i64 L) ∧ wn.drew.cell? ⟨w.heap.size, 1, none⟩ = some (.int .i64 S) ∧ wn.drew.cell? ⟨w.heap.size, 2, none⟩ = some (.slice (some ⟨b, o, none⟩) n c) := hS0
      have Hbn0 := Lib.hid hbn0
      have hbw := Hb1.out.trans (Hbn.out.mono hz)
      have Hbw := Lib.hid hbw
      clear hbn0 hbw
      cases b0 with
      | false =>
        have HF := Lib.hid (show T = false from by rw [HK1.out, if_neg (by rw [HBW.out]; simp)]; rfl)
        clear HK1 HBW Hy Hbn0 hS0 hSd
        have Q0 := Lib.hid (fun q => (H0.out (wn.drewN q)).mono (fun e w'' h => (⟨h.1, q, h.2.symm⟩ : e = .returned (.bool false) ∧ ∃ q', w'' = wn.drewN q')))
        refine wp_region_quiet_lit (by kernel_rfl) (by kernel_rfl) ?_
        repeat (go_big_quiet_step (fail))
        go_big_quiet_step ((with_reducible exact Q0.out _))
        repeat (go_big_quiet_step (fail))
        refine wpQuiet_nil ?_
        intro _ hw'
        obtain ⟨nq, hw''⟩ := hw'
        subst hw''
        go_wp2
        go_ret
        exact ⟨by rw [HF.out]; rfl, below_drewN Hbw.out _⟩
      | true =>
      cases b1 with
      | false =>
        have HF := Lib.hid (show T = false from by rw [HK1.out, if_neg (by rw [HBW.out]; simp)]; rfl)
        clear HK1 HBW Hy Hbn0 hS0 hSd
        have Q0 := Lib.hid (fun q => (H0.out (wn.drewN q)).mono (fun e w'' h => (⟨h.1, q, h.2.symm⟩ : e = .returned (.bool true) ∧ ∃ q', w'' = wn.drewN q')))
        have Q1 := Lib.hid (fun q => (H1.out (wn.drewN q)).mono (fun e w'' h => (⟨h.1, q, h.2.symm⟩ : e = .returned (.bool false) ∧ ∃ q', w'' = wn.drewN q')))
        refine wp_region_quiet_lit (by kernel_rfl) (by kernel_rfl) ?_
        repeat (go_big_quiet_step (fail))
        go_big_quiet_step ((with_reducible exact Q0.out _))
        repeat (go_big_quiet_step (fail))
        go_big_quiet_step ((with_reducible exact Q1.out _))
        repeat (go_big_quiet_step (fail))
        refine wpQuiet_nil ?_
        intro _ hw'
        obtain ⟨nq, hw''⟩ := hw'
        subst hw''
        go_wp2
        go_ret
        exact ⟨by rw [HF.out]; rfl, below_drewN Hbw.out _⟩
      | true =>
      cases b2 with
      | false =>
        have HF := Lib.hid (show T = false from by rw [HK1.out, if_neg (by rw [HBW.out]; simp)]; rfl)
        clear HK1 HBW Hy Hbn0 hS0 hSd
        have Q0 := Lib.hid (fun q => (H0.out (wn.drewN q)).mono (fun e w'' h => (⟨h.1, q, h.2.symm⟩ : e = .returned (.bool true) ∧ ∃ q', w'' = wn.drewN q')))
        have Q1 := Lib.hid (fun q => (H1.out (wn.drewN q)).mono (fun e w'' h => (⟨h.1, q, h.2.symm⟩ : e = .returned (.bool true) ∧ ∃ q', w'' = wn.drewN q')))
        have Q2 := Lib.hid (fun q => (H2.out (wn.drewN q)).mono (fun e w'' h => (⟨h.1, q, h.2.symm⟩ : e = .returned (.bool false) ∧ ∃ q', w'' = wn.drewN q')))
        refine wp_region_quiet_lit (by kernel_rfl) (by kernel_rfl) ?_
        repeat (go_big_quiet_step (fail))
        go_big_quiet_step ((with_reducible exact Q0.out _))
        repeat (go_big_quiet_step (fail))
        go_big_quiet_step ((with_reducible exact Q1.out _))
        repeat (go_big_quiet_step (fail))
        go_big_quiet_step ((with_reducible exact Q2.out _))
        repeat (go_big_quiet_step (fail))
        refine wpQuiet_nil ?_
        intro _ hw'
        obtain ⟨nq, hw''⟩ := hw'
        subst hw''
        go_wp2
        go_ret
        exact ⟨by rw [HF.out]; rfl, below_drewN Hbw.out _⟩
      | true =>
      by_cases hk0 : k = 0
      · have HT2 := Lib.hid (show T = (allF (arcBW L S xs) g' (k + 1) && (decide (1 ≤ L ∧ L ≤ 3) && decide (1 ≤ S ∧ S ≤ 12))) from by rw [HK1.out, if_pos (by rw [HBW.out]; simp [hk0])])
        clear HK1 HBW Hy Hbn0 hS0 hSd
        subst hk0
        have Q0 := Lib.hid (fun q => (H0.out (wn.drewN q)).mono (fun e w'' h => (⟨h.1, q, h.2.symm⟩ : e = .returned (.bool true) ∧ ∃ q', w'' = wn.drewN q')))
        have Q1 := Lib.hid (fun q => (H1.out (wn.drewN q)).mono (fun e w'' h => (⟨h.1, q, h.2.symm⟩ : e = .returned (.bool true) ∧ ∃ q', w'' = wn.drewN q')))
        have Q2 := Lib.hid (fun q => (H2.out (wn.drewN q)).mono (fun e w'' h => (⟨h.1, q, h.2.symm⟩ : e = .returned (.bool true) ∧ ∃ q', w'' = wn.drewN q')))
        refine wp_region_quiet_lit (by kernel_rfl) (by kernel_rfl) ?_
        repeat (go_big_quiet_step (fail))
        go_big_quiet_step ((with_reducible exact Q0.out _))
        repeat (go_big_quiet_step (fail))
        go_big_quiet_step ((with_reducible exact Q1.out _))
        repeat (go_big_quiet_step (fail))
        go_big_quiet_step ((with_reducible exact Q2.out _))
        repeat (go_big_quiet_step (fail))
        refine wpQuiet_nil ?_
        intro _ hw'
        obtain ⟨nq, hw''⟩ := hw'
        subst hw''
        go_wp2
        go_roundg g'
        case measure => omega
        case rel => exact ⟨0 + 1, by go_num, by omega, HT2, below_drewN Hbn.out _⟩
      obtain ⟨j, rfl⟩ : ∃ j, k = j + 1 := ⟨k - 1, by omega⟩
      obtain ⟨y, hya, p0, p1, p2⟩ := Hy.out j rfl
      have HBW2 := Lib.hid (show arcBW L S xs (j + 1) = before y (x0, x1, x2) from by rw [HBW.out, show j + 1 - 1 = j from rfl, hya]; simp)
      have Hcc := Lib.hid (fun w => l14Before_c y (x0, x1, x2) w)
      replace p0 := (Hbn0.out.cell (p := ⟨b, o + j * 3, none⟩) hbr).trans p0
      replace p1 := (Hbn0.out.cell (p := ⟨b, o + j * 3 + 1, none⟩) hbr).trans p1
      replace p2 := (Hbn0.out.cell (p := ⟨b, o + j * 3 + 2, none⟩) hbr).trans p2
      clear HBW Hy Hbn0 hya hk0 hS0 hSd
      obtain ⟨y0, y1, y2⟩ := y
      simp only at p0 p1 p2
      have hS0 : wn.cell? ⟨wr.heap.size, 0, none⟩ = some (.int .i64 x0) ∧ wn.cell? ⟨wr.heap.size, 1, none⟩ = some (.int .i64 x1) ∧ wn.cell? ⟨wr.heap.size, 2, none⟩ = some (.int .i64 x2) ∧ wn.cell? ⟨w.heap.size, 0, none⟩ = some (.int .i64 L) ∧ wn.cell? ⟨w.heap.size, 1, none⟩ = some (.int .i64 S) ∧ wn.cell? ⟨w.heap.size, 2, none⟩ = some (.slice (some ⟨b, o, none⟩) n c) ∧ wn.cell? ⟨b, o + j * 3, none⟩ = some (.int .i64 y0) ∧ wn.cell? ⟨b, o + j * 3 + 1, none⟩ = some (.int .i64 y1) ∧ wn.cell? ⟨b, o + j * 3 + 2, none⟩ = some (.int .i64 y2) := ⟨c0, c1, c2, r0, r1, r2, p0, p1, p2⟩
      have hSd : wn.drew.cell? ⟨wr.heap.size, 0, none⟩ = some (.int .i64 x0) ∧ wn.drew.cell? ⟨wr.heap.size, 1, none⟩ = some (.int .i64 x1) ∧ wn.drew.cell? ⟨wr.heap.size, 2, none⟩ = some (.int .i64 x2) ∧ wn.drew.cell? ⟨w.heap.size, 0, none⟩ = some (.int .i64 L) ∧ wn.drew.cell? ⟨w.heap.size, 1, none⟩ = some (.int .i64 S) ∧ wn.drew.cell? ⟨w.heap.size, 2, none⟩ = some (.slice (some ⟨b, o, none⟩) n c) ∧ wn.drew.cell? ⟨b, o + j * 3, none⟩ = some (.int .i64 y0) ∧ wn.drew.cell? ⟨b, o + j * 3 + 1, none⟩ = some (.int .i64 y1) ∧ wn.drew.cell? ⟨b, o + j * 3 + 2, none⟩ = some (.int .i64 y2) := hS0
      have hjn : (j : Int) < (n : Int) := by omega
      obtain ⟨u0, v0⟩ := inW_yes E0.out
      obtain ⟨u1, v1⟩ := inW_yes E1.out
      obtain ⟨u2, v2⟩ := inW_yes E2.out
      clear H0 H1 H2 E0 E1 E2
      have hwj2 : IntKind.i64.wrap (j : Int) = (j : Int) := IntWalk.i64_in _ (by omega)
      have hj0 : (0 : Int) ≤ (j : Int) := by omega
      have hj1 : decide ((0 : Int) < (j : Int) + 1) = true := decide_eq_true (by omega)
      generalize before (y0, y1, y2) (x0, x1, x2) = bf at HBW2 Hcc
      cases bf with
      | true =>
        have HT2 := Lib.hid (show T = (allF (arcBW L S xs) g' (j + 1 + 1) && (decide (1 ≤ L ∧ L ≤ 3) && decide (1 ≤ S ∧ S ≤ 12))) from by rw [HK1.out, if_pos HBW2.out])
        clear HK1 HBW2
        have HS := Lib.hid (fun (w2 : World) (hb3 : Below wn.heap.size wn w2) => (show w2.cell? ⟨wr.heap.size, 0, none⟩ = some (.int .i64 x0) ∧ w2.cell? ⟨wr.heap.size, 1, none⟩ = some (.int .i64 x1) ∧ w2.cell? ⟨wr.heap.size, 2, none⟩ = some (.int .i64 x2) ∧ w2.cell? ⟨w.heap.size, 0, none⟩ = some (.int .i64 L) ∧ w2.cell? ⟨w.heap.size, 1, none⟩ = some (.int .i64 S) ∧ w2.cell? ⟨w.heap.size, 2, none⟩ = some (.slice (some ⟨b, o, none⟩) n c) ∧ w2.cell? ⟨b, o + j * 3, none⟩ = some (.int .i64 y0) ∧ w2.cell? ⟨b, o + j * 3 + 1, none⟩ = some (.int .i64 y1) ∧ w2.cell? ⟨b, o + j * 3 + 2, none⟩ = some (.int .i64 y2) from ⟨(hb3.cell (p := ⟨wr.heap.size, 0, none⟩) mn).trans hS0.1, (hb3.cell (p := ⟨wr.heap.size, 1, none⟩) mn).trans hS0.2.1, (hb3.cell (p := ⟨wr.heap.size, 2, none⟩) mn).trans hS0.2.2.1, (hb3.cell (p := ⟨w.heap.size, 0, none⟩) hwn).trans hS0.2.2.2.1, (hb3.cell (p := ⟨w.heap.size, 1, none⟩) hwn).trans hS0.2.2.2.2.1, (hb3.cell (p := ⟨w.heap.size, 2, none⟩) hwn).trans hS0.2.2.2.2.2.1, (hb3.cell (p := ⟨b, o + j * 3, none⟩) hbn).trans hS0.2.2.2.2.2.2.1, (hb3.cell (p := ⟨b, o + j * 3 + 1, none⟩) hbn).trans hS0.2.2.2.2.2.2.2.1, (hb3.cell (p := ⟨b, o + j * 3 + 2, none⟩) hbn).trans hS0.2.2.2.2.2.2.2.2⟩))
        go_region_held3 (fun w' => w'.cell? ⟨wr.heap.size, 0, none⟩ = some (.int .i64 x0) ∧ w'.cell? ⟨wr.heap.size, 1, none⟩ = some (.int .i64 x1) ∧ w'.cell? ⟨wr.heap.size, 2, none⟩ = some (.int .i64 x2) ∧ w'.cell? ⟨w.heap.size, 0, none⟩ = some (.int .i64 L) ∧ w'.cell? ⟨w.heap.size, 1, none⟩ = some (.int .i64 S) ∧ w'.cell? ⟨w.heap.size, 2, none⟩ = some (.slice (some ⟨b, o, none⟩) n c) ∧ w'.cell? ⟨b, o + j * 3, none⟩ = some (.int .i64 y0) ∧ w'.cell? ⟨b, o + j * 3 + 1, none⟩ = some (.int .i64 y1) ∧ w'.cell? ⟨b, o + j * 3 + 2, none⟩ = some (.int .i64 y2))
          (first | with_reducible exact hS1 | with_reducible exact hSd | with_reducible exact hS0 | go_keep)
          ((first
            | (go_at_call 41; refine (l1In_yes _ (by omega) (by omega)).mono ?_; rintro e w' ⟨rfl, rfl⟩)
            | (go_at_call 66; (with_reducible refine (Hcc.out _).mono ?_); rintro e w2 ⟨rfl, hb2'⟩; have hb3 := ((Below.refl wn.heap.size wn).drew).trans hb2'; have hS1 := HS.out w2 hb3; have Hb3 := Lib.hid (Hbn.out.trans (hb3.mono hzn)); clear hb2' hb3)
            | fail))
        go_wp2
        go_roundg g'
        case measure => omega
        case rel => exact ⟨j + 1 + 1, by go_num, by omega, HT2, Hb3.out⟩
      | false =>
        have HF := Lib.hid (show T = false from by rw [HK1.out, if_neg (by rw [HBW2.out]; simp)]; rfl)
        clear HK1 HBW2
        have HS := Lib.hid (fun (w2 : World) (hb3 : Below wn.heap.size wn w2) => (show w2.cell? ⟨wr.heap.size, 0, none⟩ = some (.int .i64 x0) ∧ w2.cell? ⟨wr.heap.size, 1, none⟩ = some (.int .i64 x1) ∧ w2.cell? ⟨wr.heap.size, 2, none⟩ = some (.int .i64 x2) ∧ w2.cell? ⟨w.heap.size, 0, none⟩ = some (.int .i64 L) ∧ w2.cell? ⟨w.heap.size, 1, none⟩ = some (.int .i64 S) ∧ w2.cell? ⟨w.heap.size, 2, none⟩ = some (.slice (some ⟨b, o, none⟩) n c) ∧ w2.cell? ⟨b, o + j * 3, none⟩ = some (.int .i64 y0) ∧ w2.cell? ⟨b, o + j * 3 + 1, none⟩ = some (.int .i64 y1) ∧ w2.cell? ⟨b, o + j * 3 + 2, none⟩ = some (.int .i64 y2) from ⟨(hb3.cell (p := ⟨wr.heap.size, 0, none⟩) mn).trans hS0.1, (hb3.cell (p := ⟨wr.heap.size, 1, none⟩) mn).trans hS0.2.1, (hb3.cell (p := ⟨wr.heap.size, 2, none⟩) mn).trans hS0.2.2.1, (hb3.cell (p := ⟨w.heap.size, 0, none⟩) hwn).trans hS0.2.2.2.1, (hb3.cell (p := ⟨w.heap.size, 1, none⟩) hwn).trans hS0.2.2.2.2.1, (hb3.cell (p := ⟨w.heap.size, 2, none⟩) hwn).trans hS0.2.2.2.2.2.1, (hb3.cell (p := ⟨b, o + j * 3, none⟩) hbn).trans hS0.2.2.2.2.2.2.1, (hb3.cell (p := ⟨b, o + j * 3 + 1, none⟩) hbn).trans hS0.2.2.2.2.2.2.2.1, (hb3.cell (p := ⟨b, o + j * 3 + 2, none⟩) hbn).trans hS0.2.2.2.2.2.2.2.2⟩))
        go_region_held3 (fun w' => w'.cell? ⟨wr.heap.size, 0, none⟩ = some (.int .i64 x0) ∧ w'.cell? ⟨wr.heap.size, 1, none⟩ = some (.int .i64 x1) ∧ w'.cell? ⟨wr.heap.size, 2, none⟩ = some (.int .i64 x2) ∧ w'.cell? ⟨w.heap.size, 0, none⟩ = some (.int .i64 L) ∧ w'.cell? ⟨w.heap.size, 1, none⟩ = some (.int .i64 S) ∧ w'.cell? ⟨w.heap.size, 2, none⟩ = some (.slice (some ⟨b, o, none⟩) n c) ∧ w'.cell? ⟨b, o + j * 3, none⟩ = some (.int .i64 y0) ∧ w'.cell? ⟨b, o + j * 3 + 1, none⟩ = some (.int .i64 y1) ∧ w'.cell? ⟨b, o + j * 3 + 2, none⟩ = some (.int .i64 y2))
          (first | with_reducible exact hS1 | with_reducible exact hSd | with_reducible exact hS0 | go_keep)
          ((first
            | (go_at_call 41; refine (l1In_yes _ (by omega) (by omega)).mono ?_; rintro e w' ⟨rfl, rfl⟩)
            | (go_at_call 66; (with_reducible refine (Hcc.out _).mono ?_); rintro e w2 ⟨rfl, hb2'⟩; have hb3 := ((Below.refl wn.heap.size wn).drew).trans hb2'; have hS1 := HS.out w2 hb3; have Hb3 := Lib.hid (Hbn.out.trans (hb3.mono hzn)); clear hb2' hb3)
            | fail))
        go_wp2
        go_ret
        exact ⟨by rw [HF.out]; rfl, Hb1.out.trans (Hb3.out.mono hz)⟩
    · have e : g = 0 := by omega
      subst e
      have HF := Lib.hid (show T = (decide (1 ≤ L ∧ L ≤ 3) && decide (1 ≤ S ∧ S ≤ 12)) from by rw [HK.out]; rfl)
      have Hbz := Lib.hid (Hb1.out.trans (hbel.mono hz))
      have r0 : wr.cell? ⟨w.heap.size, 0, none⟩ = some (.int .i64 L) := (hbel.cell (p := ⟨w.heap.size, 0, none⟩) m1).trans qq0
      have r1 : wr.cell? ⟨w.heap.size, 1, none⟩ = some (.int .i64 S) := (hbel.cell (p := ⟨w.heap.size, 1, none⟩) m1).trans qq1
      have r2 : wr.cell? ⟨w.heap.size, 2, none⟩ = some (.slice a n c) := (hbel.cell (p := ⟨w.heap.size, 2, none⟩) m1).trans qq2
      have HL2 := Lib.hid (fun w => (show Calls Tryd.prog 41 #[.int .i64 L, .int .i64 1, .int .i64 3] w fun e w' => e = .returned (.bool (decide (1 ≤ L ∧ L ≤ 3))) ∧ w = w' from by rw [Bool.decide_and]; exact HL.out w))
      have HS2 := Lib.hid (fun w => (show Calls Tryd.prog 41 #[.int .i64 S, .int .i64 1, .int .i64 12] w fun e w' => e = .returned (.bool (decide (1 ≤ S ∧ S ≤ 12))) ∧ w = w' from by rw [Bool.decide_and]; exact HS.out w))
      generalize decide (1 ≤ L ∧ L ≤ 3) = d1 at HF HL2
      generalize decide (1 ≤ S ∧ S ≤ 12) = d2 at HF HS2
      clear HK hbel hg hb1 hcell HL HS
      go_wp2_with fail
      refine (HL2.out _).mono ?_
      rintro e w' ⟨rfl, rfl⟩
      cases d1 with
      | false => go_wp2; go_ret; exact ⟨by rw [HF.out]; rfl, Hbz.out⟩
      | true =>
      go_wp2_with fail
      refine (HS2.out _).mono ?_
      rintro e w' ⟨rfl, rfl⟩
      go_wp2
      go_ret
      exact ⟨by rw [HF.out]; rfl, Hbz.out⟩
end Go.Proofs.YtcilgihmaaobeaaDoor
end

section
namespace Go.Proofs.YtcilgihmaaobeaaDoor
open Go.RowKit Go.Deep Go.Sd

def resB (xs : List Arc3) (k : Nat) : Bool := decide (k = 0) || !(decide ((at3 xs (k - 1)).1 = (at3 xs k).1) && decide ((at3 xs (k - 1)).2.2 = (at3 xs k).2.2))
def resolvM (l : Lb) : Bool := isLab l && allF (resB l.2.2) l.2.2.length 0
theorem resB_first (xs : List Arc3) (n : Nat) : allF (resB xs) n 0 = allF (resB xs) (n - 1) (0 + 1) := by
  cases n with
  | zero => rfl
  | succ n =>
    show (if resB xs 0 = true then allF (resB xs) n (0 + 1) else false) = _
    rw [if_pos (by unfold resB; simp)]
    rfl
set_option maxHeartbeats 1000000 in
set_option maxRecDepth 10000 in
theorem isResolving_c {w : World} {v : Value} {l : Lb} (h : LabR w v l) :
    Calls Tryd.prog 56 #[v] w fun e w' => e = .returned (.bool (allF (resB l.2.2) l.2.2.length 0)) ∧ Below w.heap.size w w' := by
  obtain ⟨L, S, xs⟩ := l
  obtain ⟨va, rfl, hlen, a, c, rfl, _, _, _, hcell⟩ := h
  have HT0 := Lib.hid (show allF (resB xs) xs.length 0 = allF (resB xs) xs.length 0 from rfl)
  simp only at hcell hlen
  simp only
  obtain ⟨n, hn⟩ : ∃ n, n = xs.length := ⟨_, rfl⟩
  have Hn := Lib.hid hn
  rw [← hn] at hcell hlen HT0 ⊢
  clear hn
  obtain ⟨T, hT⟩ : ∃ T, T = allF (resB xs) n 0 := ⟨_, rfl⟩
  rw [← hT]
  have HT := Lib.hid hT
  clear hT HT0
  go_enter Tryd.func56, Tryd.ntmps56
  have q0 : (w.alloc (.cells #[.int .i64 L, .int .i64 S, .slice a n c] 26)).cell? ⟨w.heap.size, 2, none⟩ = some (.slice a n c) := by simp
  have hb1 : Below w.heap.size w (w.alloc (.cells #[.int .i64 L, .int .i64 S, .slice a n c] 26)) := (Below.refl _ _).alloc (Nat.le_refl _) _
  have m1 : w.heap.size < (w.alloc (.cells #[.int .i64 L, .int .i64 S, .slice a n c] 26)).heap.size := by simp
  go_wp2
  generalize w.alloc (.cells #[.int .i64 L, .int .i64 S, .slice a n c] 26) = w1 at *
  have Hb1 := Lib.hid hb1
  have hz := hb1.size
  go_loopg [8] n (fun g i wr => ∃ (k : Nat), i = .int .i64 k ∧ k + g = n ∧ Hid (T = allF (resB xs) g k) ∧ Below w1.heap.size w1 wr)
  case atStart => exact ⟨0, rfl, by omega, HT, Below.refl _ _⟩
  case round =>
    obtain ⟨k, rfl, hk, HK, hbel⟩ := hrel
    obtain ⟨g, hg⟩ : ∃ g, g = gk := ⟨_, rfl⟩
    rw [← hg] at HK hk
    by_cases hlt : k < n
    · obtain ⟨g', rfl⟩ : ∃ t, g = t + 1 := ⟨g - 1, by omega⟩
      have HK1 := Lib.hid (show T = if resB xs k = true then allF (resB xs) g' (k + 1) else false from HK.out)
      obtain ⟨b, o, rfl, hb, hx0⟩ := hcell (by omega)
      have r2 : wr.cell? ⟨w.heap.size, 2, none⟩ = some (.slice (some ⟨b, o, none⟩) n c) := (hbel.cell (p := ⟨w.heap.size, 2, none⟩) m1).trans q0
      have hz2 := hbel.size
      have hbr : b < wr.heap.size := by omega
      have hwr : w.heap.size < wr.heap.size := by omega
      have Hbel := Lib.hid hbel
      by_cases hk0 : k = 0
      · subst hk0
        obtain ⟨x, hx, _⟩ := at_lt (xs := xs) (k := 0) (by have := Hn.out; omega)
        obtain ⟨f0, f1, f2⟩ := hx0 0 x hx
        rw [Nat.zero_mul, Nat.add_zero] at f0 f1 f2
        have g0 : wr.cell? ⟨b, o, none⟩ = some (.int .i64 x.1) := (hbel.cell (p := ⟨b, o, none⟩) (by simp; omega)).trans ((hb1.cell (p := ⟨b, o, none⟩) hb).trans f0)
        have g1 : wr.cell? ⟨b, o + 1, none⟩ = some (.int .i64 x.2.1) := (hbel.cell (p := ⟨b, o + 1, none⟩) (by simp; omega)).trans ((hb1.cell (p := ⟨b, o + 1, none⟩) hb).trans f1)
        have g2 : wr.cell? ⟨b, o + 2, none⟩ = some (.int .i64 x.2.2) := (hbel.cell (p := ⟨b, o + 2, none⟩) (by simp; omega)).trans ((hb1.cell (p := ⟨b, o + 2, none⟩) hb).trans f2)
        have HT2 := Lib.hid (show T = allF (resB xs) g' (0 + 1) from by rw [HK1.out, if_pos (by unfold resB; simp)])
        clear HK HK1 hx0 hcell hx f0 f1 f2 hbel hb1
        obtain ⟨x0, x1, x2⟩ := x
        simp only at g0 g1 g2
        go_wp2
        go_quiet (fail)
        go_wp2
        go_roundg g'
        case measure => omega
        case rel => exact ⟨0 + 1, by go_num, by omega, HT2, below_drewN (Hbel.out.alloc hz2 _) _⟩
      obtain ⟨j, rfl⟩ : ∃ j, k = j + 1 := ⟨k - 1, by omega⟩
      obtain ⟨x, hx, _⟩ := at_lt (xs := xs) (k := j + 1) (by have := Hn.out; omega)
      obtain ⟨f0, f1, f2⟩ := hx0 (j + 1) x hx
      have g0 : wr.cell? ⟨b, o + (j + 1) * 3, none⟩ = some (.int .i64 x.1) := (hbel.cell (p := ⟨b, o + (j + 1) * 3, none⟩) (by simp; omega)).trans ((hb1.cell (p := ⟨b, o + (j + 1) * 3, none⟩) hb).trans f0)
      have g1 : wr.cell? ⟨b, o + (j + 1) * 3 + 1, none⟩ = some (.int .i64 x.2.1) := (hbel.cell (p := ⟨b, o + (j + 1) * 3 + 1, none⟩) (by simp; omega)).trans ((hb1.cell (p := ⟨b, o + (j + 1) * 3 + 1, none⟩) hb).trans f1)
      have g2 : wr.cell? ⟨b, o + (j + 1) * 3 + 2, none⟩ = some (.int .i64 x.2.2) := (hbel.cell (p := ⟨b, o + (j + 1) * 3 + 2, none⟩) (by simp; omega)).trans ((hb1.cell (p := ⟨b, o + (j + 1) * 3 + 2, none⟩) hb).trans f2)
      obtain ⟨y, hy, _⟩ := at_lt (xs := xs) (k := j) (by have := Hn.out; omega)
      obtain ⟨e0, e1, e2⟩ := hx0 (j) y hy
      have p0 : wr.cell? ⟨b, o + (j) * 3, none⟩ = some (.int .i64 y.1) := (hbel.cell (p := ⟨b, o + (j) * 3, none⟩) (by simp; omega)).trans ((hb1.cell (p := ⟨b, o + (j) * 3, none⟩) hb).trans e0)
      have p1 : wr.cell? ⟨b, o + (j) * 3 + 1, none⟩ = some (.int .i64 y.2.1) := (hbel.cell (p := ⟨b, o + (j) * 3 + 1, none⟩) (by simp; omega)).trans ((hb1.cell (p := ⟨b, o + (j) * 3 + 1, none⟩) hb).trans e1)
      have p2 : wr.cell? ⟨b, o + (j) * 3 + 2, none⟩ = some (.int .i64 y.2.2) := (hbel.cell (p := ⟨b, o + (j) * 3 + 2, none⟩) (by simp; omega)).trans ((hb1.cell (p := ⟨b, o + (j) * 3 + 2, none⟩) hb).trans e2)
      have HB := Lib.hid (show resB xs (j + 1) = !(decide (y.1 = x.1) && decide (y.2.2 = x.2.2)) from by unfold resB; rw [show j + 1 - 1 = j from rfl, at3_of hx, at3_of hy]; simp)
      have hjn : (j : Int) < (n : Int) := by omega
      have hjn1 : (j : Int) + 1 < (n : Int) := by omega
      clear HK hx0 hcell hx hy f0 f1 f2 e0 e1 e2 hbel hb1
      obtain ⟨x0, x1, x2⟩ := x
      obtain ⟨y0, y1, y2⟩ := y
      simp only at g0 g1 g2 p0 p1 p2
      by_cases hf : y0 = x0
      rotate_left
      · have HT2 := Lib.hid (show T = allF (resB xs) g' (j + 1 + 1) from by rw [HK1.out, if_pos (by rw [HB.out]; simp [hf])])
        have t1 : (y0 == x0) = false := by simp; omega
        clear HK1 HB hf
        go_wp2
        go_quiet (fail)
        go_wp2
        go_roundg g'
        case measure => omega
        case rel => exact ⟨j + 1 + 1, by go_num, by omega, HT2, below_drewN (Hbel.out.alloc hz2 _) _⟩
      by_cases hl : y2 = x2
      rotate_left
      · have HT2 := Lib.hid (show T = allF (resB xs) g' (j + 1 + 1) from by rw [HK1.out, if_pos (by rw [HB.out]; simp [hl])])
        have t1 : (y0 == x0) = true := by simp [hf]
        have t2 : (y2 == x2) = false := by simp; omega
        clear HK1 HB hf hl
        go_wp2
        go_quiet (fail)
        go_wp2
        go_roundg g'
        case measure => omega
        case rel => exact ⟨j + 1 + 1, by go_num, by omega, HT2, below_drewN (Hbel.out.alloc hz2 _) _⟩
      have HF := Lib.hid (show T = false from by rw [HK1.out, if_neg (by rw [HB.out]; simp [hf, hl])])
      have t1 : (y0 == x0) = true := by simp [hf]
      have t2 : (y2 == x2) = true := by simp [hl]
      clear HK1 HB hf hl
      go_wp2
      go_quiet (fail)
      go_wp2
      go_ret
      exact ⟨by rw [HF.out]; rfl, below_drewN ((Hb1.out.trans (Hbel.out.mono hz)).alloc (Nat.le_of_lt hwr) _) _⟩
    · have e : g = 0 := by omega
      subst e
      have HF := Lib.hid (show T = true from HK.out)
      have Hbz := Lib.hid (Hb1.out.trans (hbel.mono hz))
      have r2 : wr.cell? ⟨w.heap.size, 2, none⟩ = some (.slice a n c) := (hbel.cell (p := ⟨w.heap.size, 2, none⟩) m1).trans q0
      clear HK hbel hg hb1 hcell
      go_wp2
      go_ret
      exact ⟨by rw [HF.out]; rfl, Hbz.out⟩
set_option maxHeartbeats 1000000 in
set_option maxRecDepth 10000 in
theorem l15Resolving_c {w : World} {v : Value} {l : Lb} (h : LabR w v l) :
    Calls Tryd.prog 51 #[v] w fun e w' => e = .returned (.bool (allF (resB l.2.2) l.2.2.length 0)) ∧ Below w.heap.size w w' := by
  obtain ⟨L, S, xs⟩ := l
  obtain ⟨va, rfl, hlen, a, c, rfl, _, _, _, hcell⟩ := h
  have HT0 := Lib.hid (show allF (resB xs) xs.length 0 = allF (resB xs) xs.length 0 from rfl)
  simp only at hcell hlen
  simp only
  obtain ⟨n, hn⟩ : ∃ n, n = xs.length := ⟨_, rfl⟩
  have Hn := Lib.hid hn
  rw [← hn] at hcell hlen HT0 ⊢
  clear hn
  obtain ⟨T, hT⟩ : ∃ T, T = allF (resB xs) n 0 := ⟨_, rfl⟩
  rw [← hT]
  have HT := Lib.hid hT
  clear hT HT0
  go_enter Tryd.func51, Tryd.ntmps51
  have q0 : (w.alloc (.cells #[.int .i64 L, .int .i64 S, .slice a n c] 26)).cell? ⟨w.heap.size, 2, none⟩ = some (.slice a n c) := by simp
  have hb1 : Below w.heap.size w (w.alloc (.cells #[.int .i64 L, .int .i64 S, .slice a n c] 26)) := (Below.refl _ _).alloc (Nat.le_refl _) _
  have m1 : w.heap.size < (w.alloc (.cells #[.int .i64 L, .int .i64 S, .slice a n c] 26)).heap.size := by simp
  go_wp2
  generalize w.alloc (.cells #[.int .i64 L, .int .i64 S, .slice a n c] 26) = w1 at *
  have Hb1 := Lib.hid hb1
  have hz := hb1.size
  go_loopg [3] (n - 1) (fun g i wr => ∃ (k : Nat), i = .int .i64 ((k : Int) + 1) ∧ (k + 1 + g = n ∨ n = 0 ∧ g = 0) ∧ Hid (T = allF (resB xs) g (k + 1)) ∧ Below w1.heap.size w1 wr)
  case atStart => exact ⟨0, rfl, by omega, Lib.hid (by rw [HT.out]; exact resB_first xs n), Below.refl _ _⟩
  case round =>
    obtain ⟨k, rfl, hk, HK, hbel⟩ := hrel
    obtain ⟨g, hg⟩ : ∃ g, g = gk := ⟨_, rfl⟩
    rw [← hg] at HK hk
    by_cases hlt : k + 1 < n
    · obtain ⟨g', rfl⟩ : ∃ t, g = t + 1 := ⟨g - 1, by omega⟩
      obtain ⟨j, rfl⟩ : ∃ j, j = k := ⟨_, rfl⟩
      have HK1 := Lib.hid (show T = if resB xs (j + 1) = true then allF (resB xs) g' (j + 1 + 1) else false from HK.out)
      obtain ⟨b, o, rfl, hb, hx0⟩ := hcell (by omega)
      have r2 : wr.cell? ⟨w.heap.size, 2, none⟩ = some (.slice (some ⟨b, o, none⟩) n c) := (hbel.cell (p := ⟨w.heap.size, 2, none⟩) m1).trans q0
      have hz2 := hbel.size
      have hbr : b < wr.heap.size := by omega
      have hwr : w.heap.size < wr.heap.size := by omega
      have Hbel := Lib.hid hbel
      obtain ⟨x, hx, _⟩ := at_lt (xs := xs) (k := j + 1) (by have := Hn.out; omega)
      obtain ⟨f0, f1, f2⟩ := hx0 (j + 1) x hx
      have g0 : wr.cell? ⟨b, o + (j + 1) * 3, none⟩ = some (.int .i64 x.1) := (hbel.cell (p := ⟨b, o + (j + 1) * 3, none⟩) (by simp; omega)).trans ((hb1.cell (p := ⟨b, o + (j + 1) * 3, none⟩) hb).trans f0)
      have g1 : wr.cell? ⟨b, o + (j + 1) * 3 + 1, none⟩ = some (.int .i64 x.2.1) := (hbel.cell (p := ⟨b, o + (j + 1) * 3 + 1, none⟩) (by simp; omega)).trans ((hb1.cell (p := ⟨b, o + (j + 1) * 3 + 1, none⟩) hb).trans f1)
      have g2 : wr.cell? ⟨b, o + (j + 1) * 3 + 2, none⟩ = some (.int .i64 x.2.2) := (hbel.cell (p := ⟨b, o + (j + 1) * 3 + 2, none⟩) (by simp; omega)).trans ((hb1.cell (p := ⟨b, o + (j + 1) * 3 + 2, none⟩) hb).trans f2)
      obtain ⟨y, hy, _⟩ := at_lt (xs := xs) (k := j) (by have := Hn.out; omega)
      obtain ⟨e0, e1, e2⟩ := hx0 (j) y hy
      have p0 : wr.cell? ⟨b, o + (j) * 3, none⟩ = some (.int .i64 y.1) := (hbel.cell (p := ⟨b, o + (j) * 3, none⟩) (by simp; omega)).trans ((hb1.cell (p := ⟨b, o + (j) * 3, none⟩) hb).trans e0)
      have p1 : wr.cell? ⟨b, o + (j) * 3 + 1, none⟩ = some (.int .i64 y.2.1) := (hbel.cell (p := ⟨b, o + (j) * 3 + 1, none⟩) (by simp; omega)).trans ((hb1.cell (p := ⟨b, o + (j) * 3 + 1, none⟩) hb).trans e1)
      have p2 : wr.cell? ⟨b, o + (j) * 3 + 2, none⟩ = some (.int .i64 y.2.2) := (hbel.cell (p := ⟨b, o + (j) * 3 + 2, none⟩) (by simp; omega)).trans ((hb1.cell (p := ⟨b, o + (j) * 3 + 2, none⟩) hb).trans e2)
      have HB := Lib.hid (show resB xs (j + 1) = !(decide (y.1 = x.1) && decide (y.2.2 = x.2.2)) from by unfold resB; rw [show j + 1 - 1 = j from rfl, at3_of hx, at3_of hy]; simp)
      have hjn : (j : Int) < (n : Int) := by omega
      have hjn1 : (j : Int) + 1 < (n : Int) := by omega
      clear HK hx0 hcell hx hy f0 f1 f2 e0 e1 e2 hbel hb1
      obtain ⟨x0, x1, x2⟩ := x
      obtain ⟨y0, y1, y2⟩ := y
      simp only at g0 g1 g2 p0 p1 p2
      by_cases hf : y0 = x0
      rotate_left
      · have HT2 := Lib.hid (show T = allF (resB xs) g' (j + 1 + 1) from by rw [HK1.out, if_pos (by rw [HB.out]; simp [hf])])
        have t1 : (x0 == y0) = false := by simp; omega
        clear HK1 HB hf
        go_wp2
        go_quiet (fail)
        go_wp2
        go_roundg g'
        case measure => omega
        case rel => exact ⟨j + 1, by go_num, by omega, HT2, below_drewN Hbel.out _⟩
      by_cases hl : y2 = x2
      rotate_left
      · have HT2 := Lib.hid (show T = allF (resB xs) g' (j + 1 + 1) from by rw [HK1.out, if_pos (by rw [HB.out]; simp [hl])])
        have t1 : (x0 == y0) = true := by simp [hf]
        have t2 : (x2 == y2) = false := by simp; omega
        clear HK1 HB hf hl
        go_wp2
        go_quiet (fail)
        go_wp2
        go_roundg g'
        case measure => omega
        case rel => exact ⟨j + 1, by go_num, by omega, HT2, below_drewN Hbel.out _⟩
      have HF := Lib.hid (show T = false from by rw [HK1.out, if_neg (by rw [HB.out]; simp [hf, hl])])
      have t1 : (x0 == y0) = true := by simp [hf]
      have t2 : (x2 == y2) = true := by simp [hl]
      clear HK1 HB hf hl
      go_wp2
      go_quiet (fail)
      go_wp2
      go_ret
      exact ⟨by rw [HF.out]; rfl, below_drewN (Hb1.out.trans (Hbel.out.mono hz)) _⟩
    · have e : g = 0 := by omega
      subst e
      have HF := Lib.hid (show T = true from HK.out)
      have Hbz := Lib.hid (Hb1.out.trans (hbel.mono hz))
      have r2 : wr.cell? ⟨w.heap.size, 2, none⟩ = some (.slice a n c) := (hbel.cell (p := ⟨w.heap.size, 2, none⟩) m1).trans q0
      clear HK hbel hg hb1 hcell
      go_wp2
      go_ret
      exact ⟨by rw [HF.out]; rfl, Hbz.out⟩
set_option maxHeartbeats 400000 in
theorem impl_IsResolving_c {w : World} {v : Value} {l : Lb} (h : LabR w v l) :
    Calls Tryd.prog 28 #[v] w fun e w' => e = .returned (.bool (resolvM l)) ∧ Below w.heap.size w w' := by
  have H := Lib.hid (show resolvM l = (isLab l && allF (resB l.2.2) l.2.2.length 0) from rfl)
  have H1 := Lib.hid (fun w1 (hb : Below w.heap.size w w1) => impl_IsLabels_c (LabR.frame _ _ _ _ h hb))
  have H2 := Lib.hid (fun w1 (hb : Below w.heap.size w w1) => isResolving_c (LabR.frame _ _ _ _ h hb))
  generalize resolvM l = T at H ⊢
  generalize isLab l = p at H H1
  generalize allF (resB l.2.2) l.2.2.length 0 = q at H H2
  obtain ⟨L, S, xs⟩ := l
  obtain ⟨va, rfl, _, a, c, rfl, _, _, _, _⟩ := h
  simp only at *
  go_enter Tryd.func28, Tryd.ntmps28
  go_wp2_with fail
  obtain ⟨w1, ex, A0, c0, c1, c2, m1⟩ := boxA3_ex w 26 (.int .i64 L) (.int .i64 S) (.slice a xs.length c)
  change Calls Tryd.prog _ _ (w.alloc (.cells #[.int .i64 L, .int .i64 S, .slice a xs.length c] 26)) _
  rw [ex]
  clear ex
  refine (H1.out _ A0).mono ?_
  rintro e w2 ⟨rfl, hb2⟩
  replace c0 := (hb2.cell (p := ⟨w.heap.size, 0, none⟩) m1).trans c0
  replace c1 := (hb2.cell (p := ⟨w.heap.size, 1, none⟩) m1).trans c1
  replace c2 := (hb2.cell (p := ⟨w.heap.size, 2, none⟩) m1).trans c2
  replace A0 := A0.trans (hb2.mono A0.size)
  clear hb2
  cases p with
  | false => go_wp2; go_ret; exact ⟨by rw [H.out]; rfl, A0⟩
  | true =>
  go_wp2_with fail
  refine (H2.out _ A0).mono ?_
  rintro e w3 ⟨rfl, hb3⟩
  replace A0 := A0.trans (hb3.mono A0.size)
  clear hb3
  go_wp2
  go_ret
  exact ⟨by rw [H.out]; rfl, A0⟩
set_option maxHeartbeats 400000 in
theorem spec_IsResolving_c {w : World} {v : Value} {l : Lb} (h : LabR w v l) :
    Calls Tryd.prog 22 #[v] w fun e w' => e = .returned (.bool (resolvM l)) ∧ Below w.heap.size w w' := by
  have H := Lib.hid (show resolvM l = (isLab l && allF (resB l.2.2) l.2.2.length 0) from rfl)
  have H1 := Lib.hid (fun w1 (hb : Below w.heap.size w w1) => spec_IsLabels_c (LabR.frame _ _ _ _ h hb))
  have H2 := Lib.hid (fun w1 (hb : Below w.heap.size w w1) => l15Resolving_c (LabR.frame _ _ _ _ h hb))
  generalize resolvM l = T at H ⊢
  generalize isLab l = p at H H1
  generalize allF (resB l.2.2) l.2.2.length 0 = q at H H2
  obtain ⟨L, S, xs⟩ := l
  obtain ⟨va, rfl, _, a, c, rfl, _, _, _, _⟩ := h
  simp only at *
  go_enter Tryd.func22, Tryd.ntmps22
  go_wp2_with fail
  obtain ⟨w1, ex, A0, c0, c1, c2, m1⟩ := boxA3_ex w 26 (.int .i64 L) (.int .i64 S) (.slice a xs.length c)
  change Calls Tryd.prog _ _ (w.alloc (.cells #[.int .i64 L, .int .i64 S, .slice a xs.length c] 26)) _
  rw [ex]
  clear ex
  refine (H1.out _ A0).mono ?_
  rintro e w2 ⟨rfl, hb2⟩
  replace c0 := (hb2.cell (p := ⟨w.heap.size, 0, none⟩) m1).trans c0
  replace c1 := (hb2.cell (p := ⟨w.heap.size, 1, none⟩) m1).trans c1
  replace c2 := (hb2.cell (p := ⟨w.heap.size, 2, none⟩) m1).trans c2
  replace A0 := A0.trans (hb2.mono A0.size)
  clear hb2
  cases p with
  | false => go_wp2; go_ret; exact ⟨by rw [H.out]; rfl, A0⟩
  | true =>
  go_wp2_with fail
  refine (H2.out _ A0).mono ?_
  rintro e w3 ⟨rfl, hb3⟩
  replace A0 := A0.trans (hb3.mono A0.size)
  clear hb3
  go_wp2
  go_ret
  exact ⟨by rw [H.out]; rfl, A0⟩
end Go.Proofs.YtcilgihmaaobeaaDoor
end

section
namespace Go.Proofs.YtcilgihmaaobeaaDoor
open Go.RowKit Go.Deep Go.Sd

def popL : Nat → Nat → Nat
  | 0, _ => 0
  | f + 1, x => if x = 0 then 0 else x % 2 + popL f (x / 2)
def popN (x : Nat) : Nat := popL 12 x
def onlyL (x : Nat) : Nat → Nat → Int
  | 0, _ => -1
  | g + 1, p => if x = 2 ^ p then (p : Int) else onlyL x g (p + 1)
def onlyN (x : Nat) : Int := onlyL x 12 0
theorem two_level {p : Nat → Prop} (h : ∀ a, a < 64 → ∀ b, b < 64 → p (64 * a + b)) (x : Nat) (hx : x < 4096) : p x := by
  have h1 := h (x / 64) (by omega) (x % 64) (by omega)
  rw [show 64 * (x / 64) + x % 64 = x by omega] at h1
  exact h1
set_option maxRecDepth 100000 in
theorem only_pop (x : Nat) (hx : x < 4096) : (decide (popN x = 1)) = decide (0 ≤ onlyN x) :=
  two_level (p := fun x => (decide (popN x = 1)) = decide (0 ≤ onlyN x)) (by decide +kernel) x hx
def oc1 (x : Int) : Int := IntKind.u64.wrap (bits BinOp.and IntKind.u64 (x / 2) 6148914691236517205 + bits BinOp.and IntKind.u64 x 6148914691236517205)
def oc2 (x : Int) : Int := IntKind.u64.wrap (bits BinOp.and IntKind.u64 (x / 4) 3689348814741910323 + bits BinOp.and IntKind.u64 x 3689348814741910323)
def oc3 (x : Int) : Int := bits BinOp.and IntKind.u64 (IntKind.u64.wrap (x / 16 + x)) 1085102592571150095
def oc4 (x : Int) : Int := IntKind.u64.wrap (x + x / 256)
def oc5 (x : Int) : Int := IntKind.u64.wrap (x + x / 65536)
def oc6 (x : Int) : Int := IntKind.u64.wrap (x + x / 4294967296)
def oc7 (x : Int) : Int := bits BinOp.and IntKind.i64 (wrap64 x) 127
set_option maxRecDepth 100000 in
theorem oc_pop (x : Nat) (hx : x < 4096) : oc7 (oc6 (oc5 (oc4 (oc3 (oc2 (oc1 x)))))) = (popN x : Int) :=
  two_level (p := fun x => oc7 (oc6 (oc5 (oc4 (oc3 (oc2 (oc1 (x : Int))))))) = (popN x : Int)) (by decide +kernel) x hx
theorem popL_zero (f : Nat) : popL f 0 = 0 := by cases f <;> simp [popL]
theorem popL_le : ∀ (f x : Nat), popL f x ≤ f
  | 0, _ => Nat.le_refl _
  | f + 1, x => by
    unfold popL
    split
    · omega
    · have := popL_le f (x / 2); omega
theorem onlyL_bd (x : Nat) : ∀ (g p : Nat), -1 ≤ onlyL x g p ∧ onlyL x g p ≤ (g : Int) + p
  | 0, p => by unfold onlyL; omega
  | g + 1, p => by
    unfold onlyL
    split
    · omega
    · have := onlyL_bd x g (p + 1); omega

set_option maxHeartbeats 1000000 in
theorem l16Size_c (x : Nat) (hx : x < 4096) (w : World) : Calls Tryd.prog 44 #[.int .i64 x] w fun e w' => e = .returned (.int .i64 (popN x)) ∧ w = w' := by
  have H0 := Lib.hid (show popN x = 0 + popL 12 x from by rw [Nat.zero_add]; rfl)
  generalize popN x = T at H0 ⊢
  go_enter Tryd.func44, Tryd.ntmps44
  go_wp2
  go_loopg [0, 3] 12 (fun g s n wr => ∃ (q m : Nat), s = .int .i64 q ∧ n = .int .i64 m ∧ q < 2 ^ g ∧ g ≤ 12 ∧ m ≤ 12 - g ∧ Hid (T = m + popL g q) ∧ w = wr)
  case atStart => exact ⟨x, 0, rfl, rfl, hx, by omega, by omega, H0, rfl⟩
  case round =>
    obtain ⟨q, m, rfl, rfl, hq, hg12, hm, HK, rfl⟩ := hrel
    obtain ⟨g, hg⟩ : ∃ g, g = gk := ⟨_, rfl⟩
    rw [← hg] at hq hm HK hg12
    by_cases hq0 : q = 0
    · have HF := Lib.hid (show T = m from by rw [HK.out, hq0, popL_zero, Nat.add_zero])
      subst hq0
      clear HK H0 hg hq
      go_wp2
      go_ret
      exact ⟨by rw [HF.out]; rfl, rfl⟩
    · obtain ⟨g', rfl⟩ : ∃ t, g = t + 1 := by
        cases g with
        | zero => simp at hq; omega
        | succ t => exact ⟨t, rfl⟩
      have HK1 := Lib.hid (show T = (m + q % 2) + popL g' (q / 2) from by
        rw [HK.out]
        show m + (if q = 0 then 0 else q % 2 + popL g' (q / 2)) = _
        rw [if_neg hq0]; omega)
      have hq4 : q < 4096 := Nat.lt_of_lt_of_le hq (Nat.pow_le_pow_right (by decide) hg12)
      have hq2 := Lib.hid (show q / 2 < 2 ^ g' from by rw [Nat.pow_succ] at hq; omega)
      have hb : bits BinOp.and IntKind.i64 (q : Int) 1 = ((q % 2 : Nat) : Int) := by rw [i64_and1]; omega
      have hlt := Nat.mod_lt q (show 0 < 2 by decide)
      have e2 : (q : Int) / 2 = ((q / 2 : Nat) : Int) := by omega
      obtain ⟨r, hr⟩ : ∃ r, r = q % 2 := ⟨_, rfl⟩
      obtain ⟨z, hz⟩ : ∃ z, z = q / 2 := ⟨_, rfl⟩
      rw [← hr] at hb HK1 hlt
      rw [← hz] at e2 HK1 hq2
      clear hr hz HK H0 hq
      go_wp2
      go_roundg g'
      case measure => omega
      case rel => exact ⟨z, m + r, rfl, by go_num, hq2.out, by omega, by omega, HK1, rfl⟩
set_option maxHeartbeats 1000000 in
theorem l16Only_c (x : Nat) (_hx : x < 4096) (w : World) : Calls Tryd.prog 32 #[.int .i64 x] w fun e w' => e = .returned (.int .i64 (onlyN x)) ∧ w = w' := by
  have H0 := Lib.hid (show onlyN x = onlyL x 12 0 from rfl)
  generalize onlyN x = T at H0 ⊢
  go_enter Tryd.func32, Tryd.ntmps32
  go_wp2
  go_loopg [3] 12 (fun g i wr => ∃ (p : Nat), i = .int .i64 p ∧ p + g = 12 ∧ Hid (T = onlyL x g p) ∧ w = wr)
  case atStart => exact ⟨0, rfl, by omega, H0, rfl⟩
  case round =>
    obtain ⟨p, rfl, hp, HK, rfl⟩ := hrel
    obtain ⟨g, hg⟩ : ∃ g, g = gk := ⟨_, rfl⟩
    rw [← hg] at hp HK
    by_cases hlt : p < 12
    · obtain ⟨g', rfl⟩ : ∃ t, g = t + 1 := ⟨g - 1, by omega⟩
      have HK1 := Lib.hid (show T = if x = 2 ^ p then (p : Int) else onlyL x g' (p + 1) from HK.out)
      have h1 : 2 ^ p < 4096 := Nat.pow_lt_pow_right (n := 12) (by decide) hlt
      have hw : wrap64 ((2 : Int) ^ p) = ((2 ^ p : Nat) : Int) := by
        rw [show ((2 : Int) ^ p) = ((2 ^ p : Nat) : Int) by simp]
        generalize 2 ^ p = P at h1 ⊢
        exact IntWalk.wrap64_in _ (by omega)
      obtain ⟨P, hP⟩ : ∃ P, P = 2 ^ p := ⟨_, rfl⟩
      rw [← hP] at h1 hw HK1
      clear HK H0 hP
      by_cases he : x = P
      · have HF := Lib.hid (show T = (p : Int) from by rw [HK1.out, if_pos he])
        have t1 : ((x : Int) == (P : Int)) = true := by simp [he]
        clear HK1 he hg
        go_wp2
        go_ret
        exact ⟨by rw [HF.out]; rfl, rfl⟩
      · have HF := Lib.hid (show T = onlyL x g' (p + 1) from by rw [HK1.out, if_neg he])
        have t1 : ((x : Int) == (P : Int)) = false := by simp; omega
        clear HK1 he
        go_wp2
        go_roundg g'
        case measure => omega
        case rel => exact ⟨p + 1, by go_num, by omega, HF, rfl⟩
    · have e : g = 0 := by omega
      subst e
      have HF := Lib.hid (show T = -1 from HK.out)
      clear HK H0 hg
      go_wp2
      go_ret
      exact ⟨by rw [HF.out]; rfl, rfl⟩
set_option maxHeartbeats 1000000 in
theorem OnesCount64_c (x : Nat) (hx : x < 4096) (w : World) : Calls Tryd.prog 59 #[.int .u64 x] w fun e w' => e = .returned (.int .i64 (popN x)) ∧ w = w' := by
  have H := Lib.hid (oc_pop x hx)
  go_enter Tryd.func59, Tryd.ntmps59
  go_wp2
  go_ret
  refine ⟨?_, rfl⟩
  rw [← H.out]
  rfl
set_option maxHeartbeats 1000000 in
theorem OnesCount_c (x : Nat) (hx : x < 4096) (w : World) : Calls Tryd.prog 31 #[.int .u64 x] w fun e w' => e = .returned (.int .i64 (popN x)) ∧ w = w' := by
  have H := Lib.hid (fun w => OnesCount64_c x hx w)
  go_enter Tryd.func31, Tryd.ntmps31
  go_wp2_with fail
  refine (H.out _).mono ?_
  rintro e w' ⟨rfl, rfl⟩
  go_wp2
  go_ret
  exact ⟨rfl, rfl⟩
end Go.Proofs.YtcilgihmaaobeaaDoor
end

section
namespace Go.Proofs.YtcilgihmaaobeaaDoor
open Go.RowKit Go.Deep Go.Sd

def readB (xs : List Arc3) : List UInt8 → Nat → Nat
  | [], s => s
  | c :: l, s => readB xs l (stepN xs s ((c.toNat : Int) - 97))
theorem readB_lt {S : Int} {xs : List Arc3} (h : okArcs S xs) (hS : S ≤ 12) : ∀ (l : List UInt8) (s : Nat), s < 4096 → readB xs l s < 4096
  | [], _, hs => hs
  | _ :: l, s, _ => readB_lt h hS l _ (stepN_lt h hS s _)
theorem letB_ge {k : Int} : ∀ {l : List UInt8}, letB k l = true → ∀ c, c ∈ l → 97 ≤ c.toNat ∧ (c.toNat : Int) - 97 < k
  | [], _, c, hc => by cases hc
  | b :: l, h, c, hc => by
    have h1 : (if 97 ≤ b.toNat ∧ (b.toNat : Int) - 97 < k then letB k l else false) = true := h
    by_cases hb : 97 ≤ b.toNat ∧ (b.toNat : Int) - 97 < k
    · rw [if_pos hb] at h1
      rcases List.mem_cons.1 hc with rfl | hc
      · exact hb
      · exact letB_ge h1 c hc
    · rw [if_neg hb] at h1; cases h1
theorem str_mem (s : ByteArray) (k : Nat) (h : k < s.size) : s[k] ∈ s.data.toList := by
  have h1 := str_drop s k h
  exact List.mem_of_mem_drop (i := k) (by rw [h1]; simp)
set_option maxHeartbeats 4000000 in
set_option maxRecDepth 10000 in
theorem impl_read_c {w : World} {v : Value} {l : Lb} (h : LabR w v l) (hv : okArcs l.2.1 l.2.2) (hS : l.2.1 ≤ 12) {q0 : Nat} (hq0 : q0 < 4096) {s : ByteArray} (hs : s.size ≤ maxLen) (hw : ∀ c, c ∈ s.data.toList → 97 ≤ c.toNat) :
    Calls Tryd.prog 39 #[v, .int .i64 q0, .string s] w fun e w' => e = .returned (.int .i64 (readB l.2.2 s.data.toList q0)) ∧ Below w.heap.size w w' := by
  unfold maxLen at hs
  have Hst := Lib.hid (fun w1 (hb : Below w.heap.size w w1) q (hq : q < 4096) x => impl_step_c (LabR.frame _ _ _ _ h hb) hv hS hq x)
  obtain ⟨L, S, xs⟩ := l
  obtain ⟨va, rfl, _, a, c, rfl, _, _, _, _⟩ := h
  simp only at hv hS
  simp only at Hst
  simp only
  have H0 := Lib.hid (show readB xs s.data.toList q0 = readB xs (s.data.toList.drop 0) q0 from rfl)
  generalize readB xs s.data.toList q0 = T at H0 ⊢
  have Hlt := Lib.hid (fun q x => stepN_lt hv hS q x)
  have Hw := Lib.hid hw
  clear hw
  generalize xs.length = n at *
  clear hv hS
  go_enter Tryd.func39, Tryd.ntmps39
  have q0' : (w.alloc (.cells #[.int .i64 L, .int .i64 S, .slice a n c] 26)).cell? ⟨w.heap.size, 0, none⟩ = some (.int .i64 L) := by simp
  have q1' : (w.alloc (.cells #[.int .i64 L, .int .i64 S, .slice a n c] 26)).cell? ⟨w.heap.size, 1, none⟩ = some (.int .i64 S) := by simp
  have q2' : (w.alloc (.cells #[.int .i64 L, .int .i64 S, .slice a n c] 26)).cell? ⟨w.heap.size, 2, none⟩ = some (.slice a n c) := by simp
  have hb1 : Below w.heap.size w (w.alloc (.cells #[.int .i64 L, .int .i64 S, .slice a n c] 26)) := (Below.refl _ _).alloc (Nat.le_refl _) _
  have m1 : w.heap.size < (w.alloc (.cells #[.int .i64 L, .int .i64 S, .slice a n c] 26)).heap.size := by simp
  go_wp2
  generalize w.alloc (.cells #[.int .i64 L, .int .i64 S, .slice a n c] 26) = w1 at *
  have Hb1 := Lib.hid hb1
  have hz := hb1.size
  clear hb1
  go_loopg [1, 10] (s.size) (fun g u i wr => ∃ (k q : Nat), i = .int .i64 k ∧ u = .int .i64 q ∧ q < 4096 ∧ k + g = s.size ∧ Hid (T = readB xs (s.data.toList.drop k) q) ∧ Below w1.heap.size w1 wr)
  case atStart => exact ⟨0, q0, rfl, rfl, hq0, by omega, H0, Below.refl _ _⟩
  case round =>
    obtain ⟨k, q, rfl, rfl, hq, hk, HK, hbel⟩ := hrel
    by_cases hlt : k < s.size
    · have HK1 := Lib.hid (show T = readB xs (s.data.toList.drop (k + 1)) (stepN xs q ((s[k].toNat : Int) - 97)) from by rw [HK.out, str_drop s k hlt]; rfl)
      have hc := byte_lt s[k]
      have hc97 := Hw.out _ (str_mem s k hlt)
      have hS0 : wr.cell? ⟨w.heap.size, 0, none⟩ = some (.int .i64 L) ∧ wr.cell? ⟨w.heap.size, 1, none⟩ = some (.int .i64 S) ∧ wr.cell? ⟨w.heap.size, 2, none⟩ = some (.slice a n c) := ⟨(hbel.cell (p := ⟨w.heap.size, 0, none⟩) m1).trans q0', (hbel.cell (p := ⟨w.heap.size, 1, none⟩) m1).trans q1', (hbel.cell (p := ⟨w.heap.size, 2, none⟩) m1).trans q2'⟩
      have hSd : wr.drew.cell? ⟨w.heap.size, 0, none⟩ = some (.int .i64 L) ∧ wr.drew.cell? ⟨w.heap.size, 1, none⟩ = some (.int .i64 S) ∧ wr.drew.cell? ⟨w.heap.size, 2, none⟩ = some (.slice a n c) := hS0
      have hz2 := hbel.size
      have hwr : w.heap.size < wr.heap.size := by omega
      have Hbel := Lib.hid hbel
      have HB := Lib.hid ((Hb1.out.trans (hbel.mono hz)).drew)
      have HS := Lib.hid (fun (w2 : World) (hb3 : Below wr.heap.size wr w2) => (show w2.cell? ⟨w.heap.size, 0, none⟩ = some (.int .i64 L) ∧ w2.cell? ⟨w.heap.size, 1, none⟩ = some (.int .i64 S) ∧ w2.cell? ⟨w.heap.size, 2, none⟩ = some (.slice a n c) from ⟨(hb3.cell (p := ⟨w.heap.size, 0, none⟩) hwr).trans hS0.1, (hb3.cell (p := ⟨w.heap.size, 1, none⟩) hwr).trans hS0.2.1, (hb3.cell (p := ⟨w.heap.size, 2, none⟩) hwr).trans hS0.2.2⟩))
      have Hc := Lib.hid (Hst.out _ HB.out q hq ((s[k].toNat : Int) - 97))
      have Hl := Lib.hid (Hlt.out q ((s[k].toNat : Int) - 97))
      generalize stepN xs q ((s[k].toNat : Int) - 97) = q' at HK1 Hc Hl
      have hw8 : IntKind.u8.wrap ((s[k].toNat : Int) - 97) = (s[k].toNat : Int) - 97 := IntWalk.u8_in _ (by omega)
      have hw64 : IntKind.i64.wrap ((s[k].toNat : Int) - 97) = (s[k].toNat : Int) - 97 := IntWalk.i64_in _ (by omega)
      clear HK hbel H0 q0' q1' q2'
      go_wp2
      go_region_held3 (fun w' => w'.cell? ⟨w.heap.size, 0, none⟩ = some (.int .i64 L) ∧ w'.cell? ⟨w.heap.size, 1, none⟩ = some (.int .i64 S) ∧ w'.cell? ⟨w.heap.size, 2, none⟩ = some (.slice a n c))
        (first | with_reducible exact hS1 | with_reducible exact hSd | with_reducible exact hS0 | go_keep)
        ((first
          | (go_at_call 57; (with_reducible refine Hc.out.mono ?_); rintro e w2 ⟨rfl, hb2⟩; have hb3 := ((Below.refl wr.heap.size wr).drew).trans hb2; have hS1 := HS.out w2 hb3; have Hb3 := Lib.hid (Hbel.out.trans (hb3.mono hz2)); clear hb2 hb3)
          | fail))
      go_wp2
      go_roundg (s.size - (k + 1))
      case measure => omega
      case rel => exact ⟨k + 1, q', by go_num, rfl, Hl.out, by omega, HK1, Hb3.out⟩
    · have HF := Lib.hid (show T = q from by rw [HK.out, str_end s k hlt]; rfl)
      have Hbz := Lib.hid (Hb1.out.trans (hbel.mono hz))
      clear HK hbel H0
      go_wp2
      go_ret
      exact ⟨by rw [HF.out]; rfl, Hbz.out⟩
set_option maxHeartbeats 4000000 in
set_option maxRecDepth 10000 in
theorem spec_read_c {w : World} {v : Value} {l : Lb} (h : LabR w v l) (hv : okArcs l.2.1 l.2.2) (hS : l.2.1 ≤ 12) {q0 : Nat} (hq0 : q0 < 4096) {s : ByteArray} (hs : s.size ≤ maxLen) :
    Calls Tryd.prog 45 #[v, .int .i64 q0, .string s] w fun e w' => e = .returned (.int .i64 (readB l.2.2 s.data.toList q0)) ∧ Below w.heap.size w w' := by
  unfold maxLen at hs
  have Hst := Lib.hid (fun w1 (hb : Below w.heap.size w w1) q (hq : q < 4096) x => spec_step_c (LabR.frame _ _ _ _ h hb) hv hS hq x)
  obtain ⟨L, S, xs⟩ := l
  obtain ⟨va, rfl, _, a, c, rfl, _, _, _, _⟩ := h
  simp only at hv hS
  simp only at Hst
  simp only
  have H0 := Lib.hid (show readB xs s.data.toList q0 = readB xs (s.data.toList.drop 0) q0 from rfl)
  generalize readB xs s.data.toList q0 = T at H0 ⊢
  have Hlt := Lib.hid (fun q x => stepN_lt hv hS q x)
  generalize xs.length = n at *
  clear hv hS
  go_enter Tryd.func45, Tryd.ntmps45
  have q0' : (w.alloc (.cells #[.int .i64 L, .int .i64 S, .slice a n c] 26)).cell? ⟨w.heap.size, 0, none⟩ = some (.int .i64 L) := by simp
  have q1' : (w.alloc (.cells #[.int .i64 L, .int .i64 S, .slice a n c] 26)).cell? ⟨w.heap.size, 1, none⟩ = some (.int .i64 S) := by simp
  have q2' : (w.alloc (.cells #[.int .i64 L, .int .i64 S, .slice a n c] 26)).cell? ⟨w.heap.size, 2, none⟩ = some (.slice a n c) := by simp
  have hb1 : Below w.heap.size w (w.alloc (.cells #[.int .i64 L, .int .i64 S, .slice a n c] 26)) := (Below.refl _ _).alloc (Nat.le_refl _) _
  have m1 : w.heap.size < (w.alloc (.cells #[.int .i64 L, .int .i64 S, .slice a n c] 26)).heap.size := by simp
  go_wp2
  generalize w.alloc (.cells #[.int .i64 L, .int .i64 S, .slice a n c] 26) = w1 at *
  have Hb1 := Lib.hid hb1
  have hz := hb1.size
  clear hb1
  go_loopg [1, 7] (s.size) (fun g u i wr => ∃ (k q : Nat), i = .int .i64 k ∧ u = .int .i64 q ∧ q < 4096 ∧ k + g = s.size ∧ Hid (T = readB xs (s.data.toList.drop k) q) ∧ Below w1.heap.size w1 wr)
  case atStart => exact ⟨0, q0, rfl, rfl, hq0, by omega, H0, Below.refl _ _⟩
  case round =>
    obtain ⟨k, q, rfl, rfl, hq, hk, HK, hbel⟩ := hrel
    by_cases hlt : k < s.size
    · have HK1 := Lib.hid (show T = readB xs (s.data.toList.drop (k + 1)) (stepN xs q ((s[k].toNat : Int) - 97)) from by rw [HK.out, str_drop s k hlt]; rfl)
      have hc := byte_lt s[k]
      have hS0 : wr.cell? ⟨w.heap.size, 0, none⟩ = some (.int .i64 L) ∧ wr.cell? ⟨w.heap.size, 1, none⟩ = some (.int .i64 S) ∧ wr.cell? ⟨w.heap.size, 2, none⟩ = some (.slice a n c) := ⟨(hbel.cell (p := ⟨w.heap.size, 0, none⟩) m1).trans q0', (hbel.cell (p := ⟨w.heap.size, 1, none⟩) m1).trans q1', (hbel.cell (p := ⟨w.heap.size, 2, none⟩) m1).trans q2'⟩
      have hSd : wr.drew.cell? ⟨w.heap.size, 0, none⟩ = some (.int .i64 L) ∧ wr.drew.cell? ⟨w.heap.size, 1, none⟩ = some (.int .i64 S) ∧ wr.drew.cell? ⟨w.heap.size, 2, none⟩ = some (.slice a n c) := hS0
      have hz2 := hbel.size
      have hwr : w.heap.size < wr.heap.size := by omega
      have Hbel := Lib.hid hbel
      have HB := Lib.hid ((Hb1.out.trans (hbel.mono hz)).drew)
      have HS := Lib.hid (fun (w2 : World) (hb3 : Below wr.heap.size wr w2) => (show w2.cell? ⟨w.heap.size, 0, none⟩ = some (.int .i64 L) ∧ w2.cell? ⟨w.heap.size, 1, none⟩ = some (.int .i64 S) ∧ w2.cell? ⟨w.heap.size, 2, none⟩ = some (.slice a n c) from ⟨(hb3.cell (p := ⟨w.heap.size, 0, none⟩) hwr).trans hS0.1, (hb3.cell (p := ⟨w.heap.size, 1, none⟩) hwr).trans hS0.2.1, (hb3.cell (p := ⟨w.heap.size, 2, none⟩) hwr).trans hS0.2.2⟩))
      have Hc := Lib.hid (Hst.out _ HB.out q hq ((s[k].toNat : Int) - 97))
      have Hl := Lib.hid (Hlt.out q ((s[k].toNat : Int) - 97))
      generalize stepN xs q ((s[k].toNat : Int) - 97) = q' at HK1 Hc Hl
      have hwb : IntKind.i64.wrap (s[k].toNat : Int) = (s[k].toNat : Int) := IntWalk.i64_in _ (by omega)
      have hw64 : IntKind.i64.wrap ((s[k].toNat : Int) - 97) = (s[k].toNat : Int) - 97 := IntWalk.i64_in _ (by omega)
      clear HK hbel H0 q0' q1' q2'
      go_wp2
      go_region_held3 (fun w' => w'.cell? ⟨w.heap.size, 0, none⟩ = some (.int .i64 L) ∧ w'.cell? ⟨w.heap.size, 1, none⟩ = some (.int .i64 S) ∧ w'.cell? ⟨w.heap.size, 2, none⟩ = some (.slice a n c))
        (first | with_reducible exact hS1 | with_reducible exact hSd | with_reducible exact hS0 | go_keep)
        ((first
          | (go_at_call 33; (with_reducible refine Hc.out.mono ?_); rintro e w2 ⟨rfl, hb2⟩; have hb3 := ((Below.refl wr.heap.size wr).drew).trans hb2; have hS1 := HS.out w2 hb3; have Hb3 := Lib.hid (Hbel.out.trans (hb3.mono hz2)); clear hb2 hb3)
          | fail))
      go_wp2
      go_roundg (s.size - (k + 1))
      case measure => omega
      case rel => exact ⟨k + 1, q', by go_num, rfl, Hl.out, by omega, HK1, Hb3.out⟩
    · have HF := Lib.hid (show T = q from by rw [HK.out, str_end s k hlt]; rfl)
      have Hbz := Lib.hid (Hb1.out.trans (hbel.mono hz))
      clear HK hbel H0
      go_wp2
      go_ret
      exact ⟨by rw [HF.out]; rfl, Hbz.out⟩
end Go.Proofs.YtcilgihmaaobeaaDoor
end

section
namespace Go.Proofs.YtcilgihmaaobeaaDoor
open Go.RowKit Go.Deep Go.Sd

/-- All states. -/
def allN (S : Int) : Nat := 2 ^ S.toNat - 1
theorem shl_one (p : Nat) (h : p ≤ 12) : ∃ P : Nat, 2 ^ p = P ∧ 1 ≤ P ∧ P ≤ 4096 ∧ wrap64 ((2 : Int) ^ p) = (P : Int) := by
  have h1 : 2 ^ p ≤ 2 ^ 12 := Nat.pow_le_pow_right (by decide) h
  have h0 : 0 < 2 ^ p := Nat.pow_pos (by decide)
  refine ⟨2 ^ p, rfl, h0, h1, ?_⟩
  rw [show ((2 : Int) ^ p) = ((2 ^ p : Nat) : Int) by simp]
  generalize 2 ^ p = P at h0 h1 ⊢
  exact IntWalk.wrap64_in _ (by omega)
theorem allN_lt {S : Int} (h : S ≤ 12) : allN S < 4096 := by
  have h1 : 2 ^ S.toNat ≤ 2 ^ 12 := Nat.pow_le_pow_right (by decide) (by omega)
  have h0 : 0 < 2 ^ S.toNat := Nat.pow_pos (by decide)
  unfold allN
  omega
def readsM (l : Lb) (s : ByteArray) : Bool := isLab l && (wordM l.1 s && decide (0 < readB l.2.2 s.data.toList (allN l.2.1)))
theorem wordM_ge {k : Int} {s : ByteArray} (h : wordM k s = true) : ∀ c, c ∈ s.data.toList → 97 ≤ c.toNat := by
  unfold wordM at h
  rw [Bool.and_eq_true, Bool.and_eq_true] at h
  exact fun c hc => (letB_ge h.2.2 c hc).1
set_option maxHeartbeats 400000 in
theorem impl_all_c {w : World} {v : Value} {l : Lb} (h : LabR w v l) (h1 : 1 ≤ l.2.1) (h2 : l.2.1 ≤ 12) :
    Calls Tryd.prog 40 #[v] w fun e w' => e = .returned (.int .i64 (allN l.2.1)) ∧ Below w.heap.size w w' := by
  obtain ⟨L, S, xs⟩ := l
  obtain ⟨va, rfl, _⟩ := h
  simp only at h1 h2
  obtain ⟨p, rfl⟩ := Int.eq_ofNat_of_zero_le (show 0 ≤ S by omega)
  obtain ⟨P, hP, hP1, hP2, hw⟩ := shl_one p (by omega)
  have H := Lib.hid (show allN (p : Int) = P - 1 from by unfold allN; rw [show (p : Int).toNat = p from rfl, hP])
  clear hP
  go_enter Tryd.func40, Tryd.ntmps40
  go_wp2
  go_ret
  exact ⟨by simp only [H.out]; rw [show ((P - 1 : Nat) : Int) = (P : Int) - 1 by omega]; rfl, (Below.refl _ _).alloc (Nat.le_refl _) _⟩
set_option maxHeartbeats 1000000 in
set_option maxRecDepth 10000 in
theorem spec_ReadsWord_c {w : World} {v : Value} {l : Lb} (h : LabR w v l) {s : ByteArray} (hs : s.size ≤ maxLen) :
    Calls Tryd.prog 23 #[v, .string s] w fun e w' => e = .returned (.bool (readsM l s)) ∧ Below w.heap.size w w' := by
  have H1 := Lib.hid (fun w1 (hb : Below w.heap.size w w1) => spec_IsLabels_c (LabR.frame _ _ _ _ h hb))
  have Hfr := Lib.hid (fun w1 (hb : Below w.heap.size w w1) => LabR.frame _ _ _ _ h hb)
  have H0 := Lib.hid (show readsM l s = (isLab l && (wordM l.1 s && decide (0 < readB l.2.2 s.data.toList (allN l.2.1)))) from rfl)
  generalize readsM l s = T at H0 ⊢
  have Hok := Lib.hid (fun h => isLab_ok (l := l) h)
  generalize hil : isLab l = il at H0 H1 Hok
  clear hil
  obtain ⟨L, S, xs⟩ := l
  obtain ⟨va, rfl, _, a, c, rfl, _, _, _, _⟩ := h
  have Hwd := Lib.hid (fun w1 => spec_IsWord_c L s w1 hs)
  have Hs := Lib.hid hs
  clear hs
  simp only at *
  generalize hn : xs.length = n at *
  clear hn
  generalize hwb : wordM L s = wb at Hwd H0
  clear hwb
  cases il with
  | false =>
    have HF := Lib.hid (show T = false from by rw [H0.out]; rfl)
    clear H0 Hok Hfr
    go_enter Tryd.func23, Tryd.ntmps23
    go_wp2_with fail
    obtain ⟨w1, ex, A0, c0, c1, c2, m1⟩ := boxA3_ex w 26 (.int .i64 L) (.int .i64 S) (.slice a n c)
    change Calls Tryd.prog _ _ (w.alloc (.cells #[.int .i64 L, .int .i64 S, .slice a n c] 26)) _
    rw [ex]
    clear ex
    refine (H1.out _ A0).mono ?_
    rintro e w2 ⟨rfl, hb⟩
    replace c0 := (hb.cell (p := ⟨w.heap.size, 0, none⟩) m1).trans c0
    replace c1 := (hb.cell (p := ⟨w.heap.size, 1, none⟩) m1).trans c1
    replace c2 := (hb.cell (p := ⟨w.heap.size, 2, none⟩) m1).trans c2
    replace m1 := Nat.lt_of_lt_of_le m1 hb.size
    replace A0 := A0.trans (hb.mono A0.size)
    clear hb
    go_wp2
    go_ret
    exact ⟨by rw [HF.out]; rfl, A0⟩
  | true =>
  obtain ⟨ho, hS1, hS2, hL1, hL2⟩ := Hok.out rfl
  have Hrd := Lib.hid (fun w1 (hb : Below w.heap.size w w1) => spec_read_c (Hfr.out w1 hb) ho hS2 (allN_lt hS2) Hs.out)
  simp only at *
  clear Hok Hfr ho
  obtain ⟨p, rfl⟩ := Int.eq_ofNat_of_zero_le (show 0 ≤ S by omega)
  obtain ⟨P, hP, hP1, hP2, hw⟩ := shl_one p (by omega)
  have Ha := Lib.hid (show allN (p : Int) = P - 1 from by unfold allN; rw [show (p : Int).toNat = p from rfl, hP])
  rw [Ha.out] at H0 Hrd
  clear hP Ha
  generalize readB xs s.data.toList (P - 1) = r at H0 Hrd
  have hcP : ((P - 1 : Nat) : Int) = (P : Int) - 1 := by omega
  rw [hcP] at Hrd
  clear hcP
  cases wb with
  | false =>
    have HF := Lib.hid (show T = false from by rw [H0.out]; rfl)
    clear H0 Hrd
    go_enter Tryd.func23, Tryd.ntmps23
    go_wp2_with fail
    obtain ⟨w1, ex, A0, c0, c1, c2, m1⟩ := boxA3_ex w 26 (.int .i64 L) (.int .i64 p) (.slice a n c)
    change Calls Tryd.prog _ _ (w.alloc (.cells #[.int .i64 L, .int .i64 p, .slice a n c] 26)) _
    rw [ex]
    clear ex
    refine (H1.out _ A0).mono ?_
    rintro e w2 ⟨rfl, hb⟩
    replace c0 := (hb.cell (p := ⟨w.heap.size, 0, none⟩) m1).trans c0
    replace c1 := (hb.cell (p := ⟨w.heap.size, 1, none⟩) m1).trans c1
    replace c2 := (hb.cell (p := ⟨w.heap.size, 2, none⟩) m1).trans c2
    replace m1 := Nat.lt_of_lt_of_le m1 hb.size
    replace A0 := A0.trans (hb.mono A0.size)
    clear hb
    go_wp2_with fail
    refine (Hwd.out _).mono ?_
    rintro e w' ⟨rfl, rfl⟩
    go_wp2
    go_ret
    exact ⟨by rw [HF.out]; rfl, A0⟩
  | true =>
    have HF := Lib.hid (show T = decide (0 < r) from by rw [H0.out]; rfl)
    clear H0
    go_enter Tryd.func23, Tryd.ntmps23
    go_wp2_with fail
    obtain ⟨w1, ex, A0, c0, c1, c2, m1⟩ := boxA3_ex w 26 (.int .i64 L) (.int .i64 p) (.slice a n c)
    change Calls Tryd.prog _ _ (w.alloc (.cells #[.int .i64 L, .int .i64 p, .slice a n c] 26)) _
    rw [ex]
    clear ex
    refine (H1.out _ A0).mono ?_
    rintro e w2 ⟨rfl, hb⟩
    replace c0 := (hb.cell (p := ⟨w.heap.size, 0, none⟩) m1).trans c0
    replace c1 := (hb.cell (p := ⟨w.heap.size, 1, none⟩) m1).trans c1
    replace c2 := (hb.cell (p := ⟨w.heap.size, 2, none⟩) m1).trans c2
    replace m1 := Nat.lt_of_lt_of_le m1 hb.size
    replace A0 := A0.trans (hb.mono A0.size)
    clear hb
    go_wp2_with fail
    refine (Hwd.out _).mono ?_
    rintro e w' ⟨rfl, rfl⟩
    go_wp2_with fail
    refine (Hrd.out _ A0).mono ?_
    rintro e w3 ⟨rfl, hb⟩
    replace c0 := (hb.cell (p := ⟨w.heap.size, 0, none⟩) m1).trans c0
    replace c1 := (hb.cell (p := ⟨w.heap.size, 1, none⟩) m1).trans c1
    replace c2 := (hb.cell (p := ⟨w.heap.size, 2, none⟩) m1).trans c2
    replace m1 := Nat.lt_of_lt_of_le m1 hb.size
    replace A0 := A0.trans (hb.mono A0.size)
    clear hb
    go_wp2
    go_ret
    exact ⟨by rw [HF.out]; rfl, A0⟩
end Go.Proofs.YtcilgihmaaobeaaDoor
end
