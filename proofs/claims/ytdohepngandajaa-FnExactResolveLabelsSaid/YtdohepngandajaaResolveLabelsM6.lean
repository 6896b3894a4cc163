/-
  Texts of this claim joined: laws for its walks, contracts of the functions that the law reaches.
-/
import Derived.Test.YtdohepngandajaaRows
import Derived.Test.YtdohepngandajaaResolveLabelsM1
import Derived.Test.YtdohepngandajaaResolveLabelsM3
import Derived.Test.YtdohepngandajaaResolveLabelsM4
import Derived.Test.YtdohepngandajaaResolveLabelsM2
import Derived.IntWalk
import Derived.Deep.RegionHeld3
import Derived.Deep.DeepCutAuto
import Derived.Test.YtdohepngandajaaResolveLabelsM5
import Derived.StillTailTactics
section
/-
  Which labelled graphs are valid, the reference's.
-/
namespace Go.Proofs.Ytdohepngandajaa
open Go.RowKit Go.Deep Go.Sd

def inW (a lim : Int) : Bool := decide (0 ≤ a) && decide (a ≤ wrap64 (lim - 1))
def arcBW (L S : Int) (xs : List Arc3) (k : Nat) : Bool := (inW (at3 xs k).1 S && (inW (at3 xs k).2.1 S && inW (at3 xs k).2.2 L)) && (decide (k = 0) || before (at3 xs (k - 1)) (at3 xs k))
theorem allF_congr {f g : Nat → Bool} (h : ∀ k, f k = g k) : ∀ m k, allF f m k = allF g m k
  | 0, _ => rfl
  | m + 1, k => by
    show (if f k = true then allF f m (k + 1) else false) = if g k = true then allF g m (k + 1) else false
    rw [h k, allF_congr h m (k + 1)]
theorem inW_of {a lim : Int} (h1 : 1 ≤ lim) (h2 : lim ≤ 12) : inW a lim = decide (0 ≤ a ∧ a < lim) := by
  unfold inW
  rw [show wrap64 (lim - 1) = lim - 1 from IntWalk.wrap64_in _ (by omega)]
  by_cases h : 0 ≤ a ∧ a < lim
  · rw [decide_eq_true h, decide_eq_true h.1, decide_eq_true (show a ≤ lim - 1 by omega)]; rfl
  · rw [decide_eq_false h]
    by_cases h3 : 0 ≤ a
    · rw [decide_eq_true h3, decide_eq_false (show ¬ a ≤ lim - 1 by omega)]; rfl
    · rw [decide_eq_false h3]; rfl
theorem inW_yes {a lim : Int} (h : inW a lim = true) : 0 ≤ a ∧ a ≤ IntKind.i64.wrap (lim - 1) := by
  unfold inW at h
  rw [← IntWalk.i64_left] at h
  rw [Bool.and_eq_true, decide_eq_true_eq, decide_eq_true_eq] at h
  exact h
theorem isLab_spec (L S : Int) (xs : List Arc3) : isLab (L, S, xs) = (allF (arcBW L S xs) xs.length 0 && (decide (1 ≤ L ∧ L ≤ 3) && decide (1 ≤ S ∧ S ≤ 12))) := by
  show (decide (1 ≤ L ∧ L ≤ 3) && (decide (1 ≤ S ∧ S ≤ 12) && allF (arcB L S xs) xs.length 0)) = _
  by_cases hL : 1 ≤ L ∧ L ≤ 3
  · by_cases hS : 1 ≤ S ∧ S ≤ 12
    · rw [allF_congr (f := arcB L S xs) (g := arcBW L S xs) fun k => by
        unfold arcB arcBW arcOk
        rw [inW_of hS.1 hS.2, inW_of hS.1 hS.2, inW_of hL.1 (by omega)]
        congr 1
        rw [← Bool.decide_and, ← Bool.decide_and]
        exact decide_eq_decide.2 ⟨fun h => ⟨⟨h.1, h.2.1⟩, ⟨h.2.2.1, h.2.2.2.1⟩, h.2.2.2.2⟩, fun h => ⟨h.1.1, h.1.2, h.2.1.1, h.2.1.2, h.2.2⟩⟩]
      rw [decide_eq_true hL, decide_eq_true hS]
      simp
    · rw [decide_eq_false hS]; simp
  · rw [decide_eq_false hL]; simp

set_option maxHeartbeats 40000000 in
set_option maxRecDepth 10000 in
theorem spec_IsLabels_c {w : World} {v : Value} {l : Lb} (h : LabR w v l) :
    Calls Try.prog 74 #[v] w fun e w' => e = .returned (.bool (isLab l)) ∧ Below w.heap.size w w' := by
  obtain ⟨L, S, xs⟩ := l
  obtain ⟨va, rfl, hlen, a, c, rfl, _, _, _, hcell⟩ := h
  have H := Lib.hid (isLab_spec L S xs)
  generalize isLab (L, S, xs) = T at H ⊢
  obtain ⟨n, hn⟩ : ∃ n, n = xs.length := ⟨_, rfl⟩
  have Hn := Lib.hid hn
  simp only at hcell hlen
  simp only
  rw [← hn] at hcell hlen H ⊢
  clear hn
  have HL := Lib.hid (fun w => l1In_c L 1 3 w)
  have HS := Lib.hid (fun w => l1In_c S 1 12 w)
  go_enter Try.func74, Try.ntmps74
  have qq0 : (w.alloc (.cells #[.int .i64 L, .int .i64 S, .slice a n c] 28)).cell? ⟨w.heap.size, 0, none⟩ = some (.int .i64 L) := by simp
  have qq1 : (w.alloc (.cells #[.int .i64 L, .int .i64 S, .slice a n c] 28)).cell? ⟨w.heap.size, 1, none⟩ = some (.int .i64 S) := by simp
  have qq2 : (w.alloc (.cells #[.int .i64 L, .int .i64 S, .slice a n c] 28)).cell? ⟨w.heap.size, 2, none⟩ = some (.slice a n c) := by simp
  have hb1 : Below w.heap.size w (w.alloc (.cells #[.int .i64 L, .int .i64 S, .slice a n c] 28)) := (Below.refl _ _).alloc (Nat.le_refl _) _
  have m1 : w.heap.size < (w.alloc (.cells #[.int .i64 L, .int .i64 S, .slice a n c] 28)).heap.size := by simp
  go_wp2
  generalize w.alloc (.cells #[.int .i64 L, .int .i64 S, .slice a n c] 28) = w1 at *
  have Hb1 := Lib.hid hb1
  have hz := hb1.size
  go_loopg [3] n (fun g i wr => ∃ (k : Nat), i = .int .i64 k ∧ k + g = n ∧ Hid (T = (allF (arcBW L S xs) g k && (decide (1 ≤ L ∧ L ≤ 3) && decide (1 ≤ S ∧ S ≤ 12)))) ∧ Below w1.heap.size w1 wr)
  case atStart => exact ⟨0, rfl, by omega, H, Below.refl _ _⟩
  case round =>
    obtain ⟨k, rfl, hk, HK, hbel⟩ := hrel
    obtain ⟨g, hg⟩ : ∃ g, g = gk := ⟨_, rfl⟩
    rw [← hg] at HK hk
    clear H
    by_cases hlt : k < n
    · obtain ⟨g', rfl⟩ : ∃ t, g = t + 1 := ⟨g - 1, by omega⟩
      have HK1 := Lib.hid (show T = ((if arcBW L S xs k = true then allF (arcBW L S xs) g' (k + 1) else false) && (decide (1 ≤ L ∧ L ≤ 3) && decide (1 ≤ S ∧ S ≤ 12))) from HK.out)
      obtain ⟨b, o, rfl, hb, hx0⟩ := hcell (by omega)
      obtain ⟨x, hx, _⟩ := at_lt (xs := xs) (k := k) (by have := Hn.out; omega)
      obtain ⟨f0, f1, f2⟩ := hx0 k x hx
      have g0 : wr.cell? ⟨b, o + k * 3, none⟩ = some (.int .i64 x.1) := (hbel.cell (p := ⟨b, o + k * 3, none⟩) (by simp; omega)).trans ((hb1.cell (p := ⟨b, o + k * 3, none⟩) hb).trans f0)
      have g1 : wr.cell? ⟨b, o + k * 3 + 1, none⟩ = some (.int .i64 x.2.1) := (hbel.cell (p := ⟨b, o + k * 3 + 1, none⟩) (by simp; omega)).trans ((hb1.cell (p := ⟨b, o + k * 3 + 1, none⟩) hb).trans f1)
      have g2 : wr.cell? ⟨b, o + k * 3 + 2, none⟩ = some (.int .i64 x.2.2) := (hbel.cell (p := ⟨b, o + k * 3 + 2, none⟩) (by simp; omega)).trans ((hb1.cell (p := ⟨b, o + k * 3 + 2, none⟩) hb).trans f2)
      have r0 : wr.cell? ⟨w.heap.size, 0, none⟩ = some (.int .i64 L) := (hbel.cell (p := ⟨w.heap.size, 0, none⟩) m1).trans qq0
      have r1 : wr.cell? ⟨w.heap.size, 1, none⟩ = some (.int .i64 S) := (hbel.cell (p := ⟨w.heap.size, 1, none⟩) m1).trans qq1
      have r2 : wr.cell? ⟨w.heap.size, 2, none⟩ = some (.slice (some ⟨b, o, none⟩) n c) := (hbel.cell (p := ⟨w.heap.size, 2, none⟩) m1).trans qq2
      have hz2 := hbel.size
      have hbr : b < wr.heap.size := by omega
      have hwr : w.heap.size < wr.heap.size := by omega
      have Hbel := Lib.hid hbel
      have HA := Lib.hid (at3_of hx)
      have H0 := Lib.hid (fun w => (show Calls Try.prog 75 #[.int .i64 x.1, .int .i64 0, .int .i64 (wrap64 (S - 1))] w fun e w' => e = .returned (.bool (inW x.1 S)) ∧ w = w' from l1In_c x.1 0 (wrap64 (S - 1)) w))
      have H1 := Lib.hid (fun w => (show Calls Try.prog 75 #[.int .i64 x.2.1, .int .i64 0, .int .i64 (wrap64 (S - 1))] w fun e w' => e = .returned (.bool (inW x.2.1 S)) ∧ w = w' from l1In_c x.2.1 0 (wrap64 (S - 1)) w))
      have H2 := Lib.hid (fun w => (show Calls Try.prog 75 #[.int .i64 x.2.2, .int .i64 0, .int .i64 (wrap64 (L - 1))] w fun e w' => e = .returned (.bool (inW x.2.2 L)) ∧ w = w' from l1In_c x.2.2 0 (wrap64 (L - 1)) w))
      have HBW := Lib.hid (show arcBW L S xs k = ((inW x.1 S && (inW x.2.1 S && inW x.2.2 L)) && (decide (k = 0) || before (at3 xs (k - 1)) x)) from by unfold arcBW; rw [HA.out])
      have Hy := Lib.hid (fun j (hj : k = j + 1) => show ∃ y, at3 xs j = y ∧ wr.cell? ⟨b, o + j * 3, none⟩ = some (.int .i64 y.1) ∧ wr.cell? ⟨b, o + j * 3 + 1, none⟩ = some (.int .i64 y.2.1) ∧ wr.cell? ⟨b, o + j * 3 + 2, none⟩ = some (.int .i64 y.2.2) from by
        obtain ⟨y, hy, _⟩ := at_lt (xs := xs) (k := j) (by have := Hn.out; omega)
        obtain ⟨e0, e1, e2⟩ := hx0 j y hy
        exact ⟨y, at3_of hy, (hbel.cell (p := ⟨b, o + j * 3, none⟩) (by simp; omega)).trans ((hb1.cell (p := ⟨b, o + j * 3, none⟩) hb).trans e0), (hbel.cell (p := ⟨b, o + j * 3 + 1, none⟩) (by simp; omega)).trans ((hb1.cell (p := ⟨b, o + j * 3 + 1, none⟩) hb).trans e1), (hbel.cell (p := ⟨b, o + j * 3 + 2, none⟩) (by simp; omega)).trans ((hb1.cell (p := ⟨b, o + j * 3 + 2, none⟩) hb).trans e2)⟩)
      clear HK hx0 hcell hx f0 f1 f2 HA hbel hb1 HL HS
      obtain ⟨x0, x1, x2⟩ := x
      simp only at g0 g1 g2 H0 H1 H2 HBW
      generalize hb0 : inW x0 S = b0 at H0 HBW
      have E0 := Lib.hid hb0
      clear hb0
      generalize hb1 : inW x1 S = b1 at H1 HBW
      have E1 := Lib.hid hb1
      clear hb1
      generalize hb2 : inW x2 L = b2 at H2 HBW
      have E2 := Lib.hid hb2
      clear hb2
      go_wp2
      obtain ⟨wn, ex, hbn0, c0, c1, c2, mn⟩ := boxA3_ex wr 72 (.int .i64 x0) (.int .i64 x1) (.int .i64 x2)
      rw [ex]
      clear ex g0 g1 g2
      have hwn : w.heap.size < wn.heap.size := by omega
      have hbn : b < wn.heap.size := by omega
      replace r0 := (hbn0.cell (p := ⟨w.heap.size, 0, none⟩) hwr).trans r0
      replace r1 := (hbn0.cell (p := ⟨w.heap.size, 1, none⟩) hwr).trans r1
      replace r2 := (hbn0.cell (p := ⟨w.heap.size, 2, none⟩) hwr).trans r2
      have Hbn := Lib.hid (Hbel.out.trans (hbn0.mono hz2))
      have hzn : w1.heap.size ≤ wn.heap.size := by omega
      have hS0 : wn.cell? ⟨wr.heap.size, 0, none⟩ = some (.int .i64 x0) ∧ wn.cell? ⟨wr.heap.size, 1, none⟩ = some (.int .i64 x1) ∧ wn.cell? ⟨wr.heap.size, 2, none⟩ = some (.int .i64 x2) ∧ wn.cell? ⟨w.heap.size, 0, none⟩ = some (.int .i64 L) ∧ wn.cell? ⟨w.heap.size, 1, none⟩ = some (.int .i64 S) ∧ wn.cell? ⟨w.heap.size, 2, none⟩ = some (.slice (some ⟨b, o, none⟩) n c) := ⟨c0, c1, c2, r0, r1, r2⟩
      have hSd : wn.drew.cell? ⟨wr.heap.size, 0, none⟩ = some (.int .i64 x0) ∧ wn.drew.cell? ⟨wr.heap.size, 1, none⟩ = some (.int .i64 x1) ∧ wn.drew.cell? ⟨wr.heap.size, 2, none⟩ = some (.int .i64 x2) ∧ wn.drew.cell? ⟨w.heap.size, 0, none⟩ = some (.int .i64 L) ∧ wn.drew.cell? ⟨w.heap.size, 1, none⟩ = some (.int .i64 S) ∧ wn.drew.cell? ⟨w.heap.size, 2, none⟩ = some (.slice (some ⟨b, o, none⟩) n c) := hS0
      have Hbn0 := Lib.hid hbn0
      have hbw := Hb1.out.trans (Hbn.out.mono hz)
      have Hbw := Lib.hid hbw
      clear hbn0 hbw
      cases b0 with
      | false =>
        have HF := Lib.hid (show T = false from by rw [HK1.out, if_neg (by rw [HBW.out]; simp)]; rfl)
        clear HK1 HBW Hy Hbn0 hS0 hSd
        have Q0 := Lib.hid (fun q => (H0.out (wn.drewN q)).mono (fun e w'' h => (⟨h.1, q, h.2.symm⟩ : e = .returned (.bool false) ∧ ∃ q', w'' = wn.drewN q')))
        refine wp_region_quiet_lit (by kernel_rfl) (by kernel_rfl) ?_
        repeat (go_big_quiet_step (fail))
        go_big_quiet_step ((with_reducible exact Q0.out _))
        repeat (go_big_quiet_step (fail))
        refine wpQuiet_nil ?_
        intro _ hw'
        obtain ⟨nq, hw''⟩ := hw'
        subst hw''
        go_wp2
        go_ret
        exact ⟨by rw [HF.out]; rfl, below_drewN Hbw.out _⟩
      | true =>
      cases b1 with
      | false =>
        have HF := Lib.hid (show T = false from by rw [HK1.out, if_neg (by rw [HBW.out]; simp)]; rfl)
        clear HK1 HBW Hy Hbn0 hS0 hSd
        have Q0 := Lib.hid (fun q => (H0.out (wn.drewN q)).mono (fun e w'' h => (⟨h.1, q, h.2.symm⟩ : e = .returned (.bool true) ∧ ∃ q', w'' = wn.drewN q')))
        have Q1 := Lib.hid (fun q => (H1.out (wn.drewN q)).mono (fun e w'' h => (⟨h.1, q, h.2.symm⟩ : e = .returned (.bool false) ∧ ∃ q', w'' = wn.drewN q')))
        refine wp_region_quiet_lit (by kernel_rfl) (by kernel_rfl) ?_
        repeat (go_big_quiet_step (fail))
        go_big_quiet_step ((with_reducible exact Q0.out _))
        repeat (go_big_quiet_step (fail))
        go_big_quiet_step ((with_reducible exact Q1.out _))
        repeat (go_big_quiet_step (fail))
        refine wpQuiet_nil ?_
        intro _ hw'
        obtain ⟨nq, hw''⟩ := hw'
        subst hw''
        go_wp2
        go_ret
        exact ⟨by rw [HF.out]; rfl, below_drewN Hbw.out _⟩
      | true =>
      cases b2 with
      | false =>
        have HF := Lib.hid (show T = false from by rw [HK1.out, if_neg (by rw [HBW.out]; simp)]; rfl)
        clear HK1 HBW Hy Hbn0 hS0 hSd
        have Q0 := Lib.hid (fun q => (H0.out (wn.drewN q)).mono (fun e w'' h => (⟨h.1, q, h.2.symm⟩ : e = .returned (.bool true) ∧ ∃ q', w'' = wn.drewN q')))
        have Q1 := Lib.hid (fun q => (H1.out (wn.drewN q)).mono (fun e w'' h => (⟨h.1, q, h.2.symm⟩ : e = .returned (.bool true) ∧ ∃ q', w'' = wn.drewN q')))
        have Q2 := Lib.hid (fun q => (H2.out (wn.drewN q)).mono (fun e w'' h => (⟨h.1, q, h.2.symm⟩ : e = .returned (.bool false) ∧ ∃ q', w'' = wn.drewN q')))
        refine wp_region_quiet_lit (by kernel_rfl) (by kernel_rfl) ?_
        repeat (go_big_quiet_step (fail))
        go_big_quiet_step ((with_reducible exact Q0.out _))
        repeat (go_big_quiet_step (fail))
        go_big_quiet_step ((with_reducible exact Q1.out _))
        repeat (go_big_quiet_step (fail))
        go_big_quiet_step ((with_reducible exact Q2.out _))
        repeat (go_big_quiet_step (fail))
        refine wpQuiet_nil ?_
        intro _ hw'
        obtain ⟨nq, hw''⟩ := hw'
        subst hw''
        go_wp2
        go_ret
        exact ⟨by rw [HF.out]; rfl, below_drewN Hbw.out _⟩
      | true =>
      by_cases hk0 : k = 0
      · have HT2 := Lib.hid (show T = (allF (arcBW L S xs) g' (k + 1) && (decide (1 ≤ L ∧ L ≤ 3) && decide (1 ≤ S ∧ S ≤ 12))) from by rw [HK1.out, if_pos (by rw [HBW.out]; simp [hk0])])
        clear HK1 HBW Hy Hbn0 hS0 hSd
        subst hk0
        have Q0 := Lib.hid (fun q => (H0.out (wn.drewN q)).mono (fun e w'' h => (⟨h.1, q, h.2.symm⟩ : e = .returned (.bool true) ∧ ∃ q', w'' = wn.drewN q')))
        have Q1 := Lib.hid (fun q => (H1.out (wn.drewN q)).mono (fun e w'' h => (⟨h.1, q, h.2.symm⟩ : e = .returned (.bool true) ∧ ∃ q', w'' = wn.drewN q')))
        have Q2 := Lib.hid (fun q => (H2.out (wn.drewN q)).mono (fun e w'' h => (⟨h.1, q, h.2.symm⟩ : e = .returned (.bool true) ∧ ∃ q', w'' = wn.drewN q')))
        refine wp_region_quiet_lit (by kernel_rfl) (by kernel_rfl) ?_
        repeat (go_big_quiet_step (fail))
        go_big_quiet_step ((with_reducible exact Q0.out _))
        repeat (go_big_quiet_step (fail))
        go_big_quiet_step ((with_reducible exact Q1.out _))
        repeat (go_big_quiet_step (fail))
        go_big_quiet_step ((with_reducible exact Q2.out _))
        repeat (go_big_quiet_step (fail))
        refine wpQuiet_nil ?_
        intro _ hw'
        obtain ⟨nq, hw''⟩ := hw'
        subst hw''
        go_wp2
        go_roundg g'
        case measure => omega
        case rel => exact ⟨0 + 1, by go_num, by omega, HT2, below_drewN Hbn.out _⟩
      obtain ⟨j, rfl⟩ : ∃ j, k = j + 1 := ⟨k - 1, by omega⟩
      obtain ⟨y, hya, p0, p1, p2⟩ := Hy.out j rfl
      have HBW2 := Lib.hid (show arcBW L S xs (j + 1) = before y (x0, x1, x2) from by rw [HBW.out, show j + 1 - 1 = j from rfl, hya]; simp)
      have Hcc := Lib.hid (fun w => l14Before_c y (x0, x1, x2) w)
      replace p0 := (Hbn0.out.cell (p := ⟨b, o + j * 3, none⟩) hbr).trans p0
      replace p1 := (Hbn0.out.cell (p := ⟨b, o + j * 3 + 1, none⟩) hbr).trans p1
      replace p2 := (Hbn0.out.cell (p := ⟨b, o + j * 3 + 2, none⟩) hbr).trans p2
      clear HBW Hy Hbn0 hya hk0 hS0 hSd
      obtain ⟨y0, y1, y2⟩ := y
      simp only at p0 p1 p2
      have hS0 : wn.cell? ⟨wr.heap.size, 0, none⟩ = some (.int .i64 x0) ∧ wn.cell? ⟨wr.heap.size, 1, none⟩ = some (.int .i64 x1) ∧ wn.cell? ⟨wr.heap.size, 2, none⟩ = some (.int .i64 x2) ∧ wn.cell? ⟨w.heap.size, 0, none⟩ = some (.int .i64 L) ∧ wn.cell? ⟨w.heap.size, 1, none⟩ = some (.int .i64 S) ∧ wn.cell? ⟨w.heap.size, 2, none⟩ = some (.slice (some ⟨b, o, none⟩) n c) ∧ wn.cell? ⟨b, o + j * 3, none⟩ = some (.int .i64 y0) ∧ wn.cell? ⟨b, o + j * 3 + 1, none⟩ = some (.int .i64 y1) ∧ wn.cell? ⟨b, o + j * 3 + 2, none⟩ = some (.int .i64 y2) := ⟨c0, c1, c2, r0, r1, r2, p0, p1, p2⟩
      have hSd : wn.drew.cell? ⟨wr.heap.size, 0, none⟩ = some (.int .i64 x0) ∧ wn.drew.cell? ⟨wr.heap.size, 1, none⟩ = some (.int .i64 x1) ∧ wn.drew.cell? ⟨wr.heap.size, 2, none⟩ = some (.int .i64 x2) ∧ wn.drew.cell? ⟨w.heap.size, 0, none⟩ = some (.int .i64 L) ∧ wn.drew.cell? ⟨w.heap.size, 1, none⟩ = some (.int .i64 S) ∧ wn.drew.cell? ⟨w.heap.size, 2, none⟩ = some (.slice (some ⟨b, o, none⟩) n c) ∧ wn.drew.cell? ⟨b, o + j * 3, none⟩ = some (.int .i64 y0) ∧ wn.drew.cell? ⟨b, o + j * 3 + 1, none⟩ = some (.int .i64 y1) ∧ wn.drew.cell? ⟨b, o + j * 3 + 2, none⟩ = some (.int .i64 y2) := hS0
      have hjn : (j : Int) < (n : Int) := by omega
      obtain ⟨u0, v0⟩ := inW_yes E0.out
      obtain ⟨u1, v1⟩ := inW_yes E1.out
      obtain ⟨u2, v2⟩ := inW_yes E2.out
      clear H0 H1 H2 E0 E1 E2
      have hwj2 : IntKind.i64.wrap (j : Int) = (j : Int) := IntWalk.i64_in _ (by omega)
      have hj0 : (0 : Int) ≤ (j : Int) := by omega
      have hj1 : decide ((0 : Int) < (j : Int) + 1) = true := decide_eq_true (by omega)
      generalize before (y0, y1, y2) (x0, x1, x2) = bf at HBW2 Hcc
      cases bf with
      | true =>
        have HT2 := Lib.hid (show T = (allF (arcBW L S xs) g' (j + 1 + 1) && (decide (1 ≤ L ∧ L ≤ 3) && decide (1 ≤ S ∧ S ≤ 12))) from by rw [HK1.out, if_pos HBW2.out])
        clear HK1 HBW2
        have HS := Lib.hid (fun (w2 : World) (hb3 : Below wn.heap.size wn w2) => (show w2.cell? ⟨wr.heap.size, 0, none⟩ = some (.int .i64 x0) ∧ w2.cell? ⟨wr.heap.size, 1, none⟩ = some (.int .i64 x1) ∧ w2.cell? ⟨wr.heap.size, 2, none⟩ = some (.int .i64 x2) ∧ w2.cell? ⟨w.heap.size, 0, none⟩ = some (.int .i64 L) ∧ w2.cell? ⟨w.heap.size, 1, none⟩ = some (.int .i64 S) ∧ w2.cell? ⟨w.heap.size, 2, none⟩ = some (.slice (some ⟨b, o, none⟩) n c) ∧ w2.cell? ⟨b, o + j * 3, none⟩ = some (.int .i64 y0) ∧ w2.cell? ⟨b, o + j * 3 + 1, none⟩ = some (.int .i64 y1) ∧ w2.cell? ⟨b, o + j * 3 + 2, none⟩ = some (.int .i64 y2) from ⟨(hb3.cell (p := ⟨wr.heap.size, 0, none⟩) mn).trans hS0.1, (hb3.cell (p := ⟨wr.heap.size, 1, none⟩) mn).trans hS0.2.1, (hb3.cell (p := ⟨wr.heap.size, 2, none⟩) mn).trans hS0.2.2.1, (hb3.cell (p := ⟨w.heap.size, 0, none⟩) hwn).trans hS0.2.2.2.1, (hb3.cell (p := ⟨w.heap.size, 1, none⟩) hwn).trans hS0.2.2.2.2.1, (hb3.cell (p := ⟨w.heap.size, 2, none⟩) hwn).trans hS0.2.2.2.2.2.1, (hb3.cell (p := ⟨b, o + j * 3, none⟩) hbn).trans hS0.2.2.2.2.2.2.1, (hb3.cell (p := ⟨b, o + j * 3 + 1, none⟩) hbn).trans hS0.2.2.2.2.2.2.2.1, (hb3.cell (p := ⟨b, o + j * 3 + 2, none⟩) hbn).trans hS0.2.2.2.2.2.2.2.2⟩))
        go_region_held3 (fun w' => w'.cell? ⟨wr.heap.size, 0, none⟩ = some (.int .i64 x0) ∧ w'.cell? ⟨wr.heap.size, 1, none⟩ = some (.int .i64 x1) ∧ w'.cell? ⟨wr.heap.size, 2, none⟩ = some (.int .i64 x2) ∧ w'.cell? ⟨w.heap.size, 0, none⟩ = some (.int .i64 L) ∧ w'.cell? ⟨w.heap.size, 1, none⟩ = some (.int .i64 S) ∧ w'.cell? ⟨w.heap.size, 2, none⟩ = some (.slice (some ⟨b, o, none⟩) n c) ∧ w'.cell? ⟨b, o + j * 3, none⟩ = some (.int .i64 y0) ∧ w'.cell? ⟨b, o + j * 3 + 1, none⟩ = some (.int .i64 y1) ∧ w'.cell? ⟨b, o + j * 3 + 2, none⟩ = some (.int .i64 y2))
          (first | with_reducible exact hS1 | with_reducible exact hSd | with_reducible exact hS0 | go_keep)
          ((first
            | (go_at_call 75; refine (l1In_yes _ (by omega) (by omega)).mono ?_; rintro e w' ⟨rfl, rfl⟩)
            | (go_at_call 141; (with_reducible refine (Hcc.out _).mono ?_); rintro e w2 ⟨rfl, hb2'⟩; have hb3 := ((Below.refl wn.heap.size wn).drew).trans hb2'; have hS1 := HS.out w2 hb3; have Hb3 := Lib.hid (Hbn.out.trans (hb3.mono hzn)); clear hb2' hb3)
            | fail))
        go_wp2
        go_roundg g'
        case measure => omega
        case rel => exact ⟨j + 1 + 1, by go_num, by omega, HT2, Hb3.out⟩
      | false =>
        have HF := Lib.hid (show T = false from by rw [HK1.out, if_neg (by rw [HBW2.out]; simp)]; rfl)
        clear HK1 HBW2
        have HS := Lib.hid (fun (w2 : World) (hb3 : Below wn.heap.size wn w2) => (show w2.cell? ⟨wr.heap.size, 0, none⟩ = some (.int .i64 x0) ∧ w2.cell? ⟨wr.heap.size, 1, none⟩ = some (.int .i64 x1) ∧ w2.cell? ⟨wr.heap.size, 2, none⟩ = some (.int .i64 x2) ∧ w2.cell? ⟨w.heap.size, 0, none⟩ = some (.int .i64 L) ∧ w2.cell? ⟨w.heap.size, 1, none⟩ = some (.int .i64 S) ∧ w2.cell? ⟨w.heap.size, 2, none⟩ = some (.slice (some ⟨b, o, none⟩) n c) ∧ w2.cell? ⟨b, o + j * 3, none⟩ = some (.int .i64 y0) ∧ w2.cell? ⟨b, o + j * 3 + 1, none⟩ = some (.int .i64 y1) ∧ w2.cell? ⟨b, o + j * 3 + 2, none⟩ = some (.int .i64 y2) from ⟨(hb3.cell (p := ⟨wr.heap.size, 0, none⟩) mn).trans hS0.1, (hb3.cell (p := ⟨wr.heap.size, 1, none⟩) mn).trans hS0.2.1, (hb3.cell (p := ⟨wr.heap.size, 2, none⟩) mn).trans hS0.2.2.1, (hb3.cell (p := ⟨w.heap.size, 0, none⟩) hwn).trans hS0.2.2.2.1, (hb3.cell (p := ⟨w.heap.size, 1, none⟩) hwn).trans hS0.2.2.2.2.1, (hb3.cell (p := ⟨w.heap.size, 2, none⟩) hwn).trans hS0.2.2.2.2.2.1, (hb3.cell (p := ⟨b, o + j * 3, none⟩) hbn).trans hS0.2.2.2.2.2.2.1, (hb3.cell (p := ⟨b, o + j * 3 + 1, none⟩) hbn).trans hS0.2.2.2.2.2.2.2.1, (hb3.cell (p := ⟨b, o + j * 3 + 2, none⟩) hbn).trans hS0.2.2.2.2.2.2.2.2⟩))
        go_region_held3 (fun w' => w'.cell? ⟨wr.heap.size, 0, none⟩ = some (.int .i64 x0) ∧ w'.cell? ⟨wr.heap.size, 1, none⟩ = some (.int .i64 x1) ∧ w'.cell? ⟨wr.heap.size, 2, none⟩ = some (.int .i64 x2) ∧ w'.cell? ⟨w.heap.size, 0, none⟩ = some (.int .i64 L) ∧ w'.cell? ⟨w.heap.size, 1, none⟩ = some (.int .i64 S) ∧ w'.cell? ⟨w.heap.size, 2, none⟩ = some (.slice (some ⟨b, o, none⟩) n c) ∧ w'.cell? ⟨b, o + j * 3, none⟩ = some (.int .i64 y0) ∧ w'.cell? ⟨b, o + j * 3 + 1, none⟩ = some (.int .i64 y1) ∧ w'.cell? ⟨b, o + j * 3 + 2, none⟩ = some (.int .i64 y2))
          (first | with_reducible exact hS1 | with_reducible exact hSd | with_reducible exact hS0 | go_keep)
          ((first
            | (go_at_call 75; refine (l1In_yes _ (by omega) (by omega)).mono ?_; rintro e w' ⟨rfl, rfl⟩)
            | (go_at_call 141; (with_reducible refine (Hcc.out _).mono ?_); rintro e w2 ⟨rfl, hb2'⟩; have hb3 := ((Below.refl wn.heap.size wn).drew).trans hb2'; have hS1 := HS.out w2 hb3; have Hb3 := Lib.hid (Hbn.out.trans (hb3.mono hzn)); clear hb2' hb3)
            | fail))
        go_wp2
        go_ret
        exact ⟨by rw [HF.out]; rfl, Hb1.out.trans (Hb3.out.mono hz)⟩
    · have e : g = 0 := by omega
      subst e
      have HF := Lib.hid (show T = (decide (1 ≤ L ∧ L ≤ 3) && decide (1 ≤ S ∧ S ≤ 12)) from by rw [HK.out]; rfl)
      have Hbz := Lib.hid (Hb1.out.trans (hbel.mono hz))
      have r0 : wr.cell? ⟨w.heap.size, 0, none⟩ = some (.int .i64 L) := (hbel.cell (p := ⟨w.heap.size, 0, none⟩) m1).trans qq0
      have r1 : wr.cell? ⟨w.heap.size, 1, none⟩ = some (.int .i64 S) := (hbel.cell (p := ⟨w.heap.size, 1, none⟩) m1).trans qq1
      have r2 : wr.cell? ⟨w.heap.size, 2, none⟩ = some (.slice a n c) := (hbel.cell (p := ⟨w.heap.size, 2, none⟩) m1).trans qq2
      have HL2 := Lib.hid (fun w => (show Calls Try.prog 75 #[.int .i64 L, .int .i64 1, .int .i64 3] w fun e w' => e = .returned (.bool (decide (1 ≤ L ∧ L ≤ 3))) ∧ w = w' from by rw [Bool.decide_and]; exact HL.out w))
      have HS2 := Lib.hid (fun w => (show Calls Try.prog 75 #[.int .i64 S, .int .i64 1, .int .i64 12] w fun e w' => e = .returned (.bool (decide (1 ≤ S ∧ S ≤ 12))) ∧ w = w' from by rw [Bool.decide_and]; exact HS.out w))
      generalize decide (1 ≤ L ∧ L ≤ 3) = d1 at HF HL2
      generalize decide (1 ≤ S ∧ S ≤ 12) = d2 at HF HS2
      clear HK hbel hg hb1 hcell HL HS
      go_wp2_with fail
      refine (HL2.out _).mono ?_
      rintro e w' ⟨rfl, rfl⟩
      cases d1 with
      | false => go_wp2; go_ret; exact ⟨by rw [HF.out]; rfl, Hbz.out⟩
      | true =>
      go_wp2_with fail
      refine (HS2.out _).mono ?_
      rintro e w' ⟨rfl, rfl⟩
      go_wp2
      go_ret
      exact ⟨by rw [HF.out]; rfl, Hbz.out⟩
end Go.Proofs.Ytdohepngandajaa
end

section
/-
  MatrixOf, both sides.
-/
namespace Go.Proofs.Ytdohepngandajaa
open Go.RowKit Go.Deep Go.Sd

def bump (m : List (List Int)) (a : Arc3) : List (List Int) := m.set a.1.toNat ((m.getD a.1.toNat []).set a.2.1.toNat (ent m a.1.toNat a.2.1.toNat + 1))
def bumps : List Arc3 → List (List Int) → List (List Int)
  | [], m => m
  | a :: l, m => bumps l (bump m a)
def matOk (l : Lb) : Bool := isLab l && decide (l.2.1 ≤ 9)
def matV (l : Lb) : List (List Int) := if matOk l = true then bumps l.2.2 (List.replicate l.2.1.toNat (List.replicate l.2.1.toNat 0)) else []
def EB (B : Int) (m : List (List Int)) : Prop := ∀ i j, 0 ≤ ent m i j ∧ ent m i j ≤ B
theorem EB.set {B : Int} {m : List (List Int)} (h : EB B m) (a b : Nat) {y : Int} (h0 : 0 ≤ y) (h1 : y ≤ B + 1) : EB (B + 1) (m.set a ((m.getD a []).set b y)) := by
  intro i j
  have hij := h i j
  have haj := h a j
  unfold ent at hij haj ⊢
  simp only [List.getD_eq_getElem?_getD, List.getElem?_set] at hij haj ⊢
  by_cases e : a = i
  · subst e
    rw [if_pos rfl]
    by_cases hl : a < m.length
    · rw [if_pos hl]
      simp only [Option.getD_some, List.getElem?_set]
      by_cases e2 : b = j
      · subst e2
        rw [if_pos rfl]
        split
        · simp; omega
        · simp; omega
      · rw [if_neg e2]; omega
    · rw [if_neg hl]
      simp
      omega
  · rw [if_neg e]
    omega
theorem EB.zeros (n : Nat) : EB 0 (List.replicate n (List.replicate n 0)) := by
  intro i j
  have h : ent (List.replicate n (List.replicate n 0)) i j = 0 := by
    unfold ent
    simp only [List.getD_eq_getElem?_getD, List.getElem?_replicate]
    split
    · simp only [Option.getD_some, List.getElem?_replicate]; split <;> rfl
    · rfl
  rw [h]; omega
theorem bump_sq {n : Nat} {m : List (List Int)} (h : Sq n m) {a : Arc3} (ha : a.1.toNat < n) : Sq n (bump m a) := h.set ha _ _
theorem bumps_sq {n : Nat} : ∀ {xs : List Arc3} {m : List (List Int)}, Sq n m → (∀ a, a ∈ xs → a.1.toNat < n) → Sq n (bumps xs m)
  | [], _, h, _ => h
  | a :: l, m, h, ha => bumps_sq (xs := l) (bump_sq h (ha a (by simp))) fun b hb => ha b (List.mem_cons_of_mem _ hb)
theorem matV_bd (l : Lb) : (matV l).length ≤ 9 ∧ ∀ r, r ∈ matV l → r.length ≤ 9 := by
  unfold matV
  by_cases h : matOk l = true
  · rw [if_pos h]
    unfold matOk at h
    rw [Bool.and_eq_true, decide_eq_true_eq] at h
    obtain ⟨ho, h1, h2, _⟩ := isLab_ok h.1
    have hs := bumps_sq (n := l.2.1.toNat) (xs := l.2.2) (Sq.zeros l.2.1.toNat) fun a ha => by have := ho a ha; omega
    have h9 : l.2.1.toNat ≤ 9 := by omega
    exact ⟨by rw [hs.1]; exact h9, fun r hr => by rw [hs.2 r hr]; exact h9⟩
  · rw [if_neg h]; simp
end Go.Proofs.Ytdohepngandajaa
end

section
/-
  The places of a graph that lie on a path that is infinite in both directions: the greatest set in which each has an arc from and an arc to others. What removes only places that lack one, and stops at a set where none lacks one, finds it.
-/
namespace Go.Sd
open Go.RowKit Go.Deep
def Clos (E : Nat → Nat → Prop) (n : Nat) (S : Nat → Prop) : Prop := ∀ i, S i → i < n ∧ (∃ j, S j ∧ E i j) ∧ ∃ j, S j ∧ E j i
def Gr (E : Nat → Nat → Prop) (n : Nat) (i : Nat) : Prop := ∃ S, Clos E n S ∧ S i
open Classical in
noncomputable def liveL (E : Nat → Nat → Prop) (n : Nat) : List Bool := (List.range n).map fun i => decide (Gr E n i)
def On (l : List Bool) (i : Nat) : Prop := l[i]? = some true
def Sup (E : Nat → Nat → Prop) (n : Nat) (l : List Bool) : Prop := l.length = n ∧ ∀ i, Gr E n i → On l i
def Both (E : Nat → Nat → Prop) (l : List Bool) (i : Nat) : Prop := (∃ j, On l j ∧ E i j) ∧ ∃ j, On l j ∧ E j i
def cntT (l : List Bool) : Nat := l.countP id
section
variable {E : Nat → Nat → Prop} {n : Nat} {l l' : List Bool}
theorem On.lt {i : Nat} (h : On l i) : i < l.length := (List.getElem?_eq_some_iff.1 h).1
theorem Gr.both {i : Nat} (h : Gr E n i) : i < n ∧ (∃ j, Gr E n j ∧ E i j) ∧ ∃ j, Gr E n j ∧ E j i := by
  obtain ⟨S, hS, hi⟩ := h
  obtain ⟨h1, ⟨j, hj, he⟩, k, hk, hf⟩ := hS i hi
  exact ⟨h1, ⟨j, ⟨S, hS, hj⟩, he⟩, k, ⟨S, hS, hk⟩, hf⟩
theorem liveL_len : (liveL E n).length = n := by simp [liveL]
theorem live_of (h : Sup E n l) (hc : Clos E n (On l)) : l = liveL E n := by
  apply List.ext_getElem?
  intro i
  by_cases hi : i < n
  · have h1 : (liveL E n)[i]? = some (@decide (Gr E n i) (Classical.propDecidable _)) := by simp [liveL, hi]
    rw [h1]
    by_cases hg : Gr E n i
    · rw [h.2 i hg]; simp [hg]
    · have hl : i < l.length := by rw [h.1]; exact hi
      rw [List.getElem?_eq_getElem hl]
      cases hb : l[i] with
      | false => simp [hg]
      | true =>
        exact absurd ⟨On l, hc, by unfold On; rw [List.getElem?_eq_getElem hl, hb]⟩ hg
  · rw [List.getElem?_eq_none (by rw [h.1]; omega), List.getElem?_eq_none (by rw [liveL_len]; omega)]
theorem Sup.start : Sup E n (List.replicate n true) := by
  refine ⟨by simp, fun i hi => ?_⟩
  unfold On
  rw [List.getElem?_replicate, if_pos hi.both.1]
theorem Sup.both (h : Sup E n l) {i : Nat} (hi : Gr E n i) : Both E l i := by
  obtain ⟨_, ⟨j, hj, he⟩, k, hk, hf⟩ := hi.both
  exact ⟨⟨j, h.2 j hj, he⟩, k, h.2 k hk, hf⟩
theorem Sup.unset (h : Sup E n l) {i : Nat} (hi : ¬ Both E l i) : Sup E n (l.set i false) := by
  refine ⟨by rw [List.length_set]; exact h.1, fun j hj => ?_⟩
  have hne : i ≠ j := fun e => hi (e ▸ h.both hj)
  unfold On
  rw [List.getElem?_set_ne hne]
  exact h.2 j hj
theorem cntT_replicate : cntT (List.replicate n true) = n := by
  unfold cntT; simp [List.countP_replicate]
theorem cntT_le : cntT l ≤ l.length := List.countP_le_length
theorem cntT_unset : ∀ {l : List Bool} {i : Nat}, On l i → cntT (l.set i false) + 1 = cntT l
  | [], i, h => by simp [On] at h
  | b :: l, 0, h => by
    simp [On] at h
    subst h
    simp [cntT]
  | b :: l, i + 1, h => by
    have h2 : On l i := by simpa [On] using h
    have := cntT_unset (l := l) (i := i) h2
    unfold cntT at this ⊢
    simp only [List.set_cons_succ, List.countP_cons]
    omega
/-- A smaller set has fewer. -/
theorem cntT_mono : ∀ {l l' : List Bool}, l'.length = l.length → (∀ i, On l' i → On l i) → cntT l' ≤ cntT l ∧ (cntT l' = cntT l → l' = l)
  | [], [], _, _ => ⟨Nat.le_refl _, fun _ => rfl⟩
  | [], _ :: _, h, _ => by simp at h
  | _ :: _, [], h, _ => by simp at h
  | b :: l, b' :: l', h, hs => by
    have ih := cntT_mono (l := l) (l' := l') (by simpa using h) (fun i hi => by simpa [On] using hs (i + 1) (by simpa [On] using hi))
    have h0 : b' = true → b = true := fun e => by have := hs 0 (by simp [On, e]); simpa [On] using this
    unfold cntT at ih ⊢
    simp only [List.countP_cons, id]
    cases b <;> cases b'
    · simp only [Bool.false_eq_true, if_false]
      exact ⟨by omega, fun e => by rw [ih.2 (by omega)]⟩
    · exact absurd (h0 rfl) (by simp)
    · simp only [Bool.false_eq_true, if_false, if_true]
      exact ⟨by omega, fun e => by omega⟩
    · simp only [if_true]
      exact ⟨by omega, fun e => by rw [ih.2 (by omega)]⟩
/-- All at once: who lacks an arc goes. -/
def Rnd (E : Nat → Nat → Prop) (l l' : List Bool) : Prop := l'.length = l.length ∧ ∀ i, On l' i ↔ On l i ∧ Both E l i
/-- After k rounds: it is found, or k are gone. -/
def Inv (E : Nat → Nat → Prop) (n k : Nat) (l : List Bool) : Prop := Sup E n l ∧ (Clos E n (On l) ∨ cntT l + k ≤ n)
theorem Inv.start : Inv E n 0 (List.replicate n true) := ⟨Sup.start, .inr (by rw [cntT_replicate]; omega)⟩
theorem Inv.step {k : Nat} (h : Inv E n k l) (hr : Rnd E l l') : Inv E n (k + 1) l' := by
  obtain ⟨hs, hc⟩ := h
  have hs' : Sup E n l' := ⟨hr.1.trans hs.1, fun i hi => (hr.2 i).2 ⟨hs.2 i hi, hs.both hi⟩⟩
  have hm := cntT_mono hr.1 (fun i hi => ((hr.2 i).1 hi).1)
  refine ⟨hs', ?_⟩
  by_cases e : l' = l
  · refine .inl fun i hi => ?_
    have hb := ((hr.2 i).1 hi).2
    rw [← e] at hb
    exact ⟨by rw [← hs'.1]; exact hi.lt, hb.1, hb.2⟩
  · rcases hc with hc | hc
    · exact absurd (hm.2 (by
        have h2 : l' = l := by
          apply List.ext_getElem?
          intro i
          by_cases hi : i < l.length
          · have h1 : On l i → On l' i := fun h => (hr.2 i).2 ⟨h, (hc i h).2⟩
            have h2 : On l' i → On l i := fun h => ((hr.2 i).1 h).1
            unfold On at h1 h2
            rw [List.getElem?_eq_getElem hi, List.getElem?_eq_getElem (by rw [hr.1]; exact hi)] at h1 h2 ⊢
            cases hb : l[i] <;> cases hb' : l'[i]'(by rw [hr.1]; exact hi) <;> simp_all
          · rw [List.getElem?_eq_none (by rw [hr.1]; omega), List.getElem?_eq_none (by omega)]
        rw [h2])) e
    · right
      have : cntT l' ≠ cntT l := fun h => e (hm.2 h)
      omega
theorem Inv.end (h : Inv E n n l) : l = liveL E n := by
  refine live_of h.1 ?_
  rcases h.2 with hc | hc
  · exact hc
  · intro i hi
    have h0 := cntT_unset (l := l) (i := i) hi
    omega
/-- One after the other: a pass over the first i. -/
def Pas (E : Nat → Nat → Prop) (n : Nat) (l0 : List Bool) (i : Nat) (l : List Bool) (ch : Bool) : Prop :=
  Sup E n l ∧ (ch = false → l = l0 ∧ ∀ j, j < i → On l0 j → Both E l0 j) ∧ (ch = true → cntT l < cntT l0)
theorem Pas.start {l0 : List Bool} (h : Sup E n l0) : Pas E n l0 0 l0 false := ⟨h, fun _ => ⟨rfl, fun j hj => absurd hj (Nat.not_lt_zero _)⟩, fun h => by cases h⟩
theorem Pas.keep {l0 : List Bool} {i : Nat} {ch : Bool} (h : Pas E n l0 i l ch) (hi : On l i → Both E l i) : Pas E n l0 (i + 1) l ch := by
  refine ⟨h.1, fun hc => ?_, h.2.2⟩
  obtain ⟨e, hb⟩ := h.2.1 hc
  refine ⟨e, fun j hj hon => ?_⟩
  by_cases hji : j < i
  · exact hb j hji hon
  · obtain rfl : j = i := by omega
    rw [← e] at hon ⊢
    exact hi hon
theorem Pas.unset {l0 : List Bool} {i : Nat} {ch : Bool} (h : Pas E n l0 i l ch) (hi : On l i) (hb : ¬ Both E l i) : Pas E n l0 (i + 1) (l.set i false) true := by
  refine ⟨h.1.unset hb, (fun hc => by cases hc), fun _ => ?_⟩
  have h1 := cntT_unset hi
  cases ch with
  | false => rw [(h.2.1 rfl).1] at h1 ⊢; omega
  | true => have := h.2.2 rfl; omega
theorem Pas.end {l0 : List Bool} (h : Pas E n l0 n l false) : l = liveL E n := by
  obtain ⟨rfl, hb⟩ := h.2.1 rfl
  refine live_of h.1 fun i hi => ?_
  have hlt : i < n := by rw [← h.1.1]; exact hi.lt
  exact ⟨hlt, (hb i hlt hi).1, (hb i hlt hi).2⟩
theorem Pas.less {l0 : List Bool} (h : Pas E n l0 n l true) : Sup E n l ∧ cntT l < cntT l0 := ⟨h.1, h.2.2 rfl⟩
end
end Go.Sd
end

section
/-
  The reference's live places of a matrix.
-/
namespace Go.Proofs.Ytdohepngandajaa
open Go.RowKit Go.Deep Go.Sd

def fillT (n k : Nat) : List Bool := List.replicate k true ++ List.replicate (n - k) false
theorem fillT_len {n k : Nat} (h : k ≤ n) : (fillT n k).length = n := by simp [fillT]; omega
theorem fillT_at {n k : Nat} (h : k < n) : (fillT n k)[k]? = some false := by
  unfold fillT
  rw [List.getElem?_append_right (by simp), List.getElem?_replicate, if_pos (by simp; omega)]
theorem fillT_set {n k : Nat} (h : k < n) : (fillT n k).set k true = fillT n (k + 1) := by
  unfold fillT
  rw [List.set_append_right _ _ (by simp), show n - k = (n - (k + 1)) + 1 from by omega, List.replicate_succ, List.replicate_succ']
  simp
/-- One of the first k places of l has it. -/
def anyN (l : List Bool) (f : Nat → Bool) : Nat → Bool
  | 0 => false
  | k + 1 => anyN l f k || (l.getD k false && f k)
theorem anyN_iff {l : List Bool} {f : Nat → Bool} : ∀ {k : Nat}, anyN l f k = true ↔ ∃ j, j < k ∧ On l j ∧ f j = true
  | 0 => by simp [anyN]
  | k + 1 => by
    unfold anyN
    rw [Bool.or_eq_true, Bool.and_eq_true, anyN_iff (k := k)]
    have hg : l.getD k false = true ↔ On l k := by
      unfold On
      rw [List.getD_eq_getElem?_getD]
      cases h : l[k]? <;> simp
    rw [hg]
    constructor
    · rintro (⟨j, hj, h⟩ | h)
      · exact ⟨j, by omega, h⟩
      · exact ⟨k, by omega, h⟩
    · rintro ⟨j, hj, h⟩
      by_cases e : j = k
      · subst e; exact .inr h
      · exact .inl ⟨j, by omega, h⟩
def entP (m : List (List Int)) (i j : Nat) : Bool := decide (0 < ent m i j)
def EntP (m : List (List Int)) (i j : Nat) : Prop := entP m i j = true
theorem both_iff {m : List (List Int)} {l : List Bool} {n i : Nat} (hl : l.length = n) : Both (EntP m) l i ↔ anyN l (entP m i) n = true ∧ anyN l (fun j => entP m j i) n = true := by
  rw [anyN_iff, anyN_iff]
  constructor
  · rintro ⟨⟨j, hj, he⟩, k, hk, hf⟩
    exact ⟨⟨j, by rw [← hl]; exact hj.lt, hj, he⟩, k, by rw [← hl]; exact hk.lt, hk, hf⟩
  · rintro ⟨⟨j, _, hj, he⟩, k, _, hk, hf⟩
    exact ⟨⟨j, hj, he⟩, k, hk, hf⟩
set_option maxHeartbeats 4000000 in
set_option maxRecDepth 10000 in
theorem l5Live_c {w : World} {v : Value} {m : List (List Int)} {n : Nat} (h : Tab w v m) (hsq : Sq n m) (hn0 : 0 < n) (hn : n ≤ 16) :
    Calls Try.prog 194 #[v] w (Makes (OwnOf 4 (OValR Value.bool)) w (liveL (EntP m) n)) := by
  obtain ⟨ab, ao, ac, rfl, hab, hae⟩ := h.entAt hsq.1 hsq.2 hn0
  clear h hsq
  have hmk := run_make_row' (P := Try.prog) 124 4 (.bool false) 1 Try.underlying124 infoB rfl .i64 .i64 n (by omega) (by omega)
  go_enter Try.func194, Try.ntmps194
  go_wp2
  go_loopg [4] n (fun g i wr => ∃ (k : Nat), i = .int .i64 k ∧ k + g = n ∧ Hid (New (OwnOf 4 (OValR Value.bool)) w.heap.size wr (.slice (some ⟨w.heap.size, 0, none⟩) n n) (fillT n k)) ∧ Hid (Below w.heap.size w wr))
  case atStart => exact ⟨0, rfl, by omega, Lib.hid (New.made 4 w (.bool false) false n (Nat.le_refl _) (by omega) (fun _ => ⟨rfl, rfl⟩)), Lib.hid ((Below.refl _ _).alloc (Nat.le_refl _) _)⟩
  case round =>
    obtain ⟨k, rfl, hk, hnew, hbel⟩ := hrel
    clear hmk
    by_cases hlt : k < n
    · obtain ⟨b', c', hv, _, _, hblt, hcl, hfr, hst⟩ := hnew.out.val_at (fun _ => rfl) (fillT_at hlt)
      obtain rfl : b' = w.heap.size := by simp at hv; exact hv.1.symm
      have Hst := Lib.hid (by have := hst true; rw [fillT_set hlt] at this; exact this)
      have Hb := Lib.hid (hbel.out.setCell (p := ⟨w.heap.size, k, none⟩) (Nat.le_refl _) (.bool true))
      have hkI : (k : Int) < (n : Int) := Int.ofNat_lt.2 hlt
      clear hv hst hnew hbel hae
      go_wp2
      go_roundg (n - (k + 1))
      case measure => omega
      case rel => exact ⟨k + 1, by go_num, by omega, Hst, Hb⟩
    · obtain rfl : k = n := by omega
      have HL0 := Lib.hid (show New (OwnOf 4 (OValR Value.bool)) w.heap.size wr (.slice (some ⟨w.heap.size, 0, none⟩) k k) (List.replicate k true) from by have h := hnew.out; unfold fillT at h; simpa using h)
      have HS0 := Lib.hid (Sup.start (E := EntP m) (n := k))
      clear hnew
      go_wp2
      go_loopg [5] (k + 1) (fun g c wr => ∃ (l : List Bool) (ch : Bool) (q : Nat), c = .bool ch ∧ q = g ∧ q = (if ch = true then cntT l + 1 else 0) ∧ Hid (Sup (EntP m) k l) ∧ Hid (ch = false → l = liveL (EntP m) k) ∧ Hid (New (OwnOf 4 (OValR Value.bool)) w.heap.size wr (.slice (some ⟨w.heap.size, 0, none⟩) k k) l) ∧ Hid (Below w.heap.size w wr))
      case atStart => exact ⟨List.replicate k true, true, k + 1, rfl, rfl, by rw [cntT_replicate]; rfl, HS0, Lib.hid (fun h => by cases h), HL0, hbel⟩
      case round =>
        clear HS0 HL0 hbel
        obtain ⟨l0, ch, q, rfl, rfl, hg, hsup, hend, hnew, hbel⟩ := hrel
        cases ch with
        | false =>
          have HF := Lib.hid (show New (OwnOf 4 (OValR Value.bool)) w.heap.size wr (.slice (some ⟨w.heap.size, 0, none⟩) k k) (liveL (EntP m) k) from by have h := hnew.out; rw [hend.out rfl] at h; exact h)
          clear hg hnew hend
          go_wp2
          go_ret
          exact ⟨_, rfl, HF.out, hbel.out⟩
        | true =>
          have hg' : q = cntT l0 + 1 := hg
          have HP0 := Lib.hid (Pas.start (E := EntP m) (n := k) hsup.out)
          clear hg hend
          go_wp2
          go_loopg [5, 6] k (fun g2 c i wr => ∃ (i' : Nat) (l : List Bool) (ch : Bool), c = .bool ch ∧ i = .int .i64 i' ∧ i' + g2 = k ∧ Hid (Pas (EntP m) k l0 i' l ch) ∧ Hid (New (OwnOf 4 (OValR Value.bool)) w.heap.size wr (.slice (some ⟨w.heap.size, 0, none⟩) k k) l) ∧ Hid (Below w.heap.size w wr))
          case atStart => exact ⟨0, l0, false, rfl, rfl, by omega, HP0, hnew, hbel⟩
          case round =>
            clear HP0 hnew hbel
            obtain ⟨i, l, ch, rfl, rfl, hi, hpas, hnew, hbel⟩ := hrel
            by_cases hlti : i < k
            · have hiI : (i : Int) < (k : Int) := Int.ofNat_lt.2 hlti
              have hll : l.length = k := hpas.out.1.1
              obtain ⟨wi, rfl⟩ : ∃ x, x = wr := ⟨_, rfl⟩
              have HA0 := Lib.hid (show anyN l (entP m i) 0 = false ∧ anyN l (fun j => entP m j i) 0 = false from ⟨rfl, rfl⟩)
              go_wp2
              go_loopg [7, 8, 9] k (fun g3 fv tv j wr => ∃ (j' : Nat) (f t : Bool), fv = .bool f ∧ tv = .bool t ∧ j = .int .i64 j' ∧ j' + g3 = k ∧ Hid (anyN l (entP m i) j' = f ∧ anyN l (fun j => entP m j i) j' = t) ∧ wi = wr)
              case atStart => exact ⟨0, false, false, rfl, rfl, rfl, by omega, HA0, rfl⟩
              case round =>
                clear HA0
                obtain ⟨j, f, t, rfl, rfl, rfl, hj, HA, rfl⟩ := hrel
                by_cases hltj : j < k
                · have hjI : (j : Int) < (k : Int) := Int.ofNat_lt.2 hltj
                  have hae1 := hae.frame hab hbel.out
                  obtain ⟨rb, ro, rc, hA1, _, _, hA2⟩ := hae1.at hlti hn0
                  obtain ⟨zb, zo, zc, hB1, _, _, hB2⟩ := hae1.at hltj hn0
                  have hA3 := hA2 j hltj
                  have hB3 := hB2 i hlti
                  have hlj : l[j]? = some (l[j]'(by omega)) := List.getElem?_eq_getElem (by omega)
                  obtain ⟨b', c', hv, _, _, hblt, hcl, hfr, _⟩ := hnew.out.val_at (fun _ => rfl) hlj
                  obtain rfl : b' = w.heap.size := by simp at hv; exact hv.1.symm
                  have HA1 := Lib.hid (show anyN l (entP m i) (j + 1) = (f || (l[j]'(by omega) && decide (0 < ent m i j))) ∧ anyN l (fun j => entP m j i) (j + 1) = (t || (l[j]'(by omega) && decide (0 < ent m j i))) from by
                    unfold anyN
                    rw [HA.out.1, HA.out.2, List.getD_eq_getElem?_getD, hlj]
                    exact ⟨rfl, rfl⟩)
                  generalize l[j]'(by omega) = lj at *
                  generalize ent m i j = X at *
                  generalize ent m j i = Y at *
                  generalize hda : decide (0 < X) = da at *
                  generalize hdb : decide (0 < Y) = db at *
                  clear hae1 hA2 hB2 hv hlj HA
                  cases f <;> cases t <;> cases lj <;> cases da <;> cases db <;> (go_wp2; go_roundg (k - (j + 1)); (case measure => omega); (case rel => exact ⟨j + 1, _, _, rfl, rfl, by go_num, by omega, HA1, rfl⟩))
                · obtain rfl : j = k := by omega
                  have hbi := both_iff (m := m) (i := i) hll
                  rw [HA.out.1, HA.out.2] at hbi
                  have hli : l[i]? = some (l[i]'(by omega)) := List.getElem?_eq_getElem (by omega)
                  obtain ⟨b', c', hv, _, _, hblt, hcl, hfr, hst⟩ := hnew.out.val_at (fun _ => rfl) hli
                  obtain rfl : b' = w.heap.size := by simp at hv; exact hv.1.symm
                  have Hst := Lib.hid (hst false)
                  have Hbs := Lib.hid (hbel.out.setCell (p := ⟨w.heap.size, i, none⟩) (Nat.le_refl _) (.bool false))
                  have hon : On l i ↔ l[i]'(by omega) = true := by unfold On; rw [hli]; simp
                  generalize l[i]'(by omega) = li at *
                  have HK := Lib.hid (fun (hk : li = true → f = true ∧ t = true) => hpas.out.keep (fun h => hbi.2 (hk (hon.1 h))))
                  have HU := Lib.hid (fun (h1 : li = true) (h2 : ¬ (f = true ∧ t = true)) => hpas.out.unset (hon.2 h1) (fun h => h2 (hbi.1 h)))
                  clear hbi hli hv hst hon HA hae hpas
                  cases li with
                  | false =>
                    have R := Lib.hid (HK.out (fun h => by cases h))
                    clear HK HU Hst Hbs
                    go_wp2
                    go_roundg (j - (i + 1))
                    case measure => omega
                    case rel => exact ⟨i + 1, l, ch, rfl, by go_num, by omega, R, hnew, hbel⟩
                  | true =>
                    by_cases hft : f = true ∧ t = true
                    · obtain ⟨rfl, rfl⟩ := hft
                      have R := Lib.hid (HK.out (fun _ => ⟨rfl, rfl⟩))
                      clear HK HU Hst Hbs
                      go_wp2
                      go_roundg (j - (i + 1))
                      case measure => omega
                      case rel => exact ⟨i + 1, l, ch, rfl, by go_num, by omega, R, hnew, hbel⟩
                    · have R := Lib.hid (HU.out rfl hft)
                      clear HK HU
                      cases f with
                      | false =>
                        clear hft
                        go_wp2
                        go_roundg (j - (i + 1))
                        case measure => omega
                        case rel => exact ⟨i + 1, l.set i false, true, rfl, by go_num, by omega, R, Hst, Hbs⟩
                      | true =>
                        cases t with
                        | true => exact absurd ⟨rfl, rfl⟩ hft
                        | false =>
                          clear hft
                          go_wp2
                          go_roundg (j - (i + 1))
                          case measure => omega
                          case rel => exact ⟨i + 1, l.set i false, true, rfl, by go_num, by omega, R, Hst, Hbs⟩
            · obtain rfl : i = k := by omega
              have HS := Lib.hid hpas.out.1
              cases ch with
              | false =>
                have HE := Lib.hid (show l = liveL (EntP m) i from hpas.out.end)
                clear hpas
                go_wp2
                go_roundg 0
                case measure => omega
                case rel => exact ⟨l, false, 0, rfl, rfl, rfl, HS, Lib.hid (fun _ => HE.out), hnew, hbel⟩
              | true =>
                have hless := hpas.out.less.2
                clear hpas
                go_wp2
                go_roundg (cntT l + 1)
                case measure => omega
                case rel => exact ⟨l, true, cntT l + 1, rfl, rfl, rfl, HS, Lib.hid (fun h => by cases h), hnew, hbel⟩
end Go.Proofs.Ytdohepngandajaa
end

section
/-
  The reference's live states of a labelled graph.
-/
namespace Go.Sd
open Go.RowKit Go.Deep
theorem Clos.congr {E E' : Nat → Nat → Prop} {n : Nat} (h : ∀ i j, i < n → j < n → (E i j ↔ E' i j)) {S : Nat → Prop} (hc : Clos E n S) : Clos E' n S := fun i hi => by
  obtain ⟨h1, ⟨j, hj, he⟩, k, hk, hf⟩ := hc i hi
  exact ⟨h1, ⟨j, hj, (h i j h1 (hc j hj).1).1 he⟩, k, hk, (h k i (hc k hk).1 h1).1 hf⟩
theorem liveL_congr {E E' : Nat → Nat → Prop} {n : Nat} (h : ∀ i j, i < n → j < n → (E i j ↔ E' i j)) : liveL E n = liveL E' n := by
  have hg : ∀ i, Gr E n i ↔ Gr E' n i := fun i => ⟨fun ⟨S, hS, hi⟩ => ⟨S, hS.congr h, hi⟩, fun ⟨S, hS, hi⟩ => ⟨S, hS.congr (fun i j a b => (h i j a b).symm), hi⟩⟩
  unfold liveL
  exact List.map_congr_left fun i _ => decide_eq_decide.2 (hg i)
end Go.Sd
namespace Go.Proofs.Ytdohepngandajaa
open Go.RowKit Go.Deep Go.Sd
/-- Some arc leads from i to j. -/
def ArcP (xs : List Arc3) (i j : Nat) : Prop := ∃ a, a ∈ xs ∧ a.1 = (i : Int) ∧ a.2.1 = (j : Int)
def MatA (p : Nat) (m : List (List Int)) (xs : List Arc3) : Prop := Sq p m ∧ ∀ i j, i < p → j < p → (0 < ent m i j ↔ ArcP xs i j)
theorem MatA.start (p : Nat) : MatA p (List.replicate p (List.replicate p 0)) [] := by
  refine ⟨Sq.zeros p, fun i j hi hj => ?_⟩
  have := EB.zeros p i j
  constructor
  · intro h; omega
  · rintro ⟨a, ha, _⟩; simp at ha
theorem ent_set1 {p : Nat} {m : List (List Int)} (h : Sq p m) {p0 p1 : Nat} (h0 : p0 < p) (h1 : p1 < p) (i j : Nat) : ent (m.set p0 ((m.getD p0 []).set p1 1)) i j = if i = p0 ∧ j = p1 then 1 else ent m i j := by
  have hr := h.row h0
  unfold ent
  simp only [List.getD_eq_getElem?_getD, List.getElem?_set] at hr ⊢
  by_cases e : p0 = i
  · subst e
    have hl : p0 < m.length := by rw [h.1]; exact h0
    rw [if_pos rfl, if_pos hl]
    simp only [Option.getD_some, List.getElem?_set]
    by_cases e2 : p1 = j
    · subst e2
      simp [hr.2, h1]
    · rw [if_neg e2, if_neg (fun h => e2 h.2.symm)]
  · rw [if_neg e, if_neg (fun h => e h.1.symm)]
theorem MatA.step {p : Nat} {m : List (List Int)} {xs : List Arc3} (h : MatA p m xs) {p0 p1 : Nat} {y2 : Int} (h0 : p0 < p) (h1 : p1 < p) : MatA p (m.set p0 ((m.getD p0 []).set p1 1)) (xs ++ [((p0 : Int), (p1 : Int), y2)]) := by
  refine ⟨h.1.set h0 _ _, fun i j hi hj => ?_⟩
  rw [ent_set1 h.1 h0 h1]
  by_cases e : i = p0 ∧ j = p1
  · rw [if_pos e]
    obtain ⟨rfl, rfl⟩ := e
    exact ⟨fun _ => ⟨((i : Int), (j : Int), y2), by simp, rfl, rfl⟩, fun _ => by omega⟩
  · rw [if_neg e, h.2 i j hi hj]
    constructor
    · rintro ⟨a, ha, b⟩; exact ⟨a, by simp [ha], b⟩
    · rintro ⟨a, ha, b1, b2⟩
      rcases List.mem_append.1 ha with ha | ha
      · exact ⟨a, ha, b1, b2⟩
      · simp at ha
        subst ha
        simp at b1 b2
        exact absurd ⟨by omega, by omega⟩ e
theorem MatA.live {p : Nat} {m : List (List Int)} {xs : List Arc3} (h : MatA p m xs) : liveL (EntP m) p = liveL (ArcP xs) p :=
  liveL_congr fun i j hi hj => by rw [← h.2 i j hi hj]; unfold EntP entP; simp
set_option maxHeartbeats 4000000 in
set_option maxRecDepth 100000 in
theorem l14Live_c {w : World} {v : Value} {l : Lb} (h : LabR w v l) (hok : isLab l = true) :
    Calls Try.prog 147 #[v] w (Makes (OwnOf 4 (OValR Value.bool)) w (liveL (ArcP l.2.2) l.2.1.toNat)) := by
  obtain ⟨ho, hS1, hS2, _, _⟩ := isLab_ok hok
  clear hok
  obtain ⟨L, S, xs⟩ := l
  obtain ⟨va, rfl, hlen, a, c, rfl, _, _, _, hcell⟩ := h
  simp only at *
  obtain ⟨p, rfl⟩ := Int.eq_ofNat_of_zero_le (show 0 ≤ S by omega)
  generalize hn : xs.length = n at *
  have Hn := Lib.hid hn.symm
  clear hn
  have hp12 : p ≤ 12 := by omega
  have hp0 : 0 < p := by omega
  have Hz := Lib.hid (fun w1 => l4Zero_c (w := w1) (p := p) (r := p) (by omega) (by omega))
  have Ho := Lib.hid ho
  rw [show ((p : Int)).toNat = p from rfl]
  clear ho hS1 hS2
  go_enter Try.func147, Try.ntmps147
  go_wp2_with fail
  obtain ⟨w1, ex, A0, c0, c1, c2, m1⟩ := boxA3_ex w 28 (.int .i64 L) (.int .i64 p) (.slice a n c)
  change Calls Try.prog _ _ (w.alloc (.cells #[.int .i64 L, .int .i64 p, .slice a n c] 28)) _
  rw [ex]
  clear ex
  (with_reducible refine (Hz.out _).mono ?_)
  rintro e w3 ⟨tv, rfl, hnew, hb⟩
  obtain ⟨gb, gc, _, _, rfl, _, hgb, hgb2, _⟩ := hnew.tab_at (i := 0) (j := 0) ((Sq.zeros p).row hp0).1 ((Sq.zeros p).entry hp0 hp0)
  rw [(Sq.zeros p).1] at hnew ⊢
  replace hnew := hnew.mono (Nat.succ_le_of_lt m1)
  replace hgb := Nat.le_trans A0.size hgb
  replace c2 := (hb.cell (p := ⟨w.heap.size, 2, none⟩) m1).trans c2
  replace m1 := Nat.lt_of_lt_of_le m1 hb.size
  replace A0 := A0.trans (hb.mono A0.size)
  clear hb c0 c1
  have Hnew := Lib.hid hnew
  have HA0 := Lib.hid A0
  have HM0 := Lib.hid (show MatA p (List.replicate p (List.replicate p 0)) (xs.take 0) from MatA.start p)
  clear hnew A0 Hz
  go_wp2
  go_loopg [4] n (fun g i wr => ∃ (k : Nat) (m : List (List Int)), i = .int .i64 k ∧ k + g = n ∧ Hid (MatA p m (xs.take k)) ∧ Hid (New (OTab 3 50) (w.heap.size + 1) wr (.slice (some ⟨gb, 0, none⟩) p gc) m) ∧ wr.cell? ⟨w.heap.size, 2, none⟩ = some (.slice a n c) ∧ w.heap.size < wr.heap.size ∧ gb < wr.heap.size ∧ Hid (Below w.heap.size w wr))
  case atStart => exact ⟨0, _, rfl, by omega, HM0, Hnew, c2, m1, hgb2, HA0⟩
  case round =>
    obtain ⟨k, m, rfl, hk, hma, hnew, r2, hwr, hgb3, hbel⟩ := hrel
    clear HM0 Hnew HA0
    by_cases hlt : k < n
    · obtain ⟨b, o, rfl, hb, hx0⟩ := hcell (by omega)
      obtain ⟨y, hy, _⟩ := at_lt (xs := xs) (k := k) (by have := Hn.out; omega)
      obtain ⟨f0, f1, f2⟩ := hx0 k y hy
      obtain ⟨i0, i1, i2, i3⟩ := okArcs_at Ho.out hy
      have g0 : wr.cell? ⟨b, o + k * 3, none⟩ = some (.int .i64 y.1) := (hbel.out.cell (p := ⟨b, o + k * 3, none⟩) hb).trans f0
      have g1 : wr.cell? ⟨b, o + k * 3 + 1, none⟩ = some (.int .i64 y.2.1) := (hbel.out.cell (p := ⟨b, o + k * 3 + 1, none⟩) hb).trans f1
      have HT := Lib.hid (show xs.take (k + 1) = xs.take k ++ [y] from (take_snoc' hy).symm)
      obtain ⟨y0, y1, y2⟩ := y
      simp only at g0 g1 i0 i1 i2 i3
      obtain ⟨p0, rfl⟩ := Int.eq_ofNat_of_zero_le i0
      obtain ⟨p1, rfl⟩ := Int.eq_ofNat_of_zero_le i2
      have hq0 : p0 < p := by omega
      have hq1 : p1 < p := by omega
      obtain ⟨b', c'', sb, sc, hv, _, _, _, hcl1, _, hsb, hsb2, hcl2, hfr, hst⟩ := hnew.out.tab_at (hma.out.1.row hq0).1 (hma.out.1.entry hq0 hq1)
      obtain rfl : b' = gb := by simp at hv; exact hv.1.symm
      rw [(hma.out.1.row hq0).2] at hcl1
      have HM := Lib.hid (show MatA p (m.set p0 ((m.getD p0 []).set p1 1)) (xs.take (k + 1)) from by rw [HT.out]; exact hma.out.step hq0 hq1)
      have Hst := Lib.hid (hst 1)
      have Hb3 := Lib.hid (hbel.out.setCell (p := ⟨sb, p1, none⟩) (Nat.le_of_succ_le hsb) (.int .i64 1))
      have Hc2 := Lib.hid ((World.cell?_setCell_other wr ⟨sb, p1, none⟩ ⟨w.heap.size, 2, none⟩ (.int .i64 1) (by simp <;> omega)).trans r2)
      have hj0 : (p0 : Int) < (p : Int) := by omega
      have hj1 : (p1 : Int) < (p : Int) := by omega
      have hkn : (k : Int) < (n : Int) := by omega
      have Hlt := Lib.hid (show w.heap.size < wr.heap.size ∧ b' < wr.heap.size from ⟨hwr, hgb3⟩)
      generalize m.set p0 ((m.getD p0 []).set p1 1) = m' at *
      generalize ent m p0 p1 = X at *
      clear hx0 hcell hy f0 f1 f2 hv hst hnew hbel hma HT
      go_wp2
      go_still_tail 16, (by kernel_rfl)
      go_wp2
      go_roundg (n - (k + 1))
      case measure => omega
      case rel => exact ⟨k + 1, m', by go_num, by omega, HM, Lib.hid (New.heap (OTab.kept _ _) Hst.out rfl), Hc2.out, by simp; exact Hlt.out.1, by simp; exact Hlt.out.2, Lib.hid Hb3.out.drew⟩
    · have HF := Lib.hid (show liveL (EntP m) p = liveL (ArcP xs) p from by have h := hma.out; rw [List.take_of_length_le (by have := Hn.out; omega)] at h; exact h.live)
      have H5 := Lib.hid (l5Live_c hnew.out.tab hma.out.1 hp0 (by omega))
      rw [HF.out] at H5
      clear hcell hma hnew
      go_wp2_with fail
      refine H5.out.mono ?_
      rintro e w5 ⟨r, rfl, hn5, hb5⟩
      have HN := Lib.hid (hn5.mono (Nat.le_of_lt hwr))
      have HB := Lib.hid (hbel.out.trans (hb5.mono (Nat.le_of_lt hwr)))
      clear hn5 hb5 H5
      go_wp2
      go_ret
      exact ⟨_, rfl, HN.out, HB.out⟩
end Go.Proofs.Ytdohepngandajaa
end

section
/-
  The program's live places: one round, in plain Lean; slices of bools by their cells.
-/
namespace Go.Sd
open Go.RowKit Go.Deep
/-- j stands in row i. -/
def EntN (next : List (List Int)) (i j : Nat) : Prop := (j : Int) ∈ next.getD i []
/-- The arcs of the rows before i, and the first c of row i. -/
def Pr (next : List (List Int)) (i c x y : Nat) : Prop := (x < i ∧ EntN next x y) ∨ (x = i ∧ (y : Int) ∈ (next.getD i []).take c)
def FrOk (next : List (List Int)) (l0 : List Bool) (i c : Nat) (fr : List Bool) : Prop := fr.length = l0.length ∧ ∀ x, On fr x ↔ On l0 x ∧ ∃ y, Pr next i c x y ∧ On l0 y
def ToOk (next : List (List Int)) (l0 : List Bool) (i c : Nat) (t : List Bool) : Prop := t.length = l0.length ∧ ∀ y, On t y ↔ On l0 y ∧ ∃ x, Pr next i c x y ∧ On l0 x
section
variable {next : List (List Int)} {l0 fr t l : List Bool} {i c x y n : Nat}
theorem Pr.zero : ¬ Pr next 0 0 x y := by rintro (⟨h, _⟩ | ⟨_, h⟩) <;> simp at h
theorem Pr.succ (hy : (next.getD i [])[c]? = some (y : Int)) {x' y' : Nat} : Pr next i (c + 1) x' y' ↔ Pr next i c x' y' ∨ (x' = i ∧ y' = y) := by
  unfold Pr
  rw [List.take_add_one, hy]
  simp only [Option.toList_some, List.mem_append, List.mem_singleton, Int.ofNat_inj]
  constructor
  · rintro (h | ⟨h1, h | h⟩)
    · exact .inl (.inl h)
    · exact .inl (.inr ⟨h1, h⟩)
    · exact .inr ⟨h1, h⟩
  · rintro ((h | ⟨h1, h⟩) | ⟨h1, h⟩)
    · exact .inl h
    · exact .inr ⟨h1, .inl h⟩
    · exact .inr ⟨h1, .inr h⟩
theorem Pr.row (hc : (next.getD i []).length ≤ c) : Pr next i c x y ↔ Pr next (i + 1) 0 x y := by
  unfold Pr
  rw [List.take_of_length_le hc]
  constructor
  · rintro (⟨h, e⟩ | ⟨rfl, e⟩)
    · exact .inl ⟨by omega, e⟩
    · exact .inl ⟨by omega, e⟩
  · rintro (⟨h, e⟩ | ⟨_, e⟩)
    · by_cases hx : x < i
      · exact .inl ⟨hx, e⟩
      · obtain rfl : x = i := by omega
        exact .inr ⟨rfl, e⟩
    · simp at e
theorem Pr.all (hn : next.length ≤ n) : Pr next n 0 x y ↔ EntN next x y := by
  unfold Pr
  constructor
  · rintro (⟨_, e⟩ | ⟨_, e⟩)
    · exact e
    · simp at e
  · intro e
    by_cases hx : x < n
    · exact .inl ⟨hx, e⟩
    · unfold EntN at e
      rw [List.getD_eq_getElem?_getD, List.getElem?_eq_none (by omega)] at e
      simp at e
theorem On.set_iff {b : Bool} (hi : i < l.length) : On (l.set i b) x ↔ if x = i then b = true else On l x := by
  unfold On
  by_cases e : x = i
  · subst e
    rw [List.getElem?_set_self hi, if_pos rfl]; simp
  · rw [List.getElem?_set_ne (fun h => e h.symm), if_neg e]
theorem FrOk.start : FrOk next l0 0 0 (List.replicate l0.length false) := by
  refine ⟨by simp, fun x => ⟨fun h => ?_, fun ⟨_, y, h, _⟩ => absurd h Pr.zero⟩⟩
  unfold On at h
  rw [List.getElem?_replicate] at h
  split at h <;> simp at h
theorem ToOk.start : ToOk next l0 0 0 (List.replicate l0.length false) := by
  refine ⟨by simp, fun x => ⟨fun h => ?_, fun ⟨_, y, h, _⟩ => absurd h Pr.zero⟩⟩
  unfold On at h
  rw [List.getElem?_replicate] at h
  split at h <;> simp at h
theorem FrOk.skip (h : FrOk next l0 i c fr) (hy : (next.getD i [])[c]? = some (y : Int)) (hn : ¬ (On l0 i ∧ On l0 y)) : FrOk next l0 i (c + 1) fr := by
  refine ⟨h.1, fun x' => (h.2 x').trans ⟨fun ⟨h1, y', h2, h3⟩ => ⟨h1, y', (Pr.succ hy).2 (.inl h2), h3⟩, fun ⟨h1, y', h2, h3⟩ => ?_⟩⟩
  rcases (Pr.succ hy).1 h2 with h2 | ⟨rfl, rfl⟩
  · exact ⟨h1, y', h2, h3⟩
  · exact absurd ⟨h1, h3⟩ hn
theorem ToOk.skip (h : ToOk next l0 i c t) (hy : (next.getD i [])[c]? = some (y : Int)) (hn : ¬ (On l0 i ∧ On l0 y)) : ToOk next l0 i (c + 1) t := by
  refine ⟨h.1, fun x' => (h.2 x').trans ⟨fun ⟨h1, y', h2, h3⟩ => ⟨h1, y', (Pr.succ hy).2 (.inl h2), h3⟩, fun ⟨h1, y', h2, h3⟩ => ?_⟩⟩
  rcases (Pr.succ hy).1 h2 with h2 | ⟨rfl, rfl⟩
  · exact ⟨h1, y', h2, h3⟩
  · exact absurd ⟨h3, h1⟩ hn
theorem FrOk.take (h : FrOk next l0 i c fr) (hy : (next.getD i [])[c]? = some (y : Int)) (h1 : On l0 i) (h2 : On l0 y) : FrOk next l0 i (c + 1) (fr.set i true) := by
  refine ⟨by rw [List.length_set]; exact h.1, fun x' => ?_⟩
  rw [On.set_iff (by rw [h.1]; exact h1.lt)]
  by_cases e : x' = i
  · subst e
    rw [if_pos rfl]
    exact ⟨fun _ => ⟨h1, y, (Pr.succ hy).2 (.inr ⟨rfl, rfl⟩), h2⟩, fun _ => rfl⟩
  · rw [if_neg e, h.2 x']
    refine ⟨fun ⟨h3, y', h4, h5⟩ => ⟨h3, y', (Pr.succ hy).2 (.inl h4), h5⟩, fun ⟨h3, y', h4, h5⟩ => ⟨h3, y', ?_, h5⟩⟩
    rcases (Pr.succ hy).1 h4 with h4 | ⟨e2, _⟩
    · exact h4
    · exact absurd e2 e
theorem ToOk.take (h : ToOk next l0 i c t) (hy : (next.getD i [])[c]? = some (y : Int)) (h1 : On l0 i) (h2 : On l0 y) : ToOk next l0 i (c + 1) (t.set y true) := by
  refine ⟨by rw [List.length_set]; exact h.1, fun x' => ?_⟩
  rw [On.set_iff (by rw [h.1]; exact h2.lt)]
  by_cases e : x' = y
  · subst e
    rw [if_pos rfl]
    exact ⟨fun _ => ⟨h2, i, (Pr.succ hy).2 (.inr ⟨rfl, rfl⟩), h1⟩, fun _ => rfl⟩
  · rw [if_neg e, h.2 x']
    refine ⟨fun ⟨h3, y', h4, h5⟩ => ⟨h3, y', (Pr.succ hy).2 (.inl h4), h5⟩, fun ⟨h3, y', h4, h5⟩ => ⟨h3, y', ?_, h5⟩⟩
    rcases (Pr.succ hy).1 h4 with h4 | ⟨_, e2⟩
    · exact h4
    · exact absurd e2 e
theorem FrOk.row (h : FrOk next l0 i c fr) (hc : (next.getD i []).length ≤ c) : FrOk next l0 (i + 1) 0 fr :=
  ⟨h.1, fun x => (h.2 x).trans ⟨fun ⟨a, y, b, d⟩ => ⟨a, y, (Pr.row hc).1 b, d⟩, fun ⟨a, y, b, d⟩ => ⟨a, y, (Pr.row hc).2 b, d⟩⟩⟩
theorem ToOk.row (h : ToOk next l0 i c t) (hc : (next.getD i []).length ≤ c) : ToOk next l0 (i + 1) 0 t :=
  ⟨h.1, fun x => (h.2 x).trans ⟨fun ⟨a, y, b, d⟩ => ⟨a, y, (Pr.row hc).1 b, d⟩, fun ⟨a, y, b, d⟩ => ⟨a, y, (Pr.row hc).2 b, d⟩⟩⟩
/-- The set with the first k places renewed. -/
def Ren (l0 fr t : List Bool) (k : Nat) (l : List Bool) : Prop := l.length = l0.length ∧ ∀ x, On l x ↔ On l0 x ∧ (x < k → On fr x ∧ On t x)
theorem Ren.start : Ren l0 fr t 0 l0 := ⟨rfl, fun _ => ⟨fun h => ⟨h, fun h2 => absurd h2 (Nat.not_lt_zero _)⟩, fun h => h.1⟩⟩
theorem Ren.step {k : Nat} {b p q : Bool} (h : Ren l0 fr t k l) (hb : l[k]? = some b) (hp : fr[k]? = some p) (hq : t[k]? = some q) : Ren l0 fr t (k + 1) (l.set k (b && p && q)) := by
  have hk : k < l.length := (List.getElem?_eq_some_iff.1 hb).1
  refine ⟨by rw [List.length_set]; exact h.1, fun x => ?_⟩
  rw [On.set_iff hk]
  by_cases e : x = k
  · subst e
    have hx := h.2 x
    rw [if_pos rfl]
    have h1 : On l x ↔ b = true := by unfold On; rw [hb]; simp
    have h2 : On fr x ↔ p = true := by unfold On; rw [hp]; simp
    have h3 : On t x ↔ q = true := by unfold On; rw [hq]; simp
    rw [h1] at hx
    rw [Bool.and_eq_true, Bool.and_eq_true, hx, h2, h3]
    constructor
    · rintro ⟨⟨⟨a, _⟩, b⟩, c⟩; exact ⟨a, fun _ => ⟨b, c⟩⟩
    · rintro ⟨a, b⟩
      obtain ⟨c, d⟩ := b (by omega)
      exact ⟨⟨⟨a, fun h => absurd h (by omega)⟩, c⟩, d⟩
  · rw [if_neg e, h.2 x]
    constructor
    · rintro ⟨a, b⟩; exact ⟨a, fun hx => b (by omega)⟩
    · rintro ⟨a, b⟩; exact ⟨a, fun hx => b (by omega)⟩
theorem Ren.rnd (h : Ren l0 fr t n l) (hl : l0.length = n) (hn : next.length ≤ n) (hf : FrOk next l0 n 0 fr) (ht : ToOk next l0 n 0 t) : Rnd (EntN next) l0 l := by
  refine ⟨h.1, fun x => ?_⟩
  rw [h.2 x]
  constructor
  · rintro ⟨a, b⟩
    obtain ⟨c, d⟩ := b (by rw [← hl]; exact a.lt)
    obtain ⟨_, y, hy, hy2⟩ := (hf.2 x).1 c
    obtain ⟨_, z, hz, hz2⟩ := (ht.2 x).1 d
    exact ⟨a, ⟨y, hy2, (Pr.all hn).1 hy⟩, z, hz2, (Pr.all hn).1 hz⟩
  · rintro ⟨a, ⟨y, hy, hy2⟩, z, hz, hz2⟩
    exact ⟨a, fun _ => ⟨(hf.2 x).2 ⟨a, y, (Pr.all hn).2 hy2, hy⟩, (ht.2 x).2 ⟨a, z, (Pr.all hn).2 hz2, hz⟩⟩⟩
end
/-- A slice of bools of the call's own, by its cells. -/
def Bl (w : World) (b : Nat) (l : List Bool) : Prop := b < w.heap.size ∧ ∀ i x, l[i]? = some x → w.cell? ⟨b, i, none⟩ = some (.bool x) ∧ w.frozen? ⟨b, i, none⟩ = false
theorem Bl.set {w : World} {b i : Nat} {l : List Bool} (h : Bl w b l) (hi : i < l.length) (y : Bool) : Bl (w.setCell ⟨b, i, none⟩ (.bool y)) b (l.set i y) := by
  refine ⟨by simpa using h.1, fun j x hx => ?_⟩
  by_cases e : i = j
  · subst e
    rw [List.getElem?_set_self hi] at hx
    cases hx
    have h1 := h.2 i _ (List.getElem?_eq_getElem hi)
    exact ⟨World.cell?_setCell_same _ _ _ h1.1, by rw [World.frozen?_setCell]; exact h1.2⟩
  · rw [List.getElem?_set_ne e] at hx
    have h1 := h.2 j x hx
    exact ⟨by rw [World.cell?_setCell_other _ _ _ _ (by simp)]; exact h1.1, by rw [World.frozen?_setCell]; exact h1.2⟩
theorem Bl.other {w : World} {b b' i : Nat} {l : List Bool} (h : Bl w b l) (hb : b' ≠ b) (u : Value) : Bl (w.setCell ⟨b', i, none⟩ u) b l :=
  ⟨by simpa using h.1, fun j x hx => ⟨by rw [World.cell?_setCell_other _ _ _ _ (by intro h2; injection h2 with h3; exact hb h3)]; exact (h.2 j x hx).1, by rw [World.frozen?_setCell]; exact (h.2 j x hx).2⟩⟩
end Go.Sd
end
