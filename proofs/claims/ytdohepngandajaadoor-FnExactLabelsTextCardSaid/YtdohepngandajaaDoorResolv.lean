/-
  IsResolving, both sides.
-/
import Derived.Test.YtdohepngandajaaDoorRows
import Derived.Test.YtdohepngandajaaDoorBase
import Derived.Test.YtdohepngandajaaDoorAllF
import Derived.Test.YtdohepngandajaaDoorLab
import Derived.Test.YtdohepngandajaaDoorLabC
import Derived.Test.YtdohepngandajaaDoorLabV
import Derived.Test.YtdohepngandajaaDoorLabVS
namespace Go.Proofs.YtdohepngandajaaDoor
open Go.RowKit Go.Deep Go.Sd

def resB (xs : List Arc3) (k : Nat) : Bool := decide (k = 0) || !(decide ((at3 xs (k - 1)).1 = (at3 xs k).1) && decide ((at3 xs (k - 1)).2.2 = (at3 xs k).2.2))
def resolvM (l : Lb) : Bool := isLab l && allF (resB l.2.2) l.2.2.length 0
theorem resB_first (xs : List Arc3) (n : Nat) : allF (resB xs) n 0 = allF (resB xs) (n - 1) (0 + 1) := by
  cases n with
  | zero => rfl
  | succ n =>
    show (if resB xs 0 = true then allF (resB xs) n (0 + 1) else false) = _
    rw [if_pos (by unfold resB; simp)]
    rfl
set_option maxHeartbeats 1000000 in
set_option maxRecDepth 10000 in
theorem isResolving_c {w : World} {v : Value} {l : Lb} (h : LabR w v l) :
    Calls Tryd.prog 57 #[v] w fun e w' => e = .returned (.bool (allF (resB l.2.2) l.2.2.length 0)) ∧ Below w.heap.size w w' := by
  obtain ⟨L, S, xs⟩ := l
  obtain ⟨va, rfl, hlen, a, c, rfl, _, _, _, hcell⟩ := h
  have HT0 := Lib.hid (show allF (resB xs) xs.length 0 = allF (resB xs) xs.length 0 from rfl)
  simp only at hcell hlen
  simp only
  obtain ⟨n, hn⟩ : ∃ n, n = xs.length := ⟨_, rfl⟩
  have Hn := Lib.hid hn
  rw [← hn] at hcell hlen HT0 ⊢
  clear hn
  obtain ⟨T, hT⟩ : ∃ T, T = allF (resB xs) n 0 := ⟨_, rfl⟩
  rw [← hT]
  have HT := Lib.hid hT
  clear hT HT0
  go_enter Tryd.func57, Tryd.ntmps57
  have q0 : (w.alloc (.cells #[.int .i64 L, .int .i64 S, .slice a n c] 29)).cell? ⟨w.heap.size, 2, none⟩ = some (.slice a n c) := by simp
  have hb1 : Below w.heap.size w (w.alloc (.cells #[.int .i64 L, .int .i64 S, .slice a n c] 29)) := (Below.refl _ _).alloc (Nat.le_refl _) _
  have m1 : w.heap.size < (w.alloc (.cells #[.int .i64 L, .int .i64 S, .slice a n c] 29)).heap.size := by simp
  go_wp2
  generalize w.alloc (.cells #[.int .i64 L, .int .i64 S, .slice a n c] 29) = w1 at *
  have Hb1 := Lib.hid hb1
  have hz := hb1.size
  go_loopg [8] n (fun g i wr => ∃ (k : Nat), i = .int .i64 k ∧ k + g = n ∧ Hid (T = allF (resB xs) g k) ∧ Below w1.heap.size w1 wr)
  case atStart => exact ⟨0, rfl, by omega, HT, Below.refl _ _⟩
  case round =>
    obtain ⟨k, rfl, hk, HK, hbel⟩ := hrel
    obtain ⟨g, hg⟩ : ∃ g, g = gk := ⟨_, rfl⟩
    rw [← hg] at HK hk
    by_cases hlt : k < n
    · obtain ⟨g', rfl⟩ : ∃ t, g = t + 1 := ⟨g - 1, by omega⟩
      have HK1 := Lib.hid (show T = if resB xs k = true then allF (resB xs) g' (k + 1) else false from HK.out)
      obtain ⟨b, o, rfl, hb, hx0⟩ := hcell (by omega)
      have r2 : wr.cell? ⟨w.heap.size, 2, none⟩ = some (.slice (some ⟨b, o, none⟩) n c) := (hbel.cell (p := ⟨w.heap.size, 2, none⟩) m1).trans q0
      have hz2 := hbel.size
      have hbr : b < wr.heap.size := by omega
      have hwr : w.heap.size < wr.heap.size := by omega
      have Hbel := Lib.hid hbel
      by_cases hk0 : k = 0
      · subst hk0
        obtain ⟨x, hx, _⟩ := at_lt (xs := xs) (k := 0) (by have := Hn.out; omega)
        obtain ⟨f0, f1, f2⟩ := hx0 0 x hx
        rw [Nat.zero_mul, Nat.add_zero] at f0 f1 f2
        have g0 : wr.cell? ⟨b, o, none⟩ = some (.int .i64 x.1) := (hbel.cell (p := ⟨b, o, none⟩) (by simp; omega)).trans ((hb1.cell (p := ⟨b, o, none⟩) hb).trans f0)
        have g1 : wr.cell? ⟨b, o + 1, none⟩ = some (.int .i64 x.2.1) := (hbel.cell (p := ⟨b, o + 1, none⟩) (by simp; omega)).trans ((hb1.cell (p := ⟨b, o + 1, none⟩) hb).trans f1)
        have g2 : wr.cell? ⟨b, o + 2, none⟩ = some (.int .i64 x.2.2) := (hbel.cell (p := ⟨b, o + 2, none⟩) (by simp; omega)).trans ((hb1.cell (p := ⟨b, o + 2, none⟩) hb).trans f2)
        have HT2 := Lib.hid (show T = allF (resB xs) g' (0 + 1) from by rw [HK1.out, if_pos (by unfold resB; simp)])
        clear HK HK1 hx0 hcell hx f0 f1 f2 hbel hb1
        obtain ⟨x0, x1, x2⟩ := x
        simp only at g0 g1 g2
        go_wp2
        go_quiet (fail)
        go_wp2
        go_roundg g'
        case measure => omega
        case rel => exact ⟨0 + 1, by go_num, by omega, HT2, below_drewN (Hbel.out.alloc hz2 _) _⟩
      obtain ⟨j, rfl⟩ : ∃ j, k = j + 1 := ⟨k - 1, by omega⟩
      obtain ⟨x, hx, _⟩ := at_lt (xs := xs) (k := j + 1) (by have := Hn.out; omega)
      obtain ⟨f0, f1, f2⟩ := hx0 (j + 1) x hx
      have g0 : wr.cell? ⟨b, o + (j + 1) * 3, none⟩ = some (.int .i64 x.1) := (hbel.cell (p := ⟨b, o + (j + 1) * 3, none⟩) (by simp; omega)).trans ((hb1.cell (p := ⟨b, o + (j + 1) * 3, none⟩) hb).trans f0)
      have g1 : wr.cell? ⟨b, o + (j + 1) * 3 + 1, none⟩ = some (.int .i64 x.2.1) := (hbel.cell (p := ⟨b, o + (j + 1) * 3 + 1, none⟩) (by simp; omega)).trans ((hb1.cell (p := ⟨b, o + (j + 1) * 3 + 1, none⟩) hb).trans f1)
      have g2 : wr.cell? ⟨b, o + (j + 1) * 3 + 2, none⟩ = some (.int .i64 x.2.2) := (hbel.cell (p := ⟨b, o + (j + 1) * 3 + 2, none⟩) (by simp; omega)).trans ((hb1.cell (p := ⟨b, o + (j + 1) * 3 + 2, none⟩) hb).trans f2)
      obtain ⟨y, hy, _⟩ := at_lt (xs := xs) (k := j) (by have := Hn.out; omega)
      obtain ⟨e0, e1, e2⟩ := hx0 (j) y hy
      have p0 : wr.cell? ⟨b, o + (j) * 3, none⟩ = some (.int .i64 y.1) := (hbel.cell (p := ⟨b, o + (j) * 3, none⟩) (by simp; omega)).trans ((hb1.cell (p := ⟨b, o + (j) * 3, none⟩) hb).trans e0)
      have p1 : wr.cell? ⟨b, o + (j) * 3 + 1, none⟩ = some (.int .i64 y.2.1) := (hbel.cell (p := ⟨b, o + (j) * 3 + 1, none⟩) (by simp; omega)).trans ((hb1.cell (p := ⟨b, o + (j) * 3 + 1, none⟩) hb).trans e1)
      have p2 : wr.cell? ⟨b, o + (j) * 3 + 2, none⟩ = some (.int .i64 y.2.2) := (hbel.cell (p := ⟨b, o + (j) * 3 + 2, none⟩) (by simp; omega)).trans ((hb1.cell (p := ⟨b, o + (j) * 3 + 2, none⟩) hb).trans e2)
      have HB := Lib.hid (show resB xs (j + 1) = !(decide (y.1 = x.1) && decide (y.2.2 = x.2.2)) from by unfold resB; rw [show j + 1 - 1 = j from rfl, at3_of hx, at3_of hy]; simp)
      have hjn : (j : Int) < (n : Int) := by omega
      have hjn1 : (j : Int) + 1 < (n : Int) := by omega
      clear HK hx0 hcell hx hy f0 f1 f2 e0 e1 e2 hbel hb1
      obtain ⟨x0, x1, x2⟩ := x
      obtain ⟨y0, y1, y2⟩ := y
      simp only at g0 g1 g2 p0 p1 p2
      by_cases hf : y0 = x0
      rotate_left
      · have HT2 := Lib.hid (show T = allF (resB xs) g' (j + 1 + 1) from by rw [HK1.out, if_pos (by rw [HB.out]; simp [hf])])
        have t1 : (y0 == x0) = false := by simp; omega
        clear HK1 HB hf
        go_wp2
        go_quiet (fail)
        go_wp2
        go_roundg g'
        case measure => omega
        case rel => exact ⟨j + 1 + 1, by go_num, by omega, HT2, below_drewN (Hbel.out.alloc hz2 _) _⟩
      by_cases hl : y2 = x2
      rotate_left
      · have HT2 := Lib.hid (show T = allF (resB xs) g' (j + 1 + 1) from by rw [HK1.out, if_pos (by rw [HB.out]; simp [hl])])
        have t1 : (y0 == x0) = true := by simp [hf]
        have t2 : (y2 == x2) = false := by simp; omega
        clear HK1 HB hf hl
        go_wp2
        go_quiet (fail)
        go_wp2
        go_roundg g'
        case measure => omega
        case rel => exact ⟨j + 1 + 1, by go_num, by omega, HT2, below_drewN (Hbel.out.alloc hz2 _) _⟩
      have HF := Lib.hid (show T = false from by rw [HK1.out, if_neg (by rw [HB.out]; simp [hf, hl])])
      have t1 : (y0 == x0) = true := by simp [hf]
      have t2 : (y2 == x2) = true := by simp [hl]
      clear HK1 HB hf hl
      go_wp2
      go_quiet (fail)
      go_wp2
      go_ret
      exact ⟨by rw [HF.out]; rfl, below_drewN ((Hb1.out.trans (Hbel.out.mono hz)).alloc (Nat.le_of_lt hwr) _) _⟩
    · have e : g = 0 := by omega
      subst e
      have HF := Lib.hid (show T = true from HK.out)
      have Hbz := Lib.hid (Hb1.out.trans (hbel.mono hz))
      have r2 : wr.cell? ⟨w.heap.size, 2, none⟩ = some (.slice a n c) := (hbel.cell (p := ⟨w.heap.size, 2, none⟩) m1).trans q0
      clear HK hbel hg hb1 hcell
      go_wp2
      go_ret
      exact ⟨by rw [HF.out]; rfl, Hbz.out⟩
set_option maxHeartbeats 1000000 in
set_option maxRecDepth 10000 in
theorem l15Resolving_c {w : World} {v : Value} {l : Lb} (h : LabR w v l) :
    Calls Tryd.prog 39 #[v] w fun e w' => e = .returned (.bool (allF (resB l.2.2) l.2.2.length 0)) ∧ Below w.heap.size w w' := by
  obtain ⟨L, S, xs⟩ := l
  obtain ⟨va, rfl, hlen, a, c, rfl, _, _, _, hcell⟩ := h
  have HT0 := Lib.hid (show allF (resB xs) xs.length 0 = allF (resB xs) xs.length 0 from rfl)
  simp only at hcell hlen
  simp only
  obtain ⟨n, hn⟩ : ∃ n, n = xs.length := ⟨_, rfl⟩
  have Hn := Lib.hid hn
  rw [← hn] at hcell hlen HT0 ⊢
  clear hn
  obtain ⟨T, hT⟩ : ∃ T, T = allF (resB xs) n 0 := ⟨_, rfl⟩
  rw [← hT]
  have HT := Lib.hid hT
  clear hT HT0
  go_enter Tryd.func39, Tryd.ntmps39
  have q0 : (w.alloc (.cells #[.int .i64 L, .int .i64 S, .slice a n c] 29)).cell? ⟨w.heap.size, 2, none⟩ = some (.slice a n c) := by simp
  have hb1 : Below w.heap.size w (w.alloc (.cells #[.int .i64 L, .int .i64 S, .slice a n c] 29)) := (Below.refl _ _).alloc (Nat.le_refl _) _
  have m1 : w.heap.size < (w.alloc (.cells #[.int .i64 L, .int .i64 S, .slice a n c] 29)).heap.size := by simp
  go_wp2
  generalize w.alloc (.cells #[.int .i64 L, .int .i64 S, .slice a n c] 29) = w1 at *
  have Hb1 := Lib.hid hb1
  have hz := hb1.size
  go_loopg [3] (n - 1) (fun g i wr => ∃ (k : Nat), i = .int .i64 ((k : Int) + 1) ∧ (k + 1 + g = n ∨ n = 0 ∧ g = 0) ∧ Hid (T = allF (resB xs) g (k + 1)) ∧ Below w1.heap.size w1 wr)
  case atStart => exact ⟨0, rfl, by omega, Lib.hid (by rw [HT.out]; exact resB_first xs n), Below.refl _ _⟩
  case round =>
    obtain ⟨k, rfl, hk, HK, hbel⟩ := hrel
    obtain ⟨g, hg⟩ : ∃ g, g = gk := ⟨_, rfl⟩
    rw [← hg] at HK hk
    by_cases hlt : k + 1 < n
    · obtain ⟨g', rfl⟩ : ∃ t, g = t + 1 := ⟨g - 1, by omega⟩
      obtain ⟨j, rfl⟩ : ∃ j, j = k := ⟨_, rfl⟩
      have HK1 := Lib.hid (show T = if resB xs (j + 1) = true then allF (resB xs) g' (j + 1 + 1) else false from HK.out)
      obtain ⟨b, o, rfl, hb, hx0⟩ := hcell (by omega)
      have r2 : wr.cell? ⟨w.heap.size, 2, none⟩ = some (.slice (some ⟨b, o, none⟩) n c) := (hbel.cell (p := ⟨w.heap.size, 2, none⟩) m1).trans q0
      have hz2 := hbel.size
      have hbr : b < wr.heap.size := by omega
      have hwr : w.heap.size < wr.heap.size := by omega
      have Hbel := Lib.hid hbel
      obtain ⟨x, hx, _⟩ := at_lt (xs := xs) (k := j + 1) (by have := Hn.out; omega)
      obtain ⟨f0, f1, f2⟩ := hx0 (j + 1) x hx
      have g0 : wr.cell? ⟨b, o + (j + 1) * 3, none⟩ = some (.int .i64 x.1) := (hbel.cell (p := ⟨b, o + (j + 1) * 3, none⟩) (by simp; omega)).trans ((hb1.cell (p := ⟨b, o + (j + 1) * 3, none⟩) hb).trans f0)
      have g1 : wr.cell? ⟨b, o + (j + 1) * 3 + 1, none⟩ = some (.int .i64 x.2.1) := (hbel.cell (p := ⟨b, o + (j + 1) * 3 + 1, none⟩) (by simp; omega)).trans ((hb1.cell (p := ⟨b, o + (j + 1) * 3 + 1, none⟩) hb).trans f1)
      have g2 : wr.cell? ⟨b, o + (j + 1) * 3 + 2, none⟩ = some (.int .i64 x.2.2) := (hbel.cell (p := ⟨b, o + (j + 1) * 3 + 2, none⟩) (by simp; omega)).trans ((hb1.cell (p := ⟨b, o + (j + 1) * 3 + 2, none⟩) hb).trans f2)
      obtain ⟨y, hy, _⟩ := at_lt (xs := xs) (k := j) (by have := Hn.out; omega)
      obtain ⟨e0, e1, e2⟩ := hx0 (j) y hy
      have p0 : wr.cell? ⟨b, o + (j) * 3, none⟩ = some (.int .i64 y.1) := (hbel.cell (p := ⟨b, o + (j) * 3, none⟩) (by simp; omega)).trans ((hb1.cell (p := ⟨b, o + (j) * 3, none⟩) hb).trans e0)
      have p1 : wr.cell? ⟨b, o + (j) * 3 + 1, none⟩ = some (.int .i64 y.2.1) := (hbel.cell (p := ⟨b, o + (j) * 3 + 1, none⟩) (by simp; omega)).trans ((hb1.cell (p := ⟨b, o + (j) * 3 + 1, none⟩) hb).trans e1)
      have p2 : wr.cell? ⟨b, o + (j) * 3 + 2, none⟩ = some (.int .i64 y.2.2) := (hbel.cell (p := ⟨b, o + (j) * 3 + 2, none⟩) (by simp; omega)).trans ((hb1.cell (p := ⟨b, o + (j) * 3 + 2, none⟩) hb).trans e2)
      have HB := Lib.hid (show resB xs (j + 1) = !(decide (y.1 = x.1) && decide (y.2.2 = x.2.2)) from by unfold resB; rw [show j + 1 - 1 = j from rfl, at3_of hx, at3_of hy]; simp)
      have hjn : (j : Int) < (n : Int) := by omega
      have hjn1 : (j : Int) + 1 < (n : Int) := by omega
      clear HK hx0 hcell hx hy f0 f1 f2 e0 e1 e2 hbel hb1
      obtain ⟨x0, x1, x2⟩ := x
      obtain ⟨y0, y1, y2⟩ := y
      simp only at g0 g1 g2 p0 p1 p2
      by_cases hf : y0 = x0
      rotate_left
      · have HT2 := Lib.hid (show T = allF (resB xs) g' (j + 1 + 1) from by rw [HK1.out, if_pos (by rw [HB.out]; simp [hf])])
        have t1 : (x0 == y0) = false := by simp; omega
        clear HK1 HB hf
        go_wp2
        go_quiet (fail)
        go_wp2
        go_roundg g'
        case measure => omega
        case rel => exact ⟨j + 1, by go_num, by omega, HT2, below_drewN Hbel.out _⟩
      by_cases hl : y2 = x2
      rotate_left
      · have HT2 := Lib.hid (show T = allF (resB xs) g' (j + 1 + 1) from by rw [HK1.out, if_pos (by rw [HB.out]; simp [hl])])
        have t1 : (x0 == y0) = true := by simp [hf]
        have t2 : (x2 == y2) = false := by simp; omega
        clear HK1 HB hf hl
        go_wp2
        go_quiet (fail)
        go_wp2
        go_roundg g'
        case measure => omega
        case rel => exact ⟨j + 1, by go_num, by omega, HT2, below_drewN Hbel.out _⟩
      have HF := Lib.hid (show T = false from by rw [HK1.out, if_neg (by rw [HB.out]; simp [hf, hl])])
      have t1 : (x0 == y0) = true := by simp [hf]
      have t2 : (x2 == y2) = true := by simp [hl]
      clear HK1 HB hf hl
      go_wp2
      go_quiet (fail)
      go_wp2
      go_ret
      exact ⟨by rw [HF.out]; rfl, below_drewN (Hb1.out.trans (Hbel.out.mono hz)) _⟩
    · have e : g = 0 := by omega
      subst e
      have HF := Lib.hid (show T = true from HK.out)
      have Hbz := Lib.hid (Hb1.out.trans (hbel.mono hz))
      have r2 : wr.cell? ⟨w.heap.size, 2, none⟩ = some (.slice a n c) := (hbel.cell (p := ⟨w.heap.size, 2, none⟩) m1).trans q0
      clear HK hbel hg hb1 hcell
      go_wp2
      go_ret
      exact ⟨by rw [HF.out]; rfl, Hbz.out⟩
set_option maxHeartbeats 400000 in
theorem impl_IsResolving_c {w : World} {v : Value} {l : Lb} (h : LabR w v l) :
    Calls Tryd.prog 50 #[v] w fun e w' => e = .returned (.bool (resolvM l)) ∧ Below w.heap.size w w' := by
  have H := Lib.hid (show resolvM l = (isLab l && allF (resB l.2.2) l.2.2.length 0) from rfl)
  have H1 := Lib.hid (fun w1 (hb : Below w.heap.size w w1) => impl_IsLabels_c (LabR.frame _ _ _ _ h hb))
  have H2 := Lib.hid (fun w1 (hb : Below w.heap.size w w1) => isResolving_c (LabR.frame _ _ _ _ h hb))
  generalize resolvM l = T at H ⊢
  generalize isLab l = p at H H1
  generalize allF (resB l.2.2) l.2.2.length 0 = q at H H2
  obtain ⟨L, S, xs⟩ := l
  obtain ⟨va, rfl, _, a, c, rfl, _, _, _, _⟩ := h
  simp only at *
  go_enter Tryd.func50, Tryd.ntmps50
  go_wp2_with fail
  obtain ⟨w1, ex, A0, c0, c1, c2, m1⟩ := boxA3_ex w 29 (.int .i64 L) (.int .i64 S) (.slice a xs.length c)
  change Calls Tryd.prog _ _ (w.alloc (.cells #[.int .i64 L, .int .i64 S, .slice a xs.length c] 29)) _
  rw [ex]
  clear ex
  refine (H1.out _ A0).mono ?_
  rintro e w2 ⟨rfl, hb2⟩
  replace c0 := (hb2.cell (p := ⟨w.heap.size, 0, none⟩) m1).trans c0
  replace c1 := (hb2.cell (p := ⟨w.heap.size, 1, none⟩) m1).trans c1
  replace c2 := (hb2.cell (p := ⟨w.heap.size, 2, none⟩) m1).trans c2
  replace A0 := A0.trans (hb2.mono A0.size)
  clear hb2
  cases p with
  | false => go_wp2; go_ret; exact ⟨by rw [H.out]; rfl, A0⟩
  | true =>
  go_wp2_with fail
  refine (H2.out _ A0).mono ?_
  rintro e w3 ⟨rfl, hb3⟩
  replace A0 := A0.trans (hb3.mono A0.size)
  clear hb3
  go_wp2
  go_ret
  exact ⟨by rw [H.out]; rfl, A0⟩
set_option maxHeartbeats 400000 in
theorem spec_IsResolving_c {w : World} {v : Value} {l : Lb} (h : LabR w v l) :
    Calls Tryd.prog 21 #[v] w fun e w' => e = .returned (.bool (resolvM l)) ∧ Below w.heap.size w w' := by
  have H := Lib.hid (show resolvM l = (isLab l && allF (resB l.2.2) l.2.2.length 0) from rfl)
  have H1 := Lib.hid (fun w1 (hb : Below w.heap.size w w1) => spec_IsLabels_c (LabR.frame _ _ _ _ h hb))
  have H2 := Lib.hid (fun w1 (hb : Below w.heap.size w w1) => l15Resolving_c (LabR.frame _ _ _ _ h hb))
  generalize resolvM l = T at H ⊢
  generalize isLab l = p at H H1
  generalize allF (resB l.2.2) l.2.2.length 0 = q at H H2
  obtain ⟨L, S, xs⟩ := l
  obtain ⟨va, rfl, _, a, c, rfl, _, _, _, _⟩ := h
  simp only at *
  go_enter Tryd.func21, Tryd.ntmps21
  go_wp2_with fail
  obtain ⟨w1, ex, A0, c0, c1, c2, m1⟩ := boxA3_ex w 29 (.int .i64 L) (.int .i64 S) (.slice a xs.length c)
  change Calls Tryd.prog _ _ (w.alloc (.cells #[.int .i64 L, .int .i64 S, .slice a xs.length c] 29)) _
  rw [ex]
  clear ex
  refine (H1.out _ A0).mono ?_
  rintro e w2 ⟨rfl, hb2⟩
  replace c0 := (hb2.cell (p := ⟨w.heap.size, 0, none⟩) m1).trans c0
  replace c1 := (hb2.cell (p := ⟨w.heap.size, 1, none⟩) m1).trans c1
  replace c2 := (hb2.cell (p := ⟨w.heap.size, 2, none⟩) m1).trans c2
  replace A0 := A0.trans (hb2.mono A0.size)
  clear hb2
  cases p with
  | false => go_wp2; go_ret; exact ⟨by rw [H.out]; rfl, A0⟩
  | true =>
  go_wp2_with fail
  refine (H2.out _ A0).mono ?_
  rintro e w3 ⟨rfl, hb3⟩
  replace A0 := A0.trans (hb3.mono A0.size)
  clear hb3
  go_wp2
  go_ret
  exact ⟨by rw [H.out]; rfl, A0⟩
end Go.Proofs.YtdohepngandajaaDoor
