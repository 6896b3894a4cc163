/-
  IsChain, both sides.
-/
import Derived.Test.YtjgiobapdkdhpaaRows
import Derived.Test.YtjgiobapdkdhpaaBase
import Derived.Test.YtjgiobapdkdhpaaMat
import Derived.Test.YtjgiobapdkdhpaaJoin
import Derived.Test.YtjgiobapdkdhpaaMoeb
import Derived.Test.YtjgiobapdkdhpaaStepH
import Derived.Test.YtjgiobapdkdhpaaStps
import Derived.Test.YtjgiobapdkdhpaaIsStep
import Derived.Test.YtjgiobapdkdhpaaBoxKit
import Derived.IntWalk
import Derived.Deep.RegionHeld3
import Derived.Deep.DeepCutAuto
namespace Go.Proofs.Ytjgiobapdkdhpaa
open Go.RowKit Go.Deep Go.Sd

def chB (ts : List Tb) (xs : List (Tb × Tb)) (k : Nat) : Bool := stepM (ts.getD k []) (ts.getD (k + 1) []) (xs.getD k ([], []))
def chLen (ts : List Tb) (xs : List (Tb × Tb)) : Bool := decide (1 ≤ ts.length ∧ ts.length ≤ 10 ∧ xs.length + 1 = ts.length)
def chainM (ts : List Tb) (xs : List (Tb × Tb)) : Bool := chLen ts xs && (isMat (ts.getD 0 []) && allF (chB ts xs) xs.length 0)
set_option maxHeartbeats 4000000 in
set_option maxRecDepth 10000 in
theorem impl_IsChain_c {w : World} {v1 v2 : Value} {ts : List Tb} {xs : List (Tb × Tb)} (h1 : Tabs w v1 ts) (h2 : StpsR w v2 xs) :
    Calls Try.prog 92 #[v1, v2] w fun e w' => e = .returned (.bool (chainM ts xs)) ∧ Below w.heap.size w w' := by
  have hlt := h1.len
  obtain ⟨ta, tc, rfl, _, _, htc⟩ := h1.shape
  obtain ⟨hlx, a, c, rfl, _, _, _, hcell⟩ := h2
  have H0 := Lib.hid (show chainM ts xs = (chLen ts xs && (isMat (ts.getD 0 []) && allF (chB ts xs) xs.length 0)) from rfl)
  generalize chainM ts xs = T at H0 ⊢
  have Hl := Lib.hid (show chLen ts xs = decide (1 ≤ ts.length ∧ ts.length ≤ 10 ∧ xs.length + 1 = ts.length) from rfl)
  clear h1
  obtain ⟨n, hn⟩ : ∃ n, n = xs.length := ⟨_, rfl⟩
  obtain ⟨m, hm⟩ : ∃ m, m = ts.length := ⟨_, rfl⟩
  rw [← hn] at H0 Hl hcell hlx
  rw [← hm] at Hl htc hlt
  rw [← hm, ← hn]
  have Hn := Lib.hid hn
  have Hm := Lib.hid hm
  clear hn hm
  by_cases c1 : m < 1
  · have : m < 1 := c1
    have HF := Lib.hid (show T = false from by rw [H0.out, Hl.out, decide_eq_false (by omega)]; rfl)
    clear H0 Hl hcell htc
    go_enter Try.func92, Try.ntmps92
    go_wp2
    go_ret
    exact ⟨by rw [HF.out]; rfl, Below.refl _ _⟩
  by_cases c2 : 10 < m
  · have : 10 < m := c2
    have HF := Lib.hid (show T = false from by rw [H0.out, Hl.out, decide_eq_false (by omega)]; rfl)
    clear H0 Hl hcell htc
    go_enter Try.func92, Try.ntmps92
    go_wp2
    go_ret
    exact ⟨by rw [HF.out]; rfl, Below.refl _ _⟩
  by_cases c3 : n + 1 = m
  rotate_left
  · have t3 : ((n : Int) != (m : Int) - 1) = true := by simp; omega
    have HF := Lib.hid (show T = false from by rw [H0.out, Hl.out, decide_eq_false (by omega)]; rfl)
    clear H0 Hl hcell htc
    go_enter Try.func92, Try.ntmps92
    go_wp2
    go_ret
    exact ⟨by rw [HF.out]; rfl, Below.refl _ _⟩
  have HT := Lib.hid (show T = (isMat (ts.getD 0 []) && allF (chB ts xs) n 0) from by rw [H0.out, Hl.out, decide_eq_true (by omega)]; rfl)
  clear H0 Hl
  have t3 : ((n : Int) != (m : Int) - 1) = false := by simp; omega
  obtain ⟨tb, tof, rfl, htb, htx⟩ := htc (by omega)
  have Ht := Lib.hid (fun i (hi : i < m) => (show ∃ u, w.cell? ⟨tb, tof + i, none⟩ = some u ∧ Tab w u (ts.getD i []) from by
    obtain ⟨x, hx, _⟩ := at_lt (xs := ts) (k := i) (by have := Hm.out; omega)
    obtain ⟨u, hu, hr⟩ := htx i x hx
    exact ⟨u, hu, by simpa [List.getD, hx] using hr⟩))
  clear htx htc
  obtain ⟨u0, hu0, hr0⟩ := Ht.out 0 (by omega)
  rw [Nat.add_zero] at hu0
  have H1 := Lib.hid (fun w1 (hb : Below w.heap.size w w1) => impl_IsMatrix_c (Tab.frame _ _ _ _ hr0 hb))
  generalize isMat (ts.getD 0 []) = im at HT H1
  obtain ⟨z0, zc, rfl, _, _, _⟩ := hr0.shape
  generalize (ts.getD 0 []).length = zn at *
  clear hr0
  have hm10 : m ≤ 10 := by omega
  have hm1 : 1 ≤ m := by omega
  cases im with
  | false =>
    have HF := Lib.hid (show T = false from by rw [HT.out]; rfl)
    clear HT hcell
    go_enter Try.func92, Try.ntmps92
    go_wp2_with fail
    refine (H1.out _ (Below.refl _ _)).mono ?_
    rintro e w' ⟨rfl, rfl⟩
    go_wp2
    go_ret
    exact ⟨by rw [HF.out]; rfl, Below.refl _ _⟩
  | true =>
  have HE := Lib.hid (show T = allF (chB ts xs) n 0 from by rw [HT.out]; rfl)
  clear HT
  go_enter Try.func92, Try.ntmps92
  go_wp2_with fail
  refine (H1.out _ (Below.refl _ _)).mono ?_
  rintro e w' ⟨rfl, rfl⟩
  go_wp2
  go_loopg [32] n (fun g i wr => ∃ (k : Nat), i = .int .i64 k ∧ k + g = n ∧ Hid (T = allF (chB ts xs) g k) ∧ Hid (Below w.heap.size w wr))
  case atStart => exact ⟨0, rfl, by omega, HE, Lib.hid (Below.refl _ _)⟩
  case round =>
    obtain ⟨k, rfl, hk, HK, hbel⟩ := hrel
    obtain ⟨g, hg⟩ : ∃ g, g = gk := ⟨_, rfl⟩
    rw [← hg] at HK hk
    by_cases hlt : k < n
    · obtain ⟨g', rfl⟩ : ∃ t, g = t + 1 := ⟨g - 1, by omega⟩
      have HK1 := Lib.hid (show T = if chB ts xs k = true then allF (chB ts xs) g' (k + 1) else false from HK.out)
      obtain ⟨b, o, rfl, hb, hx0⟩ := hcell (by omega)
      obtain ⟨x, hx, _⟩ := at_lt (xs := xs) (k := k) (by have := Hn.out; omega)
      obtain ⟨y1, y2, f0, f1, s1, s2⟩ := hx0 k x hx
      obtain ⟨u1, e1, r1⟩ := Ht.out k (by omega)
      obtain ⟨u2, e2, r2⟩ := Ht.out (k + 1) (by omega)
      have hbw := hbel.out
      have g0 : wr.cell? ⟨b, o + k * 2, none⟩ = some y1 := (hbw.cell (p := ⟨b, o + k * 2, none⟩) hb).trans f0
      have g1 : wr.cell? ⟨b, o + k * 2 + 1, none⟩ = some y2 := (hbw.cell (p := ⟨b, o + k * 2 + 1, none⟩) hb).trans f1
      have g2 : wr.cell? ⟨tb, tof + k, none⟩ = some u1 := (hbw.cell (p := ⟨tb, tof + k, none⟩) htb).trans e1
      have g3 : wr.cell? ⟨tb, tof + (k + 1), none⟩ = some u2 := (hbw.cell (p := ⟨tb, tof + (k + 1), none⟩) htb).trans e2
      have HB := Lib.hid (show chB ts xs k = stepM (ts.getD k []) (ts.getD (k + 1) []) x from by unfold chB; rw [show xs.getD k ([], []) = x from by simp [List.getD, hx]])
      have HC := Lib.hid (fun wz (hz : Below w.heap.size w wz) => impl_IsStep_c (w := wz) (va := u1) (vb := u2) (vx := .agg #[y1, y2]) (x := x) (Tab.frame _ _ _ _ r1 hz) (Tab.frame _ _ _ _ r2 hz) ⟨y1, y2, rfl, Tab.frame _ _ _ _ s1 hz, Tab.frame _ _ _ _ s2 hz⟩)
      generalize stepM (ts.getD k []) (ts.getD (k + 1) []) x = sb at HB HC
      obtain ⟨p1, pn1, pc1, rfl⟩ : ∃ a n c, u1 = .slice a n c := by obtain ⟨a, c, e, _⟩ := r1.shape; exact ⟨_, _, _, e⟩
      obtain ⟨p2, pn2, pc2, rfl⟩ : ∃ a n c, u2 = .slice a n c := by obtain ⟨a, c, e, _⟩ := r2.shape; exact ⟨_, _, _, e⟩
      obtain ⟨q1, qn1, qc1, rfl⟩ : ∃ a n c, y1 = .slice a n c := by obtain ⟨a, c, e, _⟩ := s1.shape; exact ⟨_, _, _, e⟩
      obtain ⟨q2, qn2, qc2, rfl⟩ : ∃ a n c, y2 = .slice a n c := by obtain ⟨a, c, e, _⟩ := s2.shape; exact ⟨_, _, _, e⟩
      have hz := hbw.size
      have hbr : b < wr.heap.size := by omega
      have htr : tb < wr.heap.size := by omega
      have hkn : (k : Int) < (n : Int) := by omega
      have hkm : (k : Int) < (m : Int) := by omega
      have hkm1 : (k : Int) + 1 < (m : Int) := by omega
      have hw1 : IntKind.i64.wrap ((k : Int) + 1) = (k : Int) + 1 := IntWalk.i64_in _ (by omega)
      have hk0 : (0 : Int) ≤ (k : Int) + 1 := by omega
      have hkt : ((k : Int) + 1).toNat = k + 1 := by omega
      clear f0 f1 e1 e2 r1 r2 s1 s2 hx0 hcell hx HK hbw
      cases sb with
      | true =>
        have HF := Lib.hid (show T = allF (chB ts xs) g' (k + 1) from by rw [HK1.out, if_pos HB.out])
        clear HK1 HB
        go_wp2
        obtain ⟨wn, ex, hbn, d0, d1, mn⟩ := boxA_ex wr 38 (.slice q1 qn1 qc1) (.slice q2 qn2 qc2)
        rw [ex]
        clear ex g0 g1
        have hA : tb < wn.heap.size := Nat.lt_of_lt_of_le htr hbn.size
        have HW := Lib.hid (hbel.out.trans (hbn.mono hbel.out.size))
        have hS0 : wn.cell? ⟨tb, tof + k, none⟩ = some (.slice p1 pn1 pc1) ∧ wn.cell? ⟨tb, tof + (k + 1), none⟩ = some (.slice p2 pn2 pc2) ∧ wn.cell? ⟨wr.heap.size, 0, none⟩ = some (.slice q1 qn1 qc1) ∧ wn.cell? ⟨wr.heap.size, 1, none⟩ = some (.slice q2 qn2 qc2) := ⟨(hbn.cell (p := ⟨tb, tof + k, none⟩) htr).trans g2, (hbn.cell (p := ⟨tb, tof + (k + 1), none⟩) htr).trans g3, d0, d1⟩
        have hSd : wn.drew.cell? ⟨tb, tof + k, none⟩ = some (.slice p1 pn1 pc1) ∧ wn.drew.cell? ⟨tb, tof + (k + 1), none⟩ = some (.slice p2 pn2 pc2) ∧ wn.drew.cell? ⟨wr.heap.size, 0, none⟩ = some (.slice q1 qn1 qc1) ∧ wn.drew.cell? ⟨wr.heap.size, 1, none⟩ = some (.slice q2 qn2 qc2) := hS0
        have HS := Lib.hid (fun (wz : World) (hb3 : Below wn.heap.size wn wz) => (show wz.cell? ⟨tb, tof + k, none⟩ = some (.slice p1 pn1 pc1) ∧ wz.cell? ⟨tb, tof + (k + 1), none⟩ = some (.slice p2 pn2 pc2) ∧ wz.cell? ⟨wr.heap.size, 0, none⟩ = some (.slice q1 qn1 qc1) ∧ wz.cell? ⟨wr.heap.size, 1, none⟩ = some (.slice q2 qn2 qc2) from ⟨(hb3.cell (p := ⟨tb, tof + k, none⟩) hA).trans hS0.1, (hb3.cell (p := ⟨tb, tof + (k + 1), none⟩) hA).trans hS0.2.1, (hb3.cell (p := ⟨wr.heap.size, 0, none⟩) mn).trans hS0.2.2.1, (hb3.cell (p := ⟨wr.heap.size, 1, none⟩) mn).trans hS0.2.2.2⟩))
        have B1 := (Below.refl wn.heap.size wn).drew
        have HC1 := Lib.hid (HC.out _ HW.out.drew)
        clear HC hbn d0 d1 g2 g3
        go_region_held3 (fun w' => w'.cell? ⟨tb, tof + k, none⟩ = some (.slice p1 pn1 pc1) ∧ w'.cell? ⟨tb, tof + (k + 1), none⟩ = some (.slice p2 pn2 pc2) ∧ w'.cell? ⟨wr.heap.size, 0, none⟩ = some (.slice q1 qn1 qc1) ∧ w'.cell? ⟨wr.heap.size, 1, none⟩ = some (.slice q2 qn2 qc2))
          (first | with_reducible exact hS1 | with_reducible exact hSd | with_reducible exact hS0 | go_keep)
          ((first
            | (go_at_call 150; (with_reducible refine HC1.out.mono ?_); rintro e w2 ⟨rfl, hb⟩; have B2 := B1.trans (hb.mono B1.size); have hS1 := HS.out _ B2; clear hb)
            | fail))
        have HZ := Lib.hid (HW.out.trans (B2.mono HW.out.size))
        clear B1 B2
        go_wp2
        go_roundg g'
        case measure => omega
        case rel => exact ⟨k + 1, by go_num, by omega, HF, HZ⟩
      | false =>
        have HF := Lib.hid (show T = false from by rw [HK1.out, if_neg (by rw [HB.out]; simp)])
        clear HK1 HB
        go_wp2
        obtain ⟨wn, ex, hbn, d0, d1, mn⟩ := boxA_ex wr 38 (.slice q1 qn1 qc1) (.slice q2 qn2 qc2)
        rw [ex]
        clear ex g0 g1
        have hA : tb < wn.heap.size := Nat.lt_of_lt_of_le htr hbn.size
        have HW := Lib.hid (hbel.out.trans (hbn.mono hbel.out.size))
        have hS0 : wn.cell? ⟨tb, tof + k, none⟩ = some (.slice p1 pn1 pc1) ∧ wn.cell? ⟨tb, tof + (k + 1), none⟩ = some (.slice p2 pn2 pc2) ∧ wn.cell? ⟨wr.heap.size, 0, none⟩ = some (.slice q1 qn1 qc1) ∧ wn.cell? ⟨wr.heap.size, 1, none⟩ = some (.slice q2 qn2 qc2) := ⟨(hbn.cell (p := ⟨tb, tof + k, none⟩) htr).trans g2, (hbn.cell (p := ⟨tb, tof + (k + 1), none⟩) htr).trans g3, d0, d1⟩
        have hSd : wn.drew.cell? ⟨tb, tof + k, none⟩ = some (.slice p1 pn1 pc1) ∧ wn.drew.cell? ⟨tb, tof + (k + 1), none⟩ = some (.slice p2 pn2 pc2) ∧ wn.drew.cell? ⟨wr.heap.size, 0, none⟩ = some (.slice q1 qn1 qc1) ∧ wn.drew.cell? ⟨wr.heap.size, 1, none⟩ = some (.slice q2 qn2 qc2) := hS0
        have HS := Lib.hid (fun (wz : World) (hb3 : Below wn.heap.size wn wz) => (show wz.cell? ⟨tb, tof + k, none⟩ = some (.slice p1 pn1 pc1) ∧ wz.cell? ⟨tb, tof + (k + 1), none⟩ = some (.slice p2 pn2 pc2) ∧ wz.cell? ⟨wr.heap.size, 0, none⟩ = some (.slice q1 qn1 qc1) ∧ wz.cell? ⟨wr.heap.size, 1, none⟩ = some (.slice q2 qn2 qc2) from ⟨(hb3.cell (p := ⟨tb, tof + k, none⟩) hA).trans hS0.1, (hb3.cell (p := ⟨tb, tof + (k + 1), none⟩) hA).trans hS0.2.1, (hb3.cell (p := ⟨wr.heap.size, 0, none⟩) mn).trans hS0.2.2.1, (hb3.cell (p := ⟨wr.heap.size, 1, none⟩) mn).trans hS0.2.2.2⟩))
        have B1 := (Below.refl wn.heap.size wn).drew
        have HC1 := Lib.hid (HC.out _ HW.out.drew)
        clear HC hbn d0 d1 g2 g3
        go_region_held3 (fun w' => w'.cell? ⟨tb, tof + k, none⟩ = some (.slice p1 pn1 pc1) ∧ w'.cell? ⟨tb, tof + (k + 1), none⟩ = some (.slice p2 pn2 pc2) ∧ w'.cell? ⟨wr.heap.size, 0, none⟩ = some (.slice q1 qn1 qc1) ∧ w'.cell? ⟨wr.heap.size, 1, none⟩ = some (.slice q2 qn2 qc2))
          (first | with_reducible exact hS1 | with_reducible exact hSd | with_reducible exact hS0 | go_keep)
          ((first
            | (go_at_call 150; (with_reducible refine HC1.out.mono ?_); rintro e w2 ⟨rfl, hb⟩; have B2 := B1.trans (hb.mono B1.size); have hS1 := HS.out _ B2; clear hb)
            | fail))
        have HZ := Lib.hid (HW.out.trans (B2.mono HW.out.size))
        clear B1 B2
        go_wp2
        go_ret
        exact ⟨by rw [HF.out]; rfl, HZ.out⟩
    · have e : g = 0 := by omega
      subst e
      have HF := Lib.hid (show T = true from HK.out)
      clear HK hg hcell
      go_wp2
      go_ret
      exact ⟨by rw [HF.out]; rfl, hbel.out⟩
set_option maxHeartbeats 4000000 in
set_option maxRecDepth 10000 in
theorem spec_IsChain_c {w : World} {v1 v2 : Value} {ts : List Tb} {xs : List (Tb × Tb)} (h1 : Tabs w v1 ts) (h2 : StpsR w v2 xs) :
    Calls Try.prog 88 #[v1, v2] w fun e w' => e = .returned (.bool (chainM ts xs)) ∧ Below w.heap.size w w' := by
  have hlt := h1.len
  obtain ⟨ta, tc, rfl, _, _, htc⟩ := h1.shape
  obtain ⟨hlx, a, c, rfl, _, _, _, hcell⟩ := h2
  have H0 := Lib.hid (show chainM ts xs = (chLen ts xs && (isMat (ts.getD 0 []) && allF (chB ts xs) xs.length 0)) from rfl)
  generalize chainM ts xs = T at H0 ⊢
  have Hl := Lib.hid (show chLen ts xs = decide (1 ≤ ts.length ∧ ts.length ≤ 10 ∧ xs.length + 1 = ts.length) from rfl)
  clear h1
  obtain ⟨n, hn⟩ : ∃ n, n = xs.length := ⟨_, rfl⟩
  obtain ⟨m, hm⟩ : ∃ m, m = ts.length := ⟨_, rfl⟩
  rw [← hn] at H0 Hl hcell hlx
  rw [← hm] at Hl htc hlt
  rw [← hm, ← hn]
  have Hn := Lib.hid hn
  have Hm := Lib.hid hm
  clear hn hm
  by_cases c1 : m < 1
  · have : m < 1 := c1
    have HF := Lib.hid (show T = false from by rw [H0.out, Hl.out, decide_eq_false (by omega)]; rfl)
    clear H0 Hl hcell htc
    have Hin := Lib.hid (fun w1 => l1In_c (m : Int) 1 10 w1)
    have hin : (decide ((1 : Int) ≤ (m : Int)) && decide ((m : Int) ≤ 10)) = false := by by_cases h : (1 : Int) ≤ (m : Int) <;> simp [h] <;> omega
    rw [hin] at Hin
    clear hin
    go_enter Try.func88, Try.ntmps88
    go_wp2_with fail
    refine (Hin.out _).mono ?_
    rintro e w' ⟨rfl, rfl⟩
    go_wp2
    go_ret
    exact ⟨by rw [HF.out]; rfl, Below.refl _ _⟩
  by_cases c2 : 10 < m
  · have : 10 < m := c2
    have HF := Lib.hid (show T = false from by rw [H0.out, Hl.out, decide_eq_false (by omega)]; rfl)
    clear H0 Hl hcell htc
    have Hin := Lib.hid (fun w1 => l1In_c (m : Int) 1 10 w1)
    have hin : (decide ((1 : Int) ≤ (m : Int)) && decide ((m : Int) ≤ 10)) = false := by by_cases h : (1 : Int) ≤ (m : Int) <;> simp [h] <;> omega
    rw [hin] at Hin
    clear hin
    go_enter Try.func88, Try.ntmps88
    go_wp2_with fail
    refine (Hin.out _).mono ?_
    rintro e w' ⟨rfl, rfl⟩
    go_wp2
    go_ret
    exact ⟨by rw [HF.out]; rfl, Below.refl _ _⟩
  by_cases c3 : n + 1 = m
  rotate_left
  · have t3 : ((n : Int) != (m : Int) - 1) = true := by simp; omega
    have HF := Lib.hid (show T = false from by rw [H0.out, Hl.out, decide_eq_false (by omega)]; rfl)
    clear H0 Hl hcell htc
    have Hin := Lib.hid (fun w1 => l1In_c (m : Int) 1 10 w1)
    have hin : (decide ((1 : Int) ≤ (m : Int)) && decide ((m : Int) ≤ 10)) = true := by rw [decide_eq_true (by omega), decide_eq_true (by omega)]; rfl
    rw [hin] at Hin
    clear hin
    go_enter Try.func88, Try.ntmps88
    go_wp2_with fail
    refine (Hin.out _).mono ?_
    rintro e w' ⟨rfl, rfl⟩
    go_wp2
    go_ret
    exact ⟨by rw [HF.out]; rfl, Below.refl _ _⟩
  have HT := Lib.hid (show T = (isMat (ts.getD 0 []) && allF (chB ts xs) n 0) from by rw [H0.out, Hl.out, decide_eq_true (by omega)]; rfl)
  clear H0 Hl
  have t3 : ((n : Int) != (m : Int) - 1) = false := by simp; omega
  obtain ⟨tb, tof, rfl, htb, htx⟩ := htc (by omega)
  have Ht := Lib.hid (fun i (hi : i < m) => (show ∃ u, w.cell? ⟨tb, tof + i, none⟩ = some u ∧ Tab w u (ts.getD i []) from by
    obtain ⟨x, hx, _⟩ := at_lt (xs := ts) (k := i) (by have := Hm.out; omega)
    obtain ⟨u, hu, hr⟩ := htx i x hx
    exact ⟨u, hu, by simpa [List.getD, hx] using hr⟩))
  clear htx htc
  obtain ⟨u0, hu0, hr0⟩ := Ht.out 0 (by omega)
  rw [Nat.add_zero] at hu0
  have H1 := Lib.hid (fun w1 (hb : Below w.heap.size w w1) => spec_IsMatrix_c (Tab.frame _ _ _ _ hr0 hb))
  generalize isMat (ts.getD 0 []) = im at HT H1
  obtain ⟨z0, zc, rfl, _, _, _⟩ := hr0.shape
  generalize (ts.getD 0 []).length = zn at *
  clear hr0
  have hm10 : m ≤ 10 := by omega
  have hm1 : 1 ≤ m := by omega
  have Hin := Lib.hid (fun w1 => l1In_c (m : Int) 1 10 w1)
  have hin : (decide ((1 : Int) ≤ (m : Int)) && decide ((m : Int) ≤ 10)) = true := by rw [decide_eq_true (by omega), decide_eq_true (by omega)]; rfl
  rw [hin] at Hin
  clear hin
  go_enter Try.func88, Try.ntmps88
  go_wp2_with fail
  refine (Hin.out _).mono ?_
  rintro e w' ⟨rfl, rfl⟩
  go_wp2
  go_loopg [5] n (fun g i wr => ∃ (k : Nat), i = .int .i64 k ∧ k + g = n ∧ Hid (T = (im && allF (chB ts xs) g k)) ∧ Hid (Below w.heap.size w wr))
  case atStart => exact ⟨0, rfl, by omega, HT, Lib.hid (Below.refl _ _)⟩
  case round =>
    obtain ⟨k, rfl, hk, HK, hbel⟩ := hrel
    obtain ⟨g, hg⟩ : ∃ g, g = gk := ⟨_, rfl⟩
    rw [← hg] at HK hk
    by_cases hlt : k < n
    · obtain ⟨g', rfl⟩ : ∃ t, g = t + 1 := ⟨g - 1, by omega⟩
      have HK1 := Lib.hid (show T = (im && if chB ts xs k = true then allF (chB ts xs) g' (k + 1) else false) from HK.out)
      obtain ⟨b, o, rfl, hb, hx0⟩ := hcell (by omega)
      obtain ⟨x, hx, _⟩ := at_lt (xs := xs) (k := k) (by have := Hn.out; omega)
      obtain ⟨y1, y2, f0, f1, s1, s2⟩ := hx0 k x hx
      obtain ⟨u1, e1, r1⟩ := Ht.out k (by omega)
      obtain ⟨u2, e2, r2⟩ := Ht.out (k + 1) (by omega)
      have hbw := hbel.out
      have g0 : wr.cell? ⟨b, o + k * 2, none⟩ = some y1 := (hbw.cell (p := ⟨b, o + k * 2, none⟩) hb).trans f0
      have g1 : wr.cell? ⟨b, o + k * 2 + 1, none⟩ = some y2 := (hbw.cell (p := ⟨b, o + k * 2 + 1, none⟩) hb).trans f1
      have g2 : wr.cell? ⟨tb, tof + k, none⟩ = some u1 := (hbw.cell (p := ⟨tb, tof + k, none⟩) htb).trans e1
      have g3 : wr.cell? ⟨tb, tof + (k + 1), none⟩ = some u2 := (hbw.cell (p := ⟨tb, tof + (k + 1), none⟩) htb).trans e2
      have HB := Lib.hid (show chB ts xs k = stepM (ts.getD k []) (ts.getD (k + 1) []) x from by unfold chB; rw [show xs.getD k ([], []) = x from by simp [List.getD, hx]])
      have HC := Lib.hid (fun wz (hz : Below w.heap.size w wz) => spec_IsStep_c (w := wz) (va := u1) (vb := u2) (vx := .agg #[y1, y2]) (x := x) (Tab.frame _ _ _ _ r1 hz) (Tab.frame _ _ _ _ r2 hz) ⟨y1, y2, rfl, Tab.frame _ _ _ _ s1 hz, Tab.frame _ _ _ _ s2 hz⟩)
      generalize stepM (ts.getD k []) (ts.getD (k + 1) []) x = sb at HB HC
      obtain ⟨p1, pn1, pc1, rfl⟩ : ∃ a n c, u1 = .slice a n c := by obtain ⟨a, c, e, _⟩ := r1.shape; exact ⟨_, _, _, e⟩
      obtain ⟨p2, pn2, pc2, rfl⟩ : ∃ a n c, u2 = .slice a n c := by obtain ⟨a, c, e, _⟩ := r2.shape; exact ⟨_, _, _, e⟩
      obtain ⟨q1, qn1, qc1, rfl⟩ : ∃ a n c, y1 = .slice a n c := by obtain ⟨a, c, e, _⟩ := s1.shape; exact ⟨_, _, _, e⟩
      obtain ⟨q2, qn2, qc2, rfl⟩ : ∃ a n c, y2 = .slice a n c := by obtain ⟨a, c, e, _⟩ := s2.shape; exact ⟨_, _, _, e⟩
      have hz := hbw.size
      have hbr : b < wr.heap.size := by omega
      have htr : tb < wr.heap.size := by omega
      have hkn : (k : Int) < (n : Int) := by omega
      have hkm : (k : Int) < (m : Int) := by omega
      have hkm1 : (k : Int) + 1 < (m : Int) := by omega
      have hw1 : IntKind.i64.wrap ((k : Int) + 1) = (k : Int) + 1 := IntWalk.i64_in _ (by omega)
      have hk0 : (0 : Int) ≤ (k : Int) + 1 := by omega
      have hkt : ((k : Int) + 1).toNat = k + 1 := by omega
      clear f0 f1 e1 e2 r1 r2 s1 s2 hx0 hcell hx HK hbw
      cases sb with
      | true =>
        have HF := Lib.hid (show T = (im && allF (chB ts xs) g' (k + 1)) from by rw [HK1.out, if_pos HB.out])
        clear HK1 HB
        go_wp2
        have hA := htr
        have hBb := hbr
        have HW := hbel
        have hS0 : wr.cell? ⟨tb, tof + k, none⟩ = some (.slice p1 pn1 pc1) ∧ wr.cell? ⟨tb, tof + (k + 1), none⟩ = some (.slice p2 pn2 pc2) ∧ wr.cell? ⟨b, o + k * 2, none⟩ = some (.slice q1 qn1 qc1) ∧ wr.cell? ⟨b, o + k * 2 + 1, none⟩ = some (.slice q2 qn2 qc2) := ⟨g2, g3, g0, g1⟩
        have hSd : wr.drew.cell? ⟨tb, tof + k, none⟩ = some (.slice p1 pn1 pc1) ∧ wr.drew.cell? ⟨tb, tof + (k + 1), none⟩ = some (.slice p2 pn2 pc2) ∧ wr.drew.cell? ⟨b, o + k * 2, none⟩ = some (.slice q1 qn1 qc1) ∧ wr.drew.cell? ⟨b, o + k * 2 + 1, none⟩ = some (.slice q2 qn2 qc2) := hS0
        have HS := Lib.hid (fun (wz : World) (hb3 : Below wr.heap.size wr wz) => (show wz.cell? ⟨tb, tof + k, none⟩ = some (.slice p1 pn1 pc1) ∧ wz.cell? ⟨tb, tof + (k + 1), none⟩ = some (.slice p2 pn2 pc2) ∧ wz.cell? ⟨b, o + k * 2, none⟩ = some (.slice q1 qn1 qc1) ∧ wz.cell? ⟨b, o + k * 2 + 1, none⟩ = some (.slice q2 qn2 qc2) from ⟨(hb3.cell (p := ⟨tb, tof + k, none⟩) hA).trans hS0.1, (hb3.cell (p := ⟨tb, tof + (k + 1), none⟩) hA).trans hS0.2.1, (hb3.cell (p := ⟨b, o + k * 2, none⟩) hBb).trans hS0.2.2.1, (hb3.cell (p := ⟨b, o + k * 2 + 1, none⟩) hBb).trans hS0.2.2.2⟩))
        have B1 := (Below.refl wr.heap.size wr).drew
        have HC1 := Lib.hid (HC.out _ HW.out.drew)
        clear HC g0 g1 g2 g3
        go_region_held3 (fun w' => w'.cell? ⟨tb, tof + k, none⟩ = some (.slice p1 pn1 pc1) ∧ w'.cell? ⟨tb, tof + (k + 1), none⟩ = some (.slice p2 pn2 pc2) ∧ w'.cell? ⟨b, o + k * 2, none⟩ = some (.slice q1 qn1 qc1) ∧ w'.cell? ⟨b, o + k * 2 + 1, none⟩ = some (.slice q2 qn2 qc2))
          (first | with_reducible exact hS1 | with_reducible exact hSd | with_reducible exact hS0 | go_keep)
          ((first
            | (go_at_call 148; (with_reducible refine HC1.out.mono ?_); rintro e w2 ⟨rfl, hb⟩; have B2 := B1.trans (hb.mono B1.size); have hS1 := HS.out _ B2; clear hb)
            | fail))
        have HZ := Lib.hid (HW.out.trans (B2.mono HW.out.size))
        clear B1 B2
        go_wp2
        go_roundg g'
        case measure => omega
        case rel => exact ⟨k + 1, by go_num, by omega, HF, HZ⟩
      | false =>
        have HF := Lib.hid (show T = false from by rw [HK1.out, if_neg (by rw [HB.out]; simp)]; simp)
        clear HK1 HB
        go_wp2
        have hA := htr
        have hBb := hbr
        have HW := hbel
        have hS0 : wr.cell? ⟨tb, tof + k, none⟩ = some (.slice p1 pn1 pc1) ∧ wr.cell? ⟨tb, tof + (k + 1), none⟩ = some (.slice p2 pn2 pc2) ∧ wr.cell? ⟨b, o + k * 2, none⟩ = some (.slice q1 qn1 qc1) ∧ wr.cell? ⟨b, o + k * 2 + 1, none⟩ = some (.slice q2 qn2 qc2) := ⟨g2, g3, g0, g1⟩
        have hSd : wr.drew.cell? ⟨tb, tof + k, none⟩ = some (.slice p1 pn1 pc1) ∧ wr.drew.cell? ⟨tb, tof + (k + 1), none⟩ = some (.slice p2 pn2 pc2) ∧ wr.drew.cell? ⟨b, o + k * 2, none⟩ = some (.slice q1 qn1 qc1) ∧ wr.drew.cell? ⟨b, o + k * 2 + 1, none⟩ = some (.slice q2 qn2 qc2) := hS0
        have HS := Lib.hid (fun (wz : World) (hb3 : Below wr.heap.size wr wz) => (show wz.cell? ⟨tb, tof + k, none⟩ = some (.slice p1 pn1 pc1) ∧ wz.cell? ⟨tb, tof + (k + 1), none⟩ = some (.slice p2 pn2 pc2) ∧ wz.cell? ⟨b, o + k * 2, none⟩ = some (.slice q1 qn1 qc1) ∧ wz.cell? ⟨b, o + k * 2 + 1, none⟩ = some (.slice q2 qn2 qc2) from ⟨(hb3.cell (p := ⟨tb, tof + k, none⟩) hA).trans hS0.1, (hb3.cell (p := ⟨tb, tof + (k + 1), none⟩) hA).trans hS0.2.1, (hb3.cell (p := ⟨b, o + k * 2, none⟩) hBb).trans hS0.2.2.1, (hb3.cell (p := ⟨b, o + k * 2 + 1, none⟩) hBb).trans hS0.2.2.2⟩))
        have B1 := (Below.refl wr.heap.size wr).drew
        have HC1 := Lib.hid (HC.out _ HW.out.drew)
        clear HC g0 g1 g2 g3
        go_region_held3 (fun w' => w'.cell? ⟨tb, tof + k, none⟩ = some (.slice p1 pn1 pc1) ∧ w'.cell? ⟨tb, tof + (k + 1), none⟩ = some (.slice p2 pn2 pc2) ∧ w'.cell? ⟨b, o + k * 2, none⟩ = some (.slice q1 qn1 qc1) ∧ w'.cell? ⟨b, o + k * 2 + 1, none⟩ = some (.slice q2 qn2 qc2))
          (first | with_reducible exact hS1 | with_reducible exact hSd | with_reducible exact hS0 | go_keep)
          ((first
            | (go_at_call 148; (with_reducible refine HC1.out.mono ?_); rintro e w2 ⟨rfl, hb⟩; have B2 := B1.trans (hb.mono B1.size); have hS1 := HS.out _ B2; clear hb)
            | fail))
        have HZ := Lib.hid (HW.out.trans (B2.mono HW.out.size))
        clear B1 B2
        go_wp2
        go_ret
        exact ⟨by rw [HF.out]; rfl, HZ.out⟩
    · have e : g = 0 := by omega
      subst e
      have HF := Lib.hid (show T = im from by rw [HK.out]; exact Bool.and_true im)
      have hu1 : wr.cell? ⟨tb, tof, none⟩ = some (.slice z0 zn zc) := (hbel.out.cell (p := ⟨tb, tof, none⟩) htb).trans hu0
      clear HK hg hcell
      go_wp2_with fail
      refine (H1.out _ hbel.out).mono ?_
      rintro e w' ⟨rfl, rfl⟩
      go_wp2
      go_ret
      exact ⟨by rw [HF.out]; rfl, hbel.out⟩
end Go.Proofs.Ytjgiobapdkdhpaa
