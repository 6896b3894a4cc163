/-
  Texts of this claim joined: laws for its walks, contracts of the functions that the law reaches.
-/
import Derived.Test.YtlkgkfgpnnahdaaRows
import Derived.Test.YtlkgkfgpnnahdaaFnLagsM1
import Derived.Test.YtlkgkfgpnnahdaaFnLagsM3
import Derived.Test.YtlkgkfgpnnahdaaFnLagsM5
import Derived.Test.YtlkgkfgpnnahdaaFnLagsM2
import Derived.Test.YtlkgkfgpnnahdaaFnLagsM12
import Derived.Test.YtlkgkfgpnnahdaaFnLagsM14
import Derived.IntWalk
import Derived.Deep.RegionHeld3
import Derived.Deep.DeepCutAuto
import Derived.Test.YtlkgkfgpnnahdaaFnLagsM11
import Derived.Test.YtlkgkfgpnnahdaaFnLagsM18
import Derived.Test.YtlkgkfgpnnahdaaFnLagsM13
section
/-
  IsChain, both sides.
-/
namespace Go.Proofs.Ytlkgkfgpnnahdaa
open Go.RowKit Go.Deep Go.Sd

def chB (ts : List Tb) (xs : List (Tb × Tb)) (k : Nat) : Bool := stepM (ts.getD k []) (ts.getD (k + 1) []) (xs.getD k ([], []))
def chLen (ts : List Tb) (xs : List (Tb × Tb)) : Bool := decide (1 ≤ ts.length ∧ ts.length ≤ 10 ∧ xs.length + 1 = ts.length)
def chainM (ts : List Tb) (xs : List (Tb × Tb)) : Bool := chLen ts xs && (isMat (ts.getD 0 []) && allF (chB ts xs) xs.length 0)
set_option maxHeartbeats 4000000 in
set_option maxRecDepth 10000 in
theorem impl_IsChain_c {w : World} {v1 v2 : Value} {ts : List Tb} {xs : List (Tb × Tb)} (h1 : Tabs w v1 ts) (h2 : StpsR w v2 xs) :
    Calls Try.prog 116 #[v1, v2] w fun e w' => e = .returned (.bool (chainM ts xs)) ∧ Below w.heap.size w w' := by
  have hlt := h1.len
  obtain ⟨ta, tc, rfl, _, _, htc⟩ := h1.shape
  obtain ⟨hlx, a, c, rfl, _, _, _, hcell⟩ := h2
  have H0 := Lib.hid (show chainM ts xs = (chLen ts xs && (isMat (ts.getD 0 []) && allF (chB ts xs) xs.length 0)) from rfl)
  generalize chainM ts xs = T at H0 ⊢
  have Hl := Lib.hid (show chLen ts xs = decide (1 ≤ ts.length ∧ ts.length ≤ 10 ∧ xs.length + 1 = ts.length) from rfl)
  clear h1
  obtain ⟨n, hn⟩ : ∃ n, n = xs.length := ⟨_, rfl⟩
  obtain ⟨m, hm⟩ : ∃ m, m = ts.length := ⟨_, rfl⟩
  rw [← hn] at H0 Hl hcell hlx
  rw [← hm] at Hl htc hlt
  rw [← hm, ← hn]
  have Hn := Lib.hid hn
  have Hm := Lib.hid hm
  clear hn hm
  by_cases c1 : m < 1
  · have : m < 1 := c1
    have HF := Lib.hid (show T = false from by rw [H0.out, Hl.out, decide_eq_false (by omega)]; rfl)
    clear H0 Hl hcell htc
    go_enter Try.func116, Try.ntmps116
    go_wp2
    go_ret
    exact ⟨by rw [HF.out]; rfl, Below.refl _ _⟩
  by_cases c2 : 10 < m
  · have : 10 < m := c2
    have HF := Lib.hid (show T = false from by rw [H0.out, Hl.out, decide_eq_false (by omega)]; rfl)
    clear H0 Hl hcell htc
    go_enter Try.func116, Try.ntmps116
    go_wp2
    go_ret
    exact ⟨by rw [HF.out]; rfl, Below.refl _ _⟩
  by_cases c3 : n + 1 = m
  rotate_left
  · have t3 : ((n : Int) != (m : Int) - 1) = true := by simp; omega
    have HF := Lib.hid (show T = false from by rw [H0.out, Hl.out, decide_eq_false (by omega)]; rfl)
    clear H0 Hl hcell htc
    go_enter Try.func116, Try.ntmps116
    go_wp2
    go_ret
    exact ⟨by rw [HF.out]; rfl, Below.refl _ _⟩
  have HT := Lib.hid (show T = (isMat (ts.getD 0 []) && allF (chB ts xs) n 0) from by rw [H0.out, Hl.out, decide_eq_true (by omega)]; rfl)
  clear H0 Hl
  have t3 : ((n : Int) != (m : Int) - 1) = false := by simp; omega
  obtain ⟨tb, tof, rfl, htb, htx⟩ := htc (by omega)
  have Ht := Lib.hid (fun i (hi : i < m) => (show ∃ u, w.cell? ⟨tb, tof + i, none⟩ = some u ∧ Tab w u (ts.getD i []) from by
    obtain ⟨x, hx, _⟩ := at_lt (xs := ts) (k := i) (by have := Hm.out; omega)
    obtain ⟨u, hu, hr⟩ := htx i x hx
    exact ⟨u, hu, by simpa [List.getD, hx] using hr⟩))
  clear htx htc
  obtain ⟨u0, hu0, hr0⟩ := Ht.out 0 (by omega)
  rw [Nat.add_zero] at hu0
  have H1 := Lib.hid (fun w1 (hb : Below w.heap.size w w1) => impl_IsMatrix_c (Tab.frame _ _ _ _ hr0 hb))
  generalize isMat (ts.getD 0 []) = im at HT H1
  obtain ⟨z0, zc, rfl, _, _, _⟩ := hr0.shape
  generalize (ts.getD 0 []).length = zn at *
  clear hr0
  have hm10 : m ≤ 10 := by omega
  have hm1 : 1 ≤ m := by omega
  cases im with
  | false =>
    have HF := Lib.hid (show T = false from by rw [HT.out]; rfl)
    clear HT hcell
    go_enter Try.func116, Try.ntmps116
    go_wp2_with fail
    refine (H1.out _ (Below.refl _ _)).mono ?_
    rintro e w' ⟨rfl, rfl⟩
    go_wp2
    go_ret
    exact ⟨by rw [HF.out]; rfl, Below.refl _ _⟩
  | true =>
  have HE := Lib.hid (show T = allF (chB ts xs) n 0 from by rw [HT.out]; rfl)
  clear HT
  go_enter Try.func116, Try.ntmps116
  go_wp2_with fail
  refine (H1.out _ (Below.refl _ _)).mono ?_
  rintro e w' ⟨rfl, rfl⟩
  go_wp2
  go_loopg [32] n (fun g i wr => ∃ (k : Nat), i = .int .i64 k ∧ k + g = n ∧ Hid (T = allF (chB ts xs) g k) ∧ Hid (Below w.heap.size w wr))
  case atStart => exact ⟨0, rfl, by omega, HE, Lib.hid (Below.refl _ _)⟩
  case round =>
    obtain ⟨k, rfl, hk, HK, hbel⟩ := hrel
    obtain ⟨g, hg⟩ : ∃ g, g = gk := ⟨_, rfl⟩
    rw [← hg] at HK hk
    by_cases hlt : k < n
    · obtain ⟨g', rfl⟩ : ∃ t, g = t + 1 := ⟨g - 1, by omega⟩
      have HK1 := Lib.hid (show T = if chB ts xs k = true then allF (chB ts xs) g' (k + 1) else false from HK.out)
      obtain ⟨b, o, rfl, hb, hx0⟩ := hcell (by omega)
      obtain ⟨x, hx, _⟩ := at_lt (xs := xs) (k := k) (by have := Hn.out; omega)
      obtain ⟨y1, y2, f0, f1, s1, s2⟩ := hx0 k x hx
      obtain ⟨u1, e1, r1⟩ := Ht.out k (by omega)
      obtain ⟨u2, e2, r2⟩ := Ht.out (k + 1) (by omega)
      have hbw := hbel.out
      have g0 : wr.cell? ⟨b, o + k * 2, none⟩ = some y1 := (hbw.cell (p := ⟨b, o + k * 2, none⟩) hb).trans f0
      have g1 : wr.cell? ⟨b, o + k * 2 + 1, none⟩ = some y2 := (hbw.cell (p := ⟨b, o + k * 2 + 1, none⟩) hb).trans f1
      have g2 : wr.cell? ⟨tb, tof + k, none⟩ = some u1 := (hbw.cell (p := ⟨tb, tof + k, none⟩) htb).trans e1
      have g3 : wr.cell? ⟨tb, tof + (k + 1), none⟩ = some u2 := (hbw.cell (p := ⟨tb, tof + (k + 1), none⟩) htb).trans e2
      have HB := Lib.hid (show chB ts xs k = stepM (ts.getD k []) (ts.getD (k + 1) []) x from by unfold chB; rw [show xs.getD k ([], []) = x from by simp [List.getD, hx]])
      have HC := Lib.hid (fun wz (hz : Below w.heap.size w wz) => impl_IsStep_c (w := wz) (va := u1) (vb := u2) (vx := .agg #[y1, y2]) (x := x) (Tab.frame _ _ _ _ r1 hz) (Tab.frame _ _ _ _ r2 hz) ⟨y1, y2, rfl, Tab.frame _ _ _ _ s1 hz, Tab.frame _ _ _ _ s2 hz⟩)
      generalize stepM (ts.getD k []) (ts.getD (k + 1) []) x = sb at HB HC
      obtain ⟨p1, pn1, pc1, rfl⟩ : ∃ a n c, u1 = .slice a n c := by obtain ⟨a, c, e, _⟩ := r1.shape; exact ⟨_, _, _, e⟩
      obtain ⟨p2, pn2, pc2, rfl⟩ : ∃ a n c, u2 = .slice a n c := by obtain ⟨a, c, e, _⟩ := r2.shape; exact ⟨_, _, _, e⟩
      obtain ⟨q1, qn1, qc1, rfl⟩ : ∃ a n c, y1 = .slice a n c := by obtain ⟨a, c, e, _⟩ := s1.shape; exact ⟨_, _, _, e⟩
      obtain ⟨q2, qn2, qc2, rfl⟩ : ∃ a n c, y2 = .slice a n c := by obtain ⟨a, c, e, _⟩ := s2.shape; exact ⟨_, _, _, e⟩
      have hz := hbw.size
      have hbr : b < wr.heap.size := by omega
      have htr : tb < wr.heap.size := by omega
      have hkn : (k : Int) < (n : Int) := by omega
      have hkm : (k : Int) < (m : Int) := by omega
      have hkm1 : (k : Int) + 1 < (m : Int) := by omega
      have hw1 : IntKind.i64.wrap ((k : Int) + 1) = (k : Int) + 1 := IntWalk.i64_in _ (by omega)
      have hk0 : (0 : Int) ≤ (k : Int) + 1 := by omega
      have hkt : ((k : Int) + 1).toNat = k + 1 := by omega
      clear f0 f1 e1 e2 r1 r2 s1 s2 hx0 hcell hx HK hbw
      cases sb with
      | true =>
        have HF := Lib.hid (show T = allF (chB ts xs) g' (k + 1) from by rw [HK1.out, if_pos HB.out])
        clear HK1 HB
        go_wp2
        obtain ⟨wn, ex, hbn, d0, d1, mn⟩ := boxA_ex wr 41 (.slice q1 qn1 qc1) (.slice q2 qn2 qc2)
        rw [ex]
        clear ex g0 g1
        have hA : tb < wn.heap.size := Nat.lt_of_lt_of_le htr hbn.size
        have HW := Lib.hid (hbel.out.trans (hbn.mono hbel.out.size))
        have hS0 : wn.cell? ⟨tb, tof + k, none⟩ = some (.slice p1 pn1 pc1) ∧ wn.cell? ⟨tb, tof + (k + 1), none⟩ = some (.slice p2 pn2 pc2) ∧ wn.cell? ⟨wr.heap.size, 0, none⟩ = some (.slice q1 qn1 qc1) ∧ wn.cell? ⟨wr.heap.size, 1, none⟩ = some (.slice q2 qn2 qc2) := ⟨(hbn.cell (p := ⟨tb, tof + k, none⟩) htr).trans g2, (hbn.cell (p := ⟨tb, tof + (k + 1), none⟩) htr).trans g3, d0, d1⟩
        have hSd : wn.drew.cell? ⟨tb, tof + k, none⟩ = some (.slice p1 pn1 pc1) ∧ wn.drew.cell? ⟨tb, tof + (k + 1), none⟩ = some (.slice p2 pn2 pc2) ∧ wn.drew.cell? ⟨wr.heap.size, 0, none⟩ = some (.slice q1 qn1 qc1) ∧ wn.drew.cell? ⟨wr.heap.size, 1, none⟩ = some (.slice q2 qn2 qc2) := hS0
        have HS := Lib.hid (fun (wz : World) (hb3 : Below wn.heap.size wn wz) => (show wz.cell? ⟨tb, tof + k, none⟩ = some (.slice p1 pn1 pc1) ∧ wz.cell? ⟨tb, tof + (k + 1), none⟩ = some (.slice p2 pn2 pc2) ∧ wz.cell? ⟨wr.heap.size, 0, none⟩ = some (.slice q1 qn1 qc1) ∧ wz.cell? ⟨wr.heap.size, 1, none⟩ = some (.slice q2 qn2 qc2) from ⟨(hb3.cell (p := ⟨tb, tof + k, none⟩) hA).trans hS0.1, (hb3.cell (p := ⟨tb, tof + (k + 1), none⟩) hA).trans hS0.2.1, (hb3.cell (p := ⟨wr.heap.size, 0, none⟩) mn).trans hS0.2.2.1, (hb3.cell (p := ⟨wr.heap.size, 1, none⟩) mn).trans hS0.2.2.2⟩))
        have B1 := (Below.refl wn.heap.size wn).drew
        have HC1 := Lib.hid (HC.out _ HW.out.drew)
        clear HC hbn d0 d1 g2 g3
        go_region_held3 (fun w' => w'.cell? ⟨tb, tof + k, none⟩ = some (.slice p1 pn1 pc1) ∧ w'.cell? ⟨tb, tof + (k + 1), none⟩ = some (.slice p2 pn2 pc2) ∧ w'.cell? ⟨wr.heap.size, 0, none⟩ = some (.slice q1 qn1 qc1) ∧ w'.cell? ⟨wr.heap.size, 1, none⟩ = some (.slice q2 qn2 qc2))
          (first | with_reducible exact hS1 | with_reducible exact hSd | with_reducible exact hS0 | go_keep)
          ((first
            | (go_at_call 173; (with_reducible refine HC1.out.mono ?_); rintro e w2 ⟨rfl, hb⟩; have B2 := B1.trans (hb.mono B1.size); have hS1 := HS.out _ B2; clear hb)
            | fail))
        have HZ := Lib.hid (HW.out.trans (B2.mono HW.out.size))
        clear B1 B2
        go_wp2
        go_roundg g'
        case measure => omega
        case rel => exact ⟨k + 1, by go_num, by omega, HF, HZ⟩
      | false =>
        have HF := Lib.hid (show T = false from by rw [HK1.out, if_neg (by rw [HB.out]; simp)])
        clear HK1 HB
        go_wp2
        obtain ⟨wn, ex, hbn, d0, d1, mn⟩ := boxA_ex wr 41 (.slice q1 qn1 qc1) (.slice q2 qn2 qc2)
        rw [ex]
        clear ex g0 g1
        have hA : tb < wn.heap.size := Nat.lt_of_lt_of_le htr hbn.size
        have HW := Lib.hid (hbel.out.trans (hbn.mono hbel.out.size))
        have hS0 : wn.cell? ⟨tb, tof + k, none⟩ = some (.slice p1 pn1 pc1) ∧ wn.cell? ⟨tb, tof + (k + 1), none⟩ = some (.slice p2 pn2 pc2) ∧ wn.cell? ⟨wr.heap.size, 0, none⟩ = some (.slice q1 qn1 qc1) ∧ wn.cell? ⟨wr.heap.size, 1, none⟩ = some (.slice q2 qn2 qc2) := ⟨(hbn.cell (p := ⟨tb, tof + k, none⟩) htr).trans g2, (hbn.cell (p := ⟨tb, tof + (k + 1), none⟩) htr).trans g3, d0, d1⟩
        have hSd : wn.drew.cell? ⟨tb, tof + k, none⟩ = some (.slice p1 pn1 pc1) ∧ wn.drew.cell? ⟨tb, tof + (k + 1), none⟩ = some (.slice p2 pn2 pc2) ∧ wn.drew.cell? ⟨wr.heap.size, 0, none⟩ = some (.slice q1 qn1 qc1) ∧ wn.drew.cell? ⟨wr.heap.size, 1, none⟩ = some (.slice q2 qn2 qc2) := hS0
        have HS := Lib.hid (fun (wz : World) (hb3 : Below wn.heap.size wn wz) => (show wz.cell? ⟨tb, tof + k, none⟩ = some (.slice p1 pn1 pc1) ∧ wz.cell? ⟨tb, tof + (k + 1), none⟩ = some (.slice p2 pn2 pc2) ∧ wz.cell? ⟨wr.heap.size, 0, none⟩ = some (.slice q1 qn1 qc1) ∧ wz.cell? ⟨wr.heap.size, 1, none⟩ = some (.slice q2 qn2 qc2) from ⟨(hb3.cell (p := ⟨tb, tof + k, none⟩) hA).trans hS0.1, (hb3.cell (p := ⟨tb, tof + (k + 1), none⟩) hA).trans hS0.2.1, (hb3.cell (p := ⟨wr.heap.size, 0, none⟩) mn).trans hS0.2.2.1, (hb3.cell (p := ⟨wr.heap.size, 1, none⟩) mn).trans hS0.2.2.2⟩))
        have B1 := (Below.refl wn.heap.size wn).drew
        have HC1 := Lib.hid (HC.out _ HW.out.drew)
        clear HC hbn d0 d1 g2 g3
        go_region_held3 (fun w' => w'.cell? ⟨tb, tof + k, none⟩ = some (.slice p1 pn1 pc1) ∧ w'.cell? ⟨tb, tof + (k + 1), none⟩ = some (.slice p2 pn2 pc2) ∧ w'.cell? ⟨wr.heap.size, 0, none⟩ = some (.slice q1 qn1 qc1) ∧ w'.cell? ⟨wr.heap.size, 1, none⟩ = some (.slice q2 qn2 qc2))
          (first | with_reducible exact hS1 | with_reducible exact hSd | with_reducible exact hS0 | go_keep)
          ((first
            | (go_at_call 173; (with_reducible refine HC1.out.mono ?_); rintro e w2 ⟨rfl, hb⟩; have B2 := B1.trans (hb.mono B1.size); have hS1 := HS.out _ B2; clear hb)
            | fail))
        have HZ := Lib.hid (HW.out.trans (B2.mono HW.out.size))
        clear B1 B2
        go_wp2
        go_ret
        exact ⟨by rw [HF.out]; rfl, HZ.out⟩
    · have e : g = 0 := by omega
      subst e
      have HF := Lib.hid (show T = true from HK.out)
      clear HK hg hcell
      go_wp2
      go_ret
      exact ⟨by rw [HF.out]; rfl, hbel.out⟩
set_option maxHeartbeats 4000000 in
set_option maxRecDepth 10000 in
theorem spec_IsChain_c {w : World} {v1 v2 : Value} {ts : List Tb} {xs : List (Tb × Tb)} (h1 : Tabs w v1 ts) (h2 : StpsR w v2 xs) :
    Calls Try.prog 118 #[v1, v2] w fun e w' => e = .returned (.bool (chainM ts xs)) ∧ Below w.heap.size w w' := by
  have hlt := h1.len
  obtain ⟨ta, tc, rfl, _, _, htc⟩ := h1.shape
  obtain ⟨hlx, a, c, rfl, _, _, _, hcell⟩ := h2
  have H0 := Lib.hid (show chainM ts xs = (chLen ts xs && (isMat (ts.getD 0 []) && allF (chB ts xs) xs.length 0)) from rfl)
  generalize chainM ts xs = T at H0 ⊢
  have Hl := Lib.hid (show chLen ts xs = decide (1 ≤ ts.length ∧ ts.length ≤ 10 ∧ xs.length + 1 = ts.length) from rfl)
  clear h1
  obtain ⟨n, hn⟩ : ∃ n, n = xs.length := ⟨_, rfl⟩
  obtain ⟨m, hm⟩ : ∃ m, m = ts.length := ⟨_, rfl⟩
  rw [← hn] at H0 Hl hcell hlx
  rw [← hm] at Hl htc hlt
  rw [← hm, ← hn]
  have Hn := Lib.hid hn
  have Hm := Lib.hid hm
  clear hn hm
  by_cases c1 : m < 1
  · have : m < 1 := c1
    have HF := Lib.hid (show T = false from by rw [H0.out, Hl.out, decide_eq_false (by omega)]; rfl)
    clear H0 Hl hcell htc
    have Hin := Lib.hid (fun w1 => l1In_c (m : Int) 1 10 w1)
    have hin : (decide ((1 : Int) ≤ (m : Int)) && decide ((m : Int) ≤ 10)) = false := by by_cases h : (1 : Int) ≤ (m : Int) <;> simp [h] <;> omega
    rw [hin] at Hin
    clear hin
    go_enter Try.func118, Try.ntmps118
    go_wp2_with fail
    refine (Hin.out _).mono ?_
    rintro e w' ⟨rfl, rfl⟩
    go_wp2
    go_ret
    exact ⟨by rw [HF.out]; rfl, Below.refl _ _⟩
  by_cases c2 : 10 < m
  · have : 10 < m := c2
    have HF := Lib.hid (show T = false from by rw [H0.out, Hl.out, decide_eq_false (by omega)]; rfl)
    clear H0 Hl hcell htc
    have Hin := Lib.hid (fun w1 => l1In_c (m : Int) 1 10 w1)
    have hin : (decide ((1 : Int) ≤ (m : Int)) && decide ((m : Int) ≤ 10)) = false := by by_cases h : (1 : Int) ≤ (m : Int) <;> simp [h] <;> omega
    rw [hin] at Hin
    clear hin
    go_enter Try.func118, Try.ntmps118
    go_wp2_with fail
    refine (Hin.out _).mono ?_
    rintro e w' ⟨rfl, rfl⟩
    go_wp2
    go_ret
    exact ⟨by rw [HF.out]; rfl, Below.refl _ _⟩
  by_cases c3 : n + 1 = m
  rotate_left
  · have t3 : ((n : Int) != (m : Int) - 1) = true := by simp; omega
    have HF := Lib.hid (show T = false from by rw [H0.out, Hl.out, decide_eq_false (by omega)]; rfl)
    clear H0 Hl hcell htc
    have Hin := Lib.hid (fun w1 => l1In_c (m : Int) 1 10 w1)
    have hin : (decide ((1 : Int) ≤ (m : Int)) && decide ((m : Int) ≤ 10)) = true := by rw [decide_eq_true (by omega), decide_eq_true (by omega)]; rfl
    rw [hin] at Hin
    clear hin
    go_enter Try.func118, Try.ntmps118
    go_wp2_with fail
    refine (Hin.out _).mono ?_
    rintro e w' ⟨rfl, rfl⟩
    go_wp2
    go_ret
    exact ⟨by rw [HF.out]; rfl, Below.refl _ _⟩
  have HT := Lib.hid (show T = (isMat (ts.getD 0 []) && allF (chB ts xs) n 0) from by rw [H0.out, Hl.out, decide_eq_true (by omega)]; rfl)
  clear H0 Hl
  have t3 : ((n : Int) != (m : Int) - 1) = false := by simp; omega
  obtain ⟨tb, tof, rfl, htb, htx⟩ := htc (by omega)
  have Ht := Lib.hid (fun i (hi : i < m) => (show ∃ u, w.cell? ⟨tb, tof + i, none⟩ = some u ∧ Tab w u (ts.getD i []) from by
    obtain ⟨x, hx, _⟩ := at_lt (xs := ts) (k := i) (by have := Hm.out; omega)
    obtain ⟨u, hu, hr⟩ := htx i x hx
    exact ⟨u, hu, by simpa [List.getD, hx] using hr⟩))
  clear htx htc
  obtain ⟨u0, hu0, hr0⟩ := Ht.out 0 (by omega)
  rw [Nat.add_zero] at hu0
  have H1 := Lib.hid (fun w1 (hb : Below w.heap.size w w1) => spec_IsMatrix_c (Tab.frame _ _ _ _ hr0 hb))
  generalize isMat (ts.getD 0 []) = im at HT H1
  obtain ⟨z0, zc, rfl, _, _, _⟩ := hr0.shape
  generalize (ts.getD 0 []).length = zn at *
  clear hr0
  have hm10 : m ≤ 10 := by omega
  have hm1 : 1 ≤ m := by omega
  have Hin := Lib.hid (fun w1 => l1In_c (m : Int) 1 10 w1)
  have hin : (decide ((1 : Int) ≤ (m : Int)) && decide ((m : Int) ≤ 10)) = true := by rw [decide_eq_true (by omega), decide_eq_true (by omega)]; rfl
  rw [hin] at Hin
  clear hin
  go_enter Try.func118, Try.ntmps118
  go_wp2_with fail
  refine (Hin.out _).mono ?_
  rintro e w' ⟨rfl, rfl⟩
  go_wp2
  go_loopg [5] n (fun g i wr => ∃ (k : Nat), i = .int .i64 k ∧ k + g = n ∧ Hid (T = (im && allF (chB ts xs) g k)) ∧ Hid (Below w.heap.size w wr))
  case atStart => exact ⟨0, rfl, by omega, HT, Lib.hid (Below.refl _ _)⟩
  case round =>
    obtain ⟨k, rfl, hk, HK, hbel⟩ := hrel
    obtain ⟨g, hg⟩ : ∃ g, g = gk := ⟨_, rfl⟩
    rw [← hg] at HK hk
    by_cases hlt : k < n
    · obtain ⟨g', rfl⟩ : ∃ t, g = t + 1 := ⟨g - 1, by omega⟩
      have HK1 := Lib.hid (show T = (im && if chB ts xs k = true then allF (chB ts xs) g' (k + 1) else false) from HK.out)
      obtain ⟨b, o, rfl, hb, hx0⟩ := hcell (by omega)
      obtain ⟨x, hx, _⟩ := at_lt (xs := xs) (k := k) (by have := Hn.out; omega)
      obtain ⟨y1, y2, f0, f1, s1, s2⟩ := hx0 k x hx
      obtain ⟨u1, e1, r1⟩ := Ht.out k (by omega)
      obtain ⟨u2, e2, r2⟩ := Ht.out (k + 1) (by omega)
      have hbw := hbel.out
      have g0 : wr.cell? ⟨b, o + k * 2, none⟩ = some y1 := (hbw.cell (p := ⟨b, o + k * 2, none⟩) hb).trans f0
      have g1 : wr.cell? ⟨b, o + k * 2 + 1, none⟩ = some y2 := (hbw.cell (p := ⟨b, o + k * 2 + 1, none⟩) hb).trans f1
      have g2 : wr.cell? ⟨tb, tof + k, none⟩ = some u1 := (hbw.cell (p := ⟨tb, tof + k, none⟩) htb).trans e1
      have g3 : wr.cell? ⟨tb, tof + (k + 1), none⟩ = some u2 := (hbw.cell (p := ⟨tb, tof + (k + 1), none⟩) htb).trans e2
      have HB := Lib.hid (show chB ts xs k = stepM (ts.getD k []) (ts.getD (k + 1) []) x from by unfold chB; rw [show xs.getD k ([], []) = x from by simp [List.getD, hx]])
      have HC := Lib.hid (fun wz (hz : Below w.heap.size w wz) => spec_IsStep_c (w := wz) (va := u1) (vb := u2) (vx := .agg #[y1, y2]) (x := x) (Tab.frame _ _ _ _ r1 hz) (Tab.frame _ _ _ _ r2 hz) ⟨y1, y2, rfl, Tab.frame _ _ _ _ s1 hz, Tab.frame _ _ _ _ s2 hz⟩)
      generalize stepM (ts.getD k []) (ts.getD (k + 1) []) x = sb at HB HC
      obtain ⟨p1, pn1, pc1, rfl⟩ : ∃ a n c, u1 = .slice a n c := by obtain ⟨a, c, e, _⟩ := r1.shape; exact ⟨_, _, _, e⟩
      obtain ⟨p2, pn2, pc2, rfl⟩ : ∃ a n c, u2 = .slice a n c := by obtain ⟨a, c, e, _⟩ := r2.shape; exact ⟨_, _, _, e⟩
      obtain ⟨q1, qn1, qc1, rfl⟩ : ∃ a n c, y1 = .slice a n c := by obtain ⟨a, c, e, _⟩ := s1.shape; exact ⟨_, _, _, e⟩
      obtain ⟨q2, qn2, qc2, rfl⟩ : ∃ a n c, y2 = .slice a n c := by obtain ⟨a, c, e, _⟩ := s2.shape; exact ⟨_, _, _, e⟩
      have hz := hbw.size
      have hbr : b < wr.heap.size := by omega
      have htr : tb < wr.heap.size := by omega
      have hkn : (k : Int) < (n : Int) := by omega
      have hkm : (k : Int) < (m : Int) := by omega
      have hkm1 : (k : Int) + 1 < (m : Int) := by omega
      have hw1 : IntKind.i64.wrap ((k : Int) + 1) = (k : Int) + 1 := IntWalk.i64_in _ (by omega)
      have hk0 : (0 : Int) ≤ (k : Int) + 1 := by omega
      have hkt : ((k : Int) + 1).toNat = k + 1 := by omega
      clear f0 f1 e1 e2 r1 r2 s1 s2 hx0 hcell hx HK hbw
      cases sb with
      | true =>
        have HF := Lib.hid (show T = (im && allF (chB ts xs) g' (k + 1)) from by rw [HK1.out, if_pos HB.out])
        clear HK1 HB
        go_wp2
        have hA := htr
        have hBb := hbr
        have HW := hbel
        have hS0 : wr.cell? ⟨tb, tof + k, none⟩ = some (.slice p1 pn1 pc1) ∧ wr.cell? ⟨tb, tof + (k + 1), none⟩ = some (.slice p2 pn2 pc2) ∧ wr.cell? ⟨b, o + k * 2, none⟩ = some (.slice q1 qn1 qc1) ∧ wr.cell? ⟨b, o + k * 2 + 1, none⟩ = some (.slice q2 qn2 qc2) := ⟨g2, g3, g0, g1⟩
        have hSd : wr.drew.cell? ⟨tb, tof + k, none⟩ = some (.slice p1 pn1 pc1) ∧ wr.drew.cell? ⟨tb, tof + (k + 1), none⟩ = some (.slice p2 pn2 pc2) ∧ wr.drew.cell? ⟨b, o + k * 2, none⟩ = some (.slice q1 qn1 qc1) ∧ wr.drew.cell? ⟨b, o + k * 2 + 1, none⟩ = some (.slice q2 qn2 qc2) := hS0
        have HS := Lib.hid (fun (wz : World) (hb3 : Below wr.heap.size wr wz) => (show wz.cell? ⟨tb, tof + k, none⟩ = some (.slice p1 pn1 pc1) ∧ wz.cell? ⟨tb, tof + (k + 1), none⟩ = some (.slice p2 pn2 pc2) ∧ wz.cell? ⟨b, o + k * 2, none⟩ = some (.slice q1 qn1 qc1) ∧ wz.cell? ⟨b, o + k * 2 + 1, none⟩ = some (.slice q2 qn2 qc2) from ⟨(hb3.cell (p := ⟨tb, tof + k, none⟩) hA).trans hS0.1, (hb3.cell (p := ⟨tb, tof + (k + 1), none⟩) hA).trans hS0.2.1, (hb3.cell (p := ⟨b, o + k * 2, none⟩) hBb).trans hS0.2.2.1, (hb3.cell (p := ⟨b, o + k * 2 + 1, none⟩) hBb).trans hS0.2.2.2⟩))
        have B1 := (Below.refl wr.heap.size wr).drew
        have HC1 := Lib.hid (HC.out _ HW.out.drew)
        clear HC g0 g1 g2 g3
        go_region_held3 (fun w' => w'.cell? ⟨tb, tof + k, none⟩ = some (.slice p1 pn1 pc1) ∧ w'.cell? ⟨tb, tof + (k + 1), none⟩ = some (.slice p2 pn2 pc2) ∧ w'.cell? ⟨b, o + k * 2, none⟩ = some (.slice q1 qn1 qc1) ∧ w'.cell? ⟨b, o + k * 2 + 1, none⟩ = some (.slice q2 qn2 qc2))
          (first | with_reducible exact hS1 | with_reducible exact hSd | with_reducible exact hS0 | go_keep)
          ((first
            | (go_at_call 176; (with_reducible refine HC1.out.mono ?_); rintro e w2 ⟨rfl, hb⟩; have B2 := B1.trans (hb.mono B1.size); have hS1 := HS.out _ B2; clear hb)
            | fail))
        have HZ := Lib.hid (HW.out.trans (B2.mono HW.out.size))
        clear B1 B2
        go_wp2
        go_roundg g'
        case measure => omega
        case rel => exact ⟨k + 1, by go_num, by omega, HF, HZ⟩
      | false =>
        have HF := Lib.hid (show T = false from by rw [HK1.out, if_neg (by rw [HB.out]; simp)]; simp)
        clear HK1 HB
        go_wp2
        have hA := htr
        have hBb := hbr
        have HW := hbel
        have hS0 : wr.cell? ⟨tb, tof + k, none⟩ = some (.slice p1 pn1 pc1) ∧ wr.cell? ⟨tb, tof + (k + 1), none⟩ = some (.slice p2 pn2 pc2) ∧ wr.cell? ⟨b, o + k * 2, none⟩ = some (.slice q1 qn1 qc1) ∧ wr.cell? ⟨b, o + k * 2 + 1, none⟩ = some (.slice q2 qn2 qc2) := ⟨g2, g3, g0, g1⟩
        have hSd : wr.drew.cell? ⟨tb, tof + k, none⟩ = some (.slice p1 pn1 pc1) ∧ wr.drew.cell? ⟨tb, tof + (k + 1), none⟩ = some (.slice p2 pn2 pc2) ∧ wr.drew.cell? ⟨b, o + k * 2, none⟩ = some (.slice q1 qn1 qc1) ∧ wr.drew.cell? ⟨b, o + k * 2 + 1, none⟩ = some (.slice q2 qn2 qc2) := hS0
        have HS := Lib.hid (fun (wz : World) (hb3 : Below wr.heap.size wr wz) => (show wz.cell? ⟨tb, tof + k, none⟩ = some (.slice p1 pn1 pc1) ∧ wz.cell? ⟨tb, tof + (k + 1), none⟩ = some (.slice p2 pn2 pc2) ∧ wz.cell? ⟨b, o + k * 2, none⟩ = some (.slice q1 qn1 qc1) ∧ wz.cell? ⟨b, o + k * 2 + 1, none⟩ = some (.slice q2 qn2 qc2) from ⟨(hb3.cell (p := ⟨tb, tof + k, none⟩) hA).trans hS0.1, (hb3.cell (p := ⟨tb, tof + (k + 1), none⟩) hA).trans hS0.2.1, (hb3.cell (p := ⟨b, o + k * 2, none⟩) hBb).trans hS0.2.2.1, (hb3.cell (p := ⟨b, o + k * 2 + 1, none⟩) hBb).trans hS0.2.2.2⟩))
        have B1 := (Below.refl wr.heap.size wr).drew
        have HC1 := Lib.hid (HC.out _ HW.out.drew)
        clear HC g0 g1 g2 g3
        go_region_held3 (fun w' => w'.cell? ⟨tb, tof + k, none⟩ = some (.slice p1 pn1 pc1) ∧ w'.cell? ⟨tb, tof + (k + 1), none⟩ = some (.slice p2 pn2 pc2) ∧ w'.cell? ⟨b, o + k * 2, none⟩ = some (.slice q1 qn1 qc1) ∧ w'.cell? ⟨b, o + k * 2 + 1, none⟩ = some (.slice q2 qn2 qc2))
          (first | with_reducible exact hS1 | with_reducible exact hSd | with_reducible exact hS0 | go_keep)
          ((first
            | (go_at_call 176; (with_reducible refine HC1.out.mono ?_); rintro e w2 ⟨rfl, hb⟩; have B2 := B1.trans (hb.mono B1.size); have hS1 := HS.out _ B2; clear hb)
            | fail))
        have HZ := Lib.hid (HW.out.trans (B2.mono HW.out.size))
        clear B1 B2
        go_wp2
        go_ret
        exact ⟨by rw [HF.out]; rfl, HZ.out⟩
    · have e : g = 0 := by omega
      subst e
      have HF := Lib.hid (show T = im from by rw [HK.out]; exact Bool.and_true im)
      have hu1 : wr.cell? ⟨tb, tof, none⟩ = some (.slice z0 zn zc) := (hbel.out.cell (p := ⟨tb, tof, none⟩) htb).trans hu0
      clear HK hg hcell
      go_wp2_with fail
      refine (H1.out _ hbel.out).mono ?_
      rintro e w' ⟨rfl, rfl⟩
      go_wp2
      go_ret
      exact ⟨by rw [HF.out]; rfl, hbel.out⟩
end Go.Proofs.Ytlkgkfgpnnahdaa
end

section
/-
  LagOfChain's model: the step of a whole chain.
-/
namespace Go.Proofs.Ytlkgkfgpnnahdaa
open Go.RowKit Go.Deep Go.Sd

def lagFold : List (Tb × Tb) → Tb × Tb → Option (Tb × Tb)
  | [], x => some x
  | y :: l, x => if ttOk x.1 y.1 = true ∧ ttOk y.2 x.2 = true then lagFold l (ttV x.1 y.1, ttV y.2 x.2) else none
def lagC (ts : List Tb) (xs : List (Tb × Tb)) : Option (Tb × Tb) := if chainM ts xs = true ∧ 1 ≤ xs.length ∧ xs.length ≤ 5 then lagFold (xs.drop 1) (xs.getD 0 ([], [])) else none
def Sm (x : Tb × Tb) : Prop := (x.1.length ≤ 9 ∧ ∀ r, r ∈ x.1 → r.length ≤ 9) ∧ x.2.length ≤ 9 ∧ ∀ r, r ∈ x.2 → r.length ≤ 9
theorem ttOk_sm {a b : Tb} (h : ttOk a b = true) : (a.length ≤ 9 ∧ ∀ r, r ∈ a → r.length ≤ 9) ∧ b.length ≤ 9 ∧ ∀ r, r ∈ b → r.length ≤ 9 := by
  unfold ttOk at h
  simp only [Bool.and_eq_true] at h
  have h1 := isTab_sq h.1.2
  have h2 := isTab_sq h.2
  exact ⟨⟨h1.2.2.2.1, fun r hr => by rw [h1.1 r hr]; omega⟩, h2.2.2.2.1, fun r hr => by rw [h2.1 r hr]; omega⟩
theorem stepM_sm {a b : Tb} {x : Tb × Tb} (h : stepM a b x = true) : Sm x := by
  unfold stepM prodIs at h
  simp only [Bool.and_eq_true] at h
  exact ttOk_sm h.2.2.2.2.1.1
theorem chainM_sm {ts : List Tb} {xs : List (Tb × Tb)} (h : chainM ts xs = true) {k : Nat} {x : Tb × Tb} (hx : xs[k]? = some x) : Sm x := by
  unfold chainM at h
  simp only [Bool.and_eq_true] at h
  have hk := (List.getElem?_eq_some_iff.1 hx).1
  have key : ∀ (m k0 : Nat), allF (chB ts xs) m k0 = true → ∀ j, j < m → chB ts xs (k0 + j) = true := by
    intro m
    induction m with
    | zero => intro k0 _ j hj; omega
    | succ m ih =>
      intro k0 h j hj
      have h1 : (if chB ts xs k0 = true then allF (chB ts xs) m (k0 + 1) else false) = true := h
      by_cases hb : chB ts xs k0 = true
      · rw [if_pos hb] at h1
        cases j with
        | zero => exact hb
        | succ j => rw [show k0 + (j + 1) = k0 + 1 + j by omega]; exact ih _ h1 j (by omega)
      · rw [if_neg hb] at h1; cases h1
  have h1 := key _ _ h.2.2 k hk
  rw [Nat.zero_add] at h1
  unfold chB at h1
  rw [show xs.getD k ([], []) = x by simp [List.getD, hx]] at h1
  exact stepM_sm h1
theorem Sm.cnt {x : Tb × Tb} (h : Sm x) : cntStp x ≤ 1048576 := by
  have e1 := cntSS_bd (p := 9) (r := 9) h.1.1 h.1.2
  have e2 := cntSS_bd (p := 9) (r := 9) h.2.1 h.2.2
  unfold cntStp
  omega
theorem Sm.sz {x : Tb × Tb} (h : Sm x) : StpSz x :=
  ⟨⟨Nat.le_trans h.1.1 (by decide), fun r hr => Nat.le_trans (h.1.2 r hr) (by decide)⟩, Nat.le_trans h.2.1 (by decide), fun r hr => Nat.le_trans (h.2.2 r hr) (by decide)⟩
theorem lagFold_sm : ∀ (l : List (Tb × Tb)) (x : Tb × Tb), Sm x → ∀ y, lagFold l x = some y → Sm y
  | [], x, h, y, e => by cases e; exact h
  | z :: l, x, h, y, e => by
    unfold lagFold at e
    split at e
    · exact lagFold_sm l _ ⟨ttV_bd _ _, ttV_bd _ _⟩ y e
    · cases e
theorem lagC_bd (ts : List Tb) (xs : List (Tb × Tb)) : cntStp (found (lagC ts xs)) ≤ 1048576 := by
  have h0 : cntStp (([], []) : Tb × Tb) ≤ 1048576 := by decide
  unfold found
  cases hf : lagC ts xs with
  | none => exact h0
  | some y =>
    unfold lagC at hf
    split at hf
    · rename_i h
      obtain ⟨x, hx, _⟩ := at_lt (xs := xs) (k := 0) (by omega)
      have hs := chainM_sm h.1 hx
      rw [show xs.getD 0 ([], []) = x by simp [List.getD, hx]] at hf
      exact (lagFold_sm _ _ hs y hf).cnt
    · cases hf
end Go.Proofs.Ytlkgkfgpnnahdaa
end

section
/-
  A chain of one or two small steps is a lag of its length.
-/
namespace Go.Sd
/-- Two steps one behind the other. -/
theorem step_lag {n k : Nat} {A B R S : MF} (h1 : EqF n n A (mulF k R S)) (h2 : EqF k k B (mulF n S R)) : EqF n k (mulF n A R) (mulF k R B) ∧ EqF k n (mulF n S A) (mulF k B S) := by
  have e1 : EqF n k (mulF n A R) (mulF n (mulF k R S) R) := h1.mul (EqF.refl _ _ _)
  have e2 : EqF n k (mulF k R (mulF n S R)) (mulF k R B) := (EqF.refl _ _ _).mul h2.symm
  have e3 : EqF k n (mulF n S A) (mulF n S (mulF k R S)) := (EqF.refl _ _ _).mul h1
  have e4 : EqF k n (mulF k (mulF n S R) S) (mulF k B S) := h2.symm.mul (EqF.refl _ _ _)
  rw [mulF_assoc] at e1
  rw [mulF_assoc] at e4
  exact ⟨e1.trans e2, e3.trans e4⟩
theorem lag_two {n k l : Nat} {A B C R S T U : MF} (h1 : EqF n n A (mulF k R S)) (h2 : EqF k k B (mulF n S R)) (h3 : EqF k k B (mulF l T U)) (h4 : EqF l l C (mulF k U T)) :
    EqF n l (mulF n A (mulF k R T)) (mulF l (mulF k R T) C) ∧ EqF l n (mulF n (mulF k U S) A) (mulF l C (mulF k U S)) ∧ EqF n n (mulF l (mulF k R T) (mulF k U S)) (mulF n A A) ∧ EqF l l (mulF n (mulF k U S) (mulF k R T)) (mulF l C C) := by
  obtain ⟨a1, a2⟩ := step_lag h1 h2
  obtain ⟨b1, b2⟩ := step_lag h3 h4
  refine ⟨?_, ?_, ?_, ?_⟩
  · have e1 : EqF n l (mulF k (mulF n A R) T) (mulF k (mulF k R B) T) := a1.mul (EqF.refl _ _ _)
    have e2 : EqF n l (mulF k R (mulF k B T)) (mulF k R (mulF l T C)) := (EqF.refl _ _ _).mul b1
    rw [mulF_assoc] at e1
    rw [mulF_assoc k k R B T] at e1
    rw [← mulF_assoc k l R T C] at e2
    exact e1.trans e2
  · have e1 : EqF l n (mulF k U (mulF n S A)) (mulF k U (mulF k B S)) := (EqF.refl _ _ _).mul a2
    have e2 : EqF l n (mulF k (mulF k U B) S) (mulF k (mulF l C U) S) := b2.mul (EqF.refl _ _ _)
    rw [← mulF_assoc k n U S A, ← mulF_assoc k k U B S] at e1
    rw [mulF_assoc l k C U S] at e2
    exact e1.trans e2
  · have e1 : EqF n n (mulF k R (mulF k (mulF l T U) S)) (mulF k R (mulF k B S)) := (EqF.refl _ _ _).mul (h3.symm.mul (EqF.refl _ _ _))
    have e2 : EqF n n (mulF k R (mulF k B S)) (mulF k R (mulF n S A)) := (EqF.refl _ _ _).mul a2.symm
    have e3 : EqF n n (mulF n (mulF k R S) A) (mulF n A A) := h1.symm.mul (EqF.refl _ _ _)
    rw [mulF_assoc l k T U S, ← mulF_assoc k l R T (mulF k U S)] at e1
    rw [← mulF_assoc k n R S A] at e2
    exact e1.trans (e2.trans e3)
  · have e1 : EqF l l (mulF k U (mulF k (mulF n S R) T)) (mulF k U (mulF k B T)) := (EqF.refl _ _ _).mul (h2.symm.mul (EqF.refl _ _ _))
    have e2 : EqF l l (mulF k U (mulF k B T)) (mulF k U (mulF l T C)) := (EqF.refl _ _ _).mul b1
    have e3 : EqF l l (mulF l (mulF k U T) C) (mulF l C C) := h4.symm.mul (EqF.refl _ _ _)
    rw [mulF_assoc n k S R T, ← mulF_assoc k n U S (mulF k R T)] at e1
    rw [← mulF_assoc k l U T C] at e2
    exact e1.trans (e2.trans e3)
/-- p rows of r numbers within bounds. -/
structure Dim (p r : Nat) (B : Int) (t : List (List Int)) : Prop where
  len : t.length = p
  row : ∀ x, x ∈ t → x.length = r
  bd : Bd B t
theorem Dim.ext {p r : Nat} {B C : Int} {a b : List (List Int)} (ha : Dim p r B a) (hb : Dim p r C b) (h : EqF p r (ent a) (ent b)) : a = b := by
  rw [tab_eq ha.len ha.row, tab_eq hb.len hb.row]
  exact tabOf_congr fun i hi j hj => h i j hi hj
theorem Dim.ent {p r : Nat} {B : Int} {t : List (List Int)} (h : Dim p r B t) {i j : Nat} (hi : i < p) (hj : j < r) : -B ≤ Go.Sd.ent t i j ∧ Go.Sd.ent t i j ≤ B := h.bd.ent h.row (by rw [h.len]; exact hi) hj
theorem Dim.of {p r : Nat} {B : Int} {f : Nat → Nat → Int} (h : ∀ i j, i < p → j < r → -B ≤ f i j ∧ f i j ≤ B) : Dim p r B (tabOf p r f) := ⟨tabOf_len _ _ _, fun _ hx => mem_tabOf hx, fun x hx y hy => by
  obtain ⟨i, hi, rfl⟩ := List.mem_map.1 hx
  obtain ⟨j, hj, rfl⟩ := List.mem_map.1 hy
  exact h i j (List.mem_range.1 hi) (List.mem_range.1 hj)⟩
end Go.Sd
namespace Go.Proofs.Ytlkgkfgpnnahdaa
open Go.RowKit Go.Deep Go.Sd
theorem Dim.head {p r : Nat} {B : Int} {t : Tb} (h : Dim p r B t) (hp : 1 ≤ p) : (t.headD []).length = r := by
  have h1 := h.len
  cases t with
  | nil => simp at h1; omega
  | cons x t => exact h.row x (by simp)
theorem isTab_mk {p r : Nat} {t : Tb} (h : Dim p r 1000 t) (hp : 1 ≤ p ∧ p ≤ 9) (hr : 1 ≤ r ∧ r ≤ 9) : isTab r t = true := by
  unfold isTab
  rw [Bool.and_eq_true, h.len]
  refine ⟨decide_eq_true ⟨hp.1, hp.2, hr.1, hr.2⟩, List.all_eq_true.2 fun x hx => ?_⟩
  rw [tabRow_yes (h.row x hx)]
  refine List.all_eq_true.2 fun y hy => ?_
  have := h.bd x hx y hy
  exact decide_eq_true ⟨by omega, this.2⟩
theorem ttOk_mk {p q r : Nat} {a b : Tb} (ha : Dim p q 1000 a) (hb : Dim q r 1000 b) (hp : 1 ≤ p ∧ p ≤ 9) (hq : 1 ≤ q ∧ q ≤ 9) (hr : 1 ≤ r ∧ r ≤ 9) : ttOk a b = true ∧ ttV a b = prodT a b p q r := by
  have h1 := Dim.head hb hq.1
  have h : ttOk a b = true := by
    unfold ttOk
    rw [Bool.and_eq_true, Bool.and_eq_true, hb.len, h1]
    exact ⟨⟨decide_eq_true (by omega), isTab_mk ha hp hq⟩, isTab_mk hb hq hr⟩
  refine ⟨h, ?_⟩
  unfold ttV
  rw [if_pos h, ha.len, hb.len, h1]
theorem Dim.mono {p r : Nat} {B C : Int} {t : Tb} (h : Dim p r B t) (hB : B ≤ C) : Dim p r C t := ⟨h.len, h.row, fun x hx y hy => by have := h.bd x hx y hy; omega⟩
/-- What a step between small matrices is. -/
structure SmS (n k : Nat) (a b : Tb) (x : Tb × Tb) : Prop where
  n9 : 1 ≤ n ∧ n ≤ 9
  k9 : 1 ≤ k ∧ k ≤ 9
  da : Dim n n 9 a
  db : Dim k k 9 b
  R : Dim n k 9 x.1
  S : Dim k n 9 x.2
  r0 : countM x.1 = true
  s0 : countM x.2 = true
  ma : isMat a = true
  mb : isMat b = true
  e1 : a = prodT x.1 x.2 n k n
  e2 : b = prodT x.2 x.1 k n k
theorem SmS.mk' {a b : Tb} {x : Tb × Tb} (h : stepM a b x = true) (ha : Bd 9 a) (hb : Bd 9 b) (hR : Bd 9 x.1) (hS : Bd 9 x.2) : SmS a.length b.length a b x := by
  unfold stepM at h
  simp only [Bool.and_eq_true] at h
  obtain ⟨ma, mb, r0, s0, h1, h2⟩ := h
  obtain ⟨o1, e1⟩ := prodIs_get h1
  obtain ⟨o2, e2⟩ := prodIs_get h2
  obtain ⟨r1, p1, -, k, c1, -, e3⟩ := ttOk_get o1
  obtain ⟨r2, p2, -, l, c2, -, e4⟩ := ttOk_get o2
  obtain ⟨u, hu⟩ := row_ex p1
  obtain ⟨v, hv⟩ := row_ex p2
  have hk : k = x.1.length := by rw [← c1 v hv, r2 v hv]
  have hl : l = x.2.length := by rw [← c2 u hu, r1 u hu]
  rw [e1, hk] at e3
  rw [e2, hl] at e4
  have la : a.length = x.1.length := by rw [e3]; exact tabOf_len _ _ _
  have lb : b.length = x.2.length := by rw [e4]; exact tabOf_len _ _ _
  have sa := isMat_sq ma
  have sb := isMat_sq mb
  refine ⟨sa.2, sb.2, ⟨rfl, sa.1.2, ha⟩, ⟨rfl, sb.1.2, hb⟩, ⟨la.symm, fun y hy => by rw [lb]; exact r1 y hy, hR⟩, ⟨lb.symm, fun y hy => by rw [la]; exact r2 y hy, hS⟩, r0, s0, ma, mb, ?_, ?_⟩
  · rw [la, lb]; exact e3
  · rw [la, lb]; exact e4
theorem SmS.eqs {n k : Nat} {a b : Tb} {x : Tb × Tb} (h : SmS n k a b x) : EqF n n (ent a) (mulF k (ent x.1) (ent x.2)) ∧ EqF k k (ent b) (mulF n (ent x.2) (ent x.1)) := by
  have h1 := prodT_ent x.1 x.2 n k n
  have h2 := prodT_ent x.2 x.1 k n k
  rw [← h.e1] at h1
  rw [← h.e2] at h2
  exact ⟨h1, h2⟩
theorem prodT_dim {p q r : Nat} {D : Int} {a b : Tb} (h : ∀ i j, i < p → j < r → -D ≤ mulF q (ent a) (ent b) i j ∧ mulF q (ent a) (ent b) i j ≤ D) : Dim p r D (prodT a b p q r) := by
  unfold prodT
  exact Dim.of fun i j hi hj => by rw [dotU_mulF]; exact h i j hi hj
theorem sum_bd {q : Nat} {B : Int} {f : Nat → Int} (h : ∀ i, i < q → -B ≤ f i ∧ f i ≤ B) : -((q : Int) * B) ≤ sumN q f ∧ sumN q f ≤ (q : Int) * B := by
  induction q with
  | zero => simp [sumN]
  | succ q ih =>
    have h1 := ih fun i hi => h i (by omega)
    have h2 := h q (by omega)
    have h3 : ((q + 1 : Nat) : Int) * B = (q : Int) * B + B := by rw [Int.natCast_add, Int.add_mul]; omega
    rw [h3, sumN]
    omega
theorem prod_dim {p q r : Nat} {a b : Tb} (ha : Dim p q 9 a) (hb : Dim q r 9 b) (hq : q ≤ 9) : Dim p r 729 (prodT a b p q r) := by
  refine prodT_dim fun i j hi hj => ?_
  have h := sum_bd (q := q) (B := 81) (f := fun x => ent a i x * ent b x j) fun x hx => prod_bd (X := 9) (Y := 9) (ha.ent hi hx) (hb.ent hx hj)
  have h2 : (q : Int) * 81 ≤ 729 := by omega
  show -729 ≤ sumN q (fun x => ent a i x * ent b x j) ∧ sumN q (fun x => ent a i x * ent b x j) ≤ 729
  omega
theorem count_ent {p r : Nat} {B : Int} {t : Tb} (h : Dim p r B t) (hc : countM t = true) {i j : Nat} (hi : i < p) (hj : j < r) : 0 ≤ ent t i j := by
  obtain ⟨x, hx, hy⟩ := ent_mem h.row (i := i) (j := j) (by rw [h.len]; exact hi) hj
  unfold countM at hc
  have h1 := List.all_eq_true.1 (List.all_eq_true.1 hc x hx) _ hy
  unfold nnOk at h1
  simpa using h1
theorem count_prod {p q r : Nat} {a b : Tb} (ha : Dim p q 9 a) (hb : Dim q r 9 b) (ca : countM a = true) (cb : countM b = true) : countM (prodT a b p q r) = true := by
  unfold countM
  refine List.all_eq_true.2 fun x hx => List.all_eq_true.2 fun y hy => ?_
  unfold prodT at hx
  obtain ⟨i, hi, rfl⟩ := List.mem_map.1 hx
  obtain ⟨j, hj, rfl⟩ := List.mem_map.1 hy
  show nnOk (dotU a b i j q) = true
  rw [dotU_mulF]
  exact decide_eq_true (sumN_nonneg fun k hk => Int.mul_nonneg (count_ent ha ca (List.mem_range.1 hi) hk) (count_ent hb cb hk (List.mem_range.1 hj)))
/-- A table by the product of two. -/
theorem prod_same {p q q' r : Nat} {a b c d : Tb} (h : EqF p r (mulF q (ent a) (ent b)) (mulF q' (ent c) (ent d))) : prodT a b p q r = prodT c d p q' r := by
  unfold prodT
  exact tabOf_congr fun i hi j hj => by rw [dotU_mulF, dotU_mulF]; exact h i j hi hj
theorem prod_is {p q r : Nat} {B : Int} {a b c : Tb} (hc : Dim p r B c) (h : EqF p r (mulF q (ent a) (ent b)) (ent c)) : prodT a b p q r = c := by
  rw [tab_eq hc.len hc.row]
  unfold prodT
  exact tabOf_congr fun i hi j hj => by rw [dotU_mulF]; exact h i j hi hj
theorem pw_dim {m : Tb} {n : Int} (h : pwOk m n = true) : Dim m.length m.length 1000000 (pwV m n) := by
  have h1 := pwV_isMat h
  have h2 := (pwV_ent h).2
  have h3 := isMat_sq h1
  exact ⟨h2, fun x hx => by rw [← h2]; exact h3.1.2 x hx, fun x hx y hy => by have := isMat_bd h1 x hx y hy; omega⟩
/-- A chain of one step. -/
theorem chain_one {a b : Tb} {x : Tb × Tb} (h : SmS a.length b.length a b x) (pa : pwOk a 1 = true) (pb : pwOk b 1 = true) : lagM a b x 1 = true := by
  obtain ⟨n, hn⟩ : ∃ n, n = a.length := ⟨_, rfl⟩
  obtain ⟨k, hk⟩ : ∃ k, k = b.length := ⟨_, rfl⟩
  have da := pw_dim pa
  have db := pw_dim pb
  have ea := (pwV_ent pa).1
  have eb := (pwV_ent pb).1
  rw [← hn] at da ea
  rw [← hk] at db eb
  rw [← hn, ← hk] at h
  obtain ⟨h1, h2⟩ := h.eqs
  obtain ⟨l1, l2⟩ := step_lag h1 h2
  have m9 : ∀ {p r : Nat} {t : Tb}, Dim p r 9 t → Dim p r 1000 t := fun h => Dim.mono h (by decide)
  obtain ⟨o1, v1⟩ := ttOk_mk (m9 h.da) (m9 h.R) h.n9 h.n9 h.k9
  obtain ⟨o2, v2⟩ := ttOk_mk (m9 h.R) (m9 h.db) h.n9 h.k9 h.k9
  obtain ⟨o3, v3⟩ := ttOk_mk (m9 h.S) (m9 h.da) h.k9 h.n9 h.n9
  obtain ⟨o4, v4⟩ := ttOk_mk (m9 h.db) (m9 h.S) h.k9 h.k9 h.n9
  obtain ⟨o5, v5⟩ := ttOk_mk (m9 h.R) (m9 h.S) h.n9 h.k9 h.n9
  obtain ⟨o6, v6⟩ := ttOk_mk (m9 h.S) (m9 h.R) h.k9 h.n9 h.k9
  refine lagM_iff.2 ⟨h.ma, h.mb, ⟨by decide, by decide⟩, h.r0, h.s0, pa, pb, o1, o2, o3, o4, o5, o6, ?_, ?_, ?_, ?_⟩
  · rw [v1, v2]; exact prod_same l1
  · rw [v3, v4]; exact prod_same l2
  · rw [v5]
    exact prod_is da (h1.symm.trans ((one_mulF _).symm.trans ea.symm))
  · rw [v6]
    exact prod_is db (h2.symm.trans ((one_mulF _).symm.trans eb.symm))
/-- A chain of two steps. -/
theorem chain_two {a b c : Tb} {x y : Tb × Tb} (h : SmS a.length b.length a b x) (g : SmS b.length c.length b c y) (pa : pwOk a 2 = true) (pc : pwOk c 2 = true) :
    ttOk x.1 y.1 = true ∧ ttOk y.2 x.2 = true ∧ lagM a c (ttV x.1 y.1, ttV y.2 x.2) 2 = true := by
  obtain ⟨n, hn⟩ : ∃ n, n = a.length := ⟨_, rfl⟩
  obtain ⟨k, hk⟩ : ∃ k, k = b.length := ⟨_, rfl⟩
  obtain ⟨l, hl⟩ : ∃ l, l = c.length := ⟨_, rfl⟩
  have da := pw_dim pa
  have dc := pw_dim pc
  have ea := (pwV_ent pa).1
  have ec := (pwV_ent pc).1
  rw [← hn] at da ea
  rw [← hl] at dc ec
  rw [← hn, ← hk] at h
  rw [← hk, ← hl] at g
  obtain ⟨h1, h2⟩ := h.eqs
  obtain ⟨g1, g2⟩ := g.eqs
  have m9 : ∀ {p r : Nat} {t : Tb}, Dim p r 9 t → Dim p r 1000 t := fun h => Dim.mono h (by decide)
  have m7 : ∀ {p r : Nat} {t : Tb}, Dim p r 729 t → Dim p r 1000 t := fun h => Dim.mono h (by decide)
  obtain ⟨oR, vR⟩ := ttOk_mk (m9 h.R) (m9 g.R) h.n9 h.k9 g.k9
  obtain ⟨oS, vS⟩ := ttOk_mk (m9 g.S) (m9 h.S) g.k9 h.k9 h.n9
  have DR := prod_dim h.R g.R h.k9.2
  have DS := prod_dim g.S h.S h.k9.2
  have CR := count_prod h.R g.R h.r0 g.r0
  have CS := count_prod g.S h.S g.s0 h.s0
  have ER := prodT_ent x.1 y.1 n k l
  have ES := prodT_ent y.2 x.2 l k n
  refine ⟨oR, oS, ?_⟩
  rw [vR, vS]
  generalize prodT x.1 y.1 n k l = R at DR CR ER
  generalize prodT y.2 x.2 l k n = S at DS CS ES
  obtain ⟨q1, q2, q3, q4⟩ := lag_two h1 h2 g1 g2
  obtain ⟨o1, v1⟩ := ttOk_mk (m9 h.da) (m7 DR) h.n9 h.n9 g.k9
  obtain ⟨o2, v2⟩ := ttOk_mk (m7 DR) (m9 g.db) h.n9 g.k9 g.k9
  obtain ⟨o3, v3⟩ := ttOk_mk (m7 DS) (m9 h.da) g.k9 h.n9 h.n9
  obtain ⟨o4, v4⟩ := ttOk_mk (m9 g.db) (m7 DS) g.k9 g.k9 h.n9
  obtain ⟨o5, v5⟩ := ttOk_mk (m7 DR) (m7 DS) h.n9 g.k9 h.n9
  obtain ⟨o6, v6⟩ := ttOk_mk (m7 DS) (m7 DR) g.k9 h.n9 g.k9
  have pA : EqF n n (powF n (ent a) 2) (mulF n (ent a) (ent a)) := (one_mulF (ent a)).mul (EqF.refl _ _ _)
  have pC : EqF l l (powF l (ent c) 2) (mulF l (ent c) (ent c)) := (one_mulF (ent c)).mul (EqF.refl _ _ _)
  refine lagM_iff.2 ⟨h.ma, g.mb, ⟨by decide, by decide⟩, CR, CS, pa, pc, o1, o2, o3, o4, o5, o6, ?_, ?_, ?_, ?_⟩
  · show ttV a R = ttV R c
    rw [v1, v2]
    exact prod_same (((EqF.refl _ _ _).mul ER).trans (q1.trans (ER.symm.mul (EqF.refl _ _ _))))
  · show ttV S a = ttV c S
    rw [v3, v4]
    exact prod_same ((ES.mul (EqF.refl _ _ _)).trans (q2.trans ((EqF.refl _ _ _).mul ES.symm)))
  · show ttV R S = pwV a 2
    rw [v5]
    exact prod_is da ((ER.mul ES).trans (q3.trans (pA.symm.trans ea.symm)))
  · show ttV S R = pwV c 2
    rw [v6]
    exact prod_is dc ((ES.mul ER).trans (q4.trans (pC.symm.trans ec.symm)))
theorem allF_ch {f : Nat → Bool} {m : Nat} (h : allF f m 0 = true) {j : Nat} (hj : j < m) : f j = true := by
  have := allF_get h j hj
  rwa [Nat.zero_add] at this
/-- A chain of at most two small steps. -/
theorem chain_lag {ts : List Tb} {xs : List (Tb × Tb)} {z : Tb × Tb} (h : lagC ts xs = some z) (h2 : xs.length ≤ 2) (ht : ∀ t, t ∈ ts → Bd 9 t) (hx : ∀ x, x ∈ xs → Bd 9 x.1 ∧ Bd 9 x.2) {n : Nat} (hn : n + 1 = ts.length)
    (pa : pwOk (ts.getD 0 []) n = true) (pb : pwOk (ts.getD n []) n = true) : lagM (ts.getD 0 []) (ts.getD n []) z n = true := by
  unfold lagC at h
  split at h
  · rename_i hc
    obtain ⟨hc, h1, -⟩ := hc
    unfold chainM chLen at hc
    simp only [Bool.and_eq_true, decide_eq_true_eq] at hc
    have hl : xs.length = n := by omega
    have hst : ∀ k, k < xs.length → SmS (ts.getD k []).length (ts.getD (k + 1) []).length (ts.getD k []) (ts.getD (k + 1) []) (xs.getD k ([], [])) := fun k hk => by
      have e := allF_ch hc.2.2 hk
      unfold chB at e
      have m1 : ts.getD k [] ∈ ts := by rw [List.getD_eq_getElem?_getD, List.getElem?_eq_getElem (show k < ts.length by omega)]; exact List.getElem_mem _
      have m2 : ts.getD (k + 1) [] ∈ ts := by rw [List.getD_eq_getElem?_getD, List.getElem?_eq_getElem (show k + 1 < ts.length by omega)]; exact List.getElem_mem _
      have m3 : xs.getD k ([], []) ∈ xs := by rw [List.getD_eq_getElem?_getD, List.getElem?_eq_getElem hk]; exact List.getElem_mem _
      exact SmS.mk' e (ht _ m1) (ht _ m2) (hx _ m3).1 (hx _ m3).2
    have hn2 : n = 1 ∨ n = 2 := by omega
    rcases hn2 with e | e
    · subst e
      have hd : xs.drop 1 = [] := List.drop_eq_nil_of_le (by omega)
      rw [hd] at h
      have hz : xs.getD 0 ([], []) = z := Option.some.inj h
      rw [← hz]
      exact chain_one (hst 0 (by omega)) pa pb
    · subst e
      obtain ⟨o1, o2, hl⟩ := chain_two (hst 0 (by omega)) (hst 1 (by omega)) pa pb
      have hd : xs.drop 1 = [xs.getD 1 ([], [])] := by
        rw [List.drop_eq_getElem_cons (show 1 < xs.length by omega), List.drop_eq_nil_of_le (show xs.length ≤ 1 + 1 by omega), List.getD_eq_getElem?_getD, List.getElem?_eq_getElem (show 1 < xs.length by omega)]
        rfl
      rw [hd] at h
      unfold lagFold at h
      rw [if_pos ⟨o1, o2⟩] at h
      have hz := Option.some.inj h
      rw [← hz]
      exact hl
  · cases h
/-- What FindLag finds. -/
theorem findS_holds' {P : Tb × Tb → Bool} {r : Tb} : ∀ {l : List Tb} {x : Tb × Tb}, findS P r l = some x → P x = true
  | s :: l, x, h => by
    unfold findS at h
    split at h
    · rename_i hp
      cases h
      exact hp
    · exact findS_holds' h
theorem findR_holds' {P : Tb × Tb → Bool} {ss : List Tb} : ∀ {l : List Tb} {x : Tb × Tb}, findR P ss l = some x → P x = true
  | r :: l, x, h => by
    unfold findR at h
    split at h
    · rename_i y hy
      cases h
      exact findS_holds' hy
    · exact findR_holds' h
theorem lagF_holds {a b : Tb} {n : Int} {x : Tb × Tb} (h : lagF a b n = some x) : lagM a b x n = true := by
  unfold lagF findVP at h
  split at h
  · split at h
    · exact findR_holds' h
    · cases h
  · cases h
end Go.Proofs.Ytlkgkfgpnnahdaa
end
