/-
  Texts of this claim joined: laws for its walks, contracts of the functions that the law reaches.
-/
import Derived.Test.YtlkgkfgpnnahdaaRows
import Derived.Test.YtlkgkfgpnnahdaaFnLagsM1
import Derived.Test.YtlkgkfgpnnahdaaFnLagsM3
import Derived.Test.YtlkgkfgpnnahdaaFnLagsM2
import Derived.Test.YtlkgkfgpnnahdaaFnLagsM11
import Derived.Test.YtlkgkfgpnnahdaaFnLagsM5
import Derived.Test.YtlkgkfgpnnahdaaFnLagsM12
import Derived.IntWalk
import Derived.Deep.RegionLaw
import Derived.WalkSpells
section
/-
  IsLag, both sides.
-/
namespace Go.Proofs.Ytlkgkfgpnnahdaa
open Go.RowKit Go.Deep Go.Sd

def sameP (a b c d : List (List Int)) : Bool := ttOk a b && prodIs c d (ttV a b)
def lagM (a b : List (List Int)) (x : Tb × Tb) (n : Int) : Bool :=
  isMat a && (isMat b && (decide (1 ≤ n ∧ n ≤ 5) && (countM x.1 && (countM x.2 && (pwOk a n && (pwOk b n && (sameP a x.1 x.1 b && (sameP b x.2 x.2 a && (prodIs x.1 x.2 (pwV a n) && prodIs x.2 x.1 (pwV b n))))))))))

set_option maxHeartbeats 400000 in
theorem isSameProduct_c {w : World} {va vb vc vd : Value} {a b c d : List (List Int)} (h1 : Tab w va a) (h2 : Tab w vb b) (h3 : Tab w vc c) (h4 : Tab w vd d) :
    Calls Try.prog 107 #[va, vb, vc, vd] w fun e w' => e = .returned (.bool (sameP a b c d)) ∧ Below w.heap.size w w' := by
  have Hc := Lib.hid (impl_TableTimes_c h1 h2)
  have He := Lib.hid (fun w1 v (hb : Below w.heap.size w w1) (h : Tab w1 v (ttV a b)) => isProduct_c (Tab.frame _ _ _ _ h3 hb) (Tab.frame _ _ _ _ h4 hb) h)
  have H := Lib.hid (show sameP a b c d = (ttOk a b && prodIs c d (ttV a b)) from rfl)
  obtain ⟨_, _, rfl, _, _, _⟩ := h1.shape
  obtain ⟨_, _, rfl, _, _, _⟩ := h2.shape
  obtain ⟨_, _, rfl, _, _, _⟩ := h3.shape
  obtain ⟨_, _, rfl, _, _, _⟩ := h4.shape
  clear h1 h2 h3 h4
  generalize sameP a b c d = T at H ⊢
  generalize prodIs c d (ttV a b) = q at H He
  generalize ttOk a b = k at H Hc
  go_enter Try.func107, Try.ntmps107
  go_wp2_with fail
  refine Hc.out.mono ?_
  rintro e w1 ⟨v1, rfl, hn1, hb1⟩
  have Hb1 := Lib.hid hb1
  have He1 := Lib.hid (He.out w1 v1 hb1 hn1.tab)
  obtain ⟨_, _, _, rfl⟩ := hn1.slice
  clear hn1 hb1 He
  cases k with
  | false =>
    go_wp2
    go_ret
    exact ⟨by rw [H.out]; rfl, Hb1.out⟩
  | true =>
    go_wp2_with fail
    refine He1.out.mono ?_
    rintro e w2 ⟨rfl, hb2⟩
    have Hb2 := Lib.hid (Hb1.out.trans (hb2.mono Hb1.out.size))
    clear hb2
    go_wp2
    go_ret
    exact ⟨by rw [H.out]; rfl, Hb2.out⟩
theorem lagM_spec (a b : List (List Int)) (x : Tb × Tb) (n : Int) : lagM a b x n = (isMat a && (isMat b && (countM x.1 && (countM x.2 && (decide (1 ≤ n ∧ n ≤ 5) && (ttOk a x.1 && (ttOk x.1 b && (ttOk x.2 a && (ttOk b x.2 && (ttOk x.1 x.2 && (ttOk x.2 x.1 && (pwOk a n && (pwOk b n && (decide (ttV a x.1 = ttV x.1 b) && (decide (ttV x.2 a = ttV b x.2) && (decide (ttV x.1 x.2 = pwV a n) && decide (ttV x.2 x.1 = pwV b n))))))))))))))))) := by
  unfold lagM sameP prodIs
  rw [show decide (ttV x.1 b = ttV a x.1) = decide (ttV a x.1 = ttV x.1 b) from decide_eq_decide.2 eq_comm]
  generalize isMat a = p1
  generalize isMat b = p2
  generalize countM x.1 = p3
  generalize countM x.2 = p4
  generalize decide (1 ≤ n ∧ n ≤ 5) = p5
  generalize pwOk a n = p6
  generalize pwOk b n = p7
  generalize ttOk a x.1 = p8
  generalize ttOk x.1 b = p9
  generalize ttOk x.2 a = pa
  generalize ttOk b x.2 = pb
  generalize ttOk x.1 x.2 = pc
  generalize ttOk x.2 x.1 = pd
  generalize decide (ttV a x.1 = ttV x.1 b) = pe
  generalize decide (ttV x.2 a = ttV b x.2) = pf
  generalize decide (ttV x.1 x.2 = pwV a n) = pg
  generalize decide (ttV x.2 x.1 = pwV b n) = ph
  ac_rfl

set_option maxHeartbeats 2000000 in
set_option maxRecDepth 10000 in
theorem impl_IsLag_c {w : World} {va vb vx : Value} {a b : List (List Int)} {x : Tb × Tb} {n : Int} (h1 : Tab w va a) (h2 : Tab w vb b) (h3 : StepR w vx x) :
    Calls Try.prog 32 #[va, vb, vx, .int .i64 n] w fun e w' => e = .returned (.bool (lagM a b x n)) ∧ Below w.heap.size w w' := by
  have H := Lib.hid (show lagM a b x n = (isMat a && (isMat b && (decide (1 ≤ n ∧ n ≤ 5) && (countM x.1 && (countM x.2 && (pwOk a n && (pwOk b n && (sameP a x.1 x.1 b && (sameP b x.2 x.2 a && (prodIs x.1 x.2 (pwV a n) && prodIs x.2 x.1 (pwV b n))))))))))) from rfl)
  generalize lagM a b x n = T at H ⊢
  obtain ⟨v1, v2, rfl, t1, t2⟩ := h3
  have Ha := Lib.hid (fun w1 (hb : Below w.heap.size w w1) => impl_IsMatrix_c (Tab.frame _ _ _ _ h1 hb))
  have Hb := Lib.hid (fun w1 (hb : Below w.heap.size w w1) => impl_IsMatrix_c (Tab.frame _ _ _ _ h2 hb))
  have Hr := Lib.hid (fun w1 (hb : Below w.heap.size w w1) => isCounted_c (Tab.frame _ _ _ _ t1 hb))
  have Hs := Lib.hid (fun w1 (hb : Below w.heap.size w w1) => isCounted_c (Tab.frame _ _ _ _ t2 hb))
  have Hpa := Lib.hid (fun w1 (hb : Below w.heap.size w w1) => impl_PowerMatrix_c (n := n) (Tab.frame _ _ _ _ h1 hb))
  have Hpb := Lib.hid (fun w1 (hb : Below w.heap.size w w1) => impl_PowerMatrix_c (n := n) (Tab.frame _ _ _ _ h2 hb))
  have H1 := Lib.hid (fun w1 (hb : Below w.heap.size w w1) => isSameProduct_c (Tab.frame _ _ _ _ h1 hb) (Tab.frame _ _ _ _ t1 hb) (Tab.frame _ _ _ _ t1 hb) (Tab.frame _ _ _ _ h2 hb))
  have H2 := Lib.hid (fun w1 (hb : Below w.heap.size w w1) => isSameProduct_c (Tab.frame _ _ _ _ h2 hb) (Tab.frame _ _ _ _ t2 hb) (Tab.frame _ _ _ _ t2 hb) (Tab.frame _ _ _ _ h1 hb))
  have H3 := Lib.hid (fun w1 v (hb : Below w.heap.size w w1) (h : Tab w1 v (pwV a n)) => isProduct_c (Tab.frame _ _ _ _ t1 hb) (Tab.frame _ _ _ _ t2 hb) h)
  have H4 := Lib.hid (fun w1 v (hb : Below w.heap.size w w1) (h : Tab w1 v (pwV b n)) => isProduct_c (Tab.frame _ _ _ _ t2 hb) (Tab.frame _ _ _ _ t1 hb) h)
  generalize isMat a = ma at *
  generalize isMat b = mb at *
  generalize countM x.1 = cr at *
  generalize countM x.2 = cs at *
  generalize sameP a x.1 x.1 b = s1 at *
  generalize sameP b x.2 x.2 a = s2 at *
  generalize prodIs x.1 x.2 (pwV a n) = q1 at *
  generalize prodIs x.2 x.1 (pwV b n) = q2 at *
  generalize pwOk a n = k1 at *
  generalize pwOk b n = k2 at *
  generalize pwV a n = z1 at *
  generalize pwV b n = z2 at *
  obtain ⟨_, _, rfl, _, _, _⟩ := h1.shape
  obtain ⟨_, _, rfl, _, _, _⟩ := h2.shape
  obtain ⟨xa, xc, rfl, _, _, _⟩ := t1.shape
  obtain ⟨ya, yc, rfl, _, _, _⟩ := t2.shape
  clear h1 h2 t1 t2
  go_enter Try.func32, Try.ntmps32
  go_wp2_with fail
  obtain ⟨w1, ex, A0, c0, c1, m1⟩ := boxA_ex w 41 (.slice xa x.1.length xc) (.slice ya x.2.length yc)
  change Calls Try.prog _ _ (w.alloc (.cells #[.slice xa x.1.length xc, .slice ya x.2.length yc] 41)) _
  rw [ex]
  clear ex
  refine (Ha.out _ A0).mono ?_
  rintro e w' ⟨rfl, rfl⟩
  cases ma with
  | false => go_wp2; go_ret; exact ⟨by rw [H.out]; rfl, A0⟩
  | true =>
  go_wp2_with fail
  refine (Hb.out _ A0).mono ?_
  rintro e w' ⟨rfl, rfl⟩
  cases mb with
  | false => go_wp2; go_ret; exact ⟨by rw [H.out]; rfl, A0⟩
  | true =>
  by_cases cn0 : n < 1
  · have HT := Lib.hid (show T = false from by rw [H.out, show decide (1 ≤ n ∧ n ≤ 5) = false from decide_eq_false (by omega)]; rfl)
    clear H
    go_wp2; go_ret; exact ⟨by rw [HT.out]; rfl, A0⟩
  by_cases c5 : 5 < n
  · have HT := Lib.hid (show T = false from by rw [H.out, show decide (1 ≤ n ∧ n ≤ 5) = false from decide_eq_false (by omega)]; rfl)
    clear H
    go_wp2; go_ret; exact ⟨by rw [HT.out]; rfl, A0⟩
  rw [show decide (1 ≤ n ∧ n ≤ 5) = true from decide_eq_true (by omega)] at H
  go_wp2_with fail
  refine (Hr.out _ A0).mono ?_
  rintro e w' ⟨rfl, rfl⟩
  cases cr with
  | false => go_wp2; go_ret; exact ⟨by rw [H.out]; rfl, A0⟩
  | true =>
  go_wp2_with fail
  refine (Hs.out _ A0).mono ?_
  rintro e w' ⟨rfl, rfl⟩
  cases cs with
  | false => go_wp2; go_ret; exact ⟨by rw [H.out]; rfl, A0⟩
  | true =>
  go_wp2_with fail
  refine (Hpa.out _ A0).mono ?_
  rintro e w2 ⟨u2, rfl, hn2, hb2⟩
  replace c0 := (hb2.cell (p := ⟨w.heap.size, 0, none⟩) m1).trans c0
  replace c1 := (hb2.cell (p := ⟨w.heap.size, 1, none⟩) m1).trans c1
  replace m1 := Nat.lt_of_lt_of_le m1 hb2.size
  replace A0 := A0.trans (hb2.mono A0.size)
  have R1 := Lib.hid hn2.tab
  obtain ⟨_, _, _, rfl⟩ := hn2.slice
  clear hb2 hn2
  go_wp2_with fail
  refine (Hpb.out _ A0).mono ?_
  rintro e w3 ⟨u3, rfl, hn3, hb3⟩
  replace c0 := (hb3.cell (p := ⟨w.heap.size, 0, none⟩) m1).trans c0
  replace c1 := (hb3.cell (p := ⟨w.heap.size, 1, none⟩) m1).trans c1
  replace m1 := Nat.lt_of_lt_of_le m1 hb3.size
  replace R1 := Lib.hid (Tab.frame _ _ _ _ R1.out (hb3.mono (Nat.le_refl _)))
  replace A0 := A0.trans (hb3.mono A0.size)
  have R2 := Lib.hid hn3.tab
  obtain ⟨_, _, _, rfl⟩ := hn3.slice
  clear hb3 hn3
  cases k1 with
  | false => go_wp2; go_ret; exact ⟨by rw [H.out]; rfl, A0⟩
  | true =>
  cases k2 with
  | false => go_wp2; go_ret; exact ⟨by rw [H.out]; rfl, A0⟩
  | true =>
  go_wp2_with fail
  refine (H1.out _ A0).mono ?_
  rintro e w4 ⟨rfl, hb4⟩
  replace c0 := (hb4.cell (p := ⟨w.heap.size, 0, none⟩) m1).trans c0
  replace c1 := (hb4.cell (p := ⟨w.heap.size, 1, none⟩) m1).trans c1
  replace m1 := Nat.lt_of_lt_of_le m1 hb4.size
  replace R1 := Lib.hid (Tab.frame _ _ _ _ R1.out (hb4.mono (Nat.le_refl _)))
  replace R2 := Lib.hid (Tab.frame _ _ _ _ R2.out (hb4.mono (Nat.le_refl _)))
  replace A0 := A0.trans (hb4.mono A0.size)
  clear hb4
  cases s1 with
  | false => go_wp2; go_ret; exact ⟨by rw [H.out]; rfl, A0⟩
  | true =>
  go_wp2_with fail
  refine (H2.out _ A0).mono ?_
  rintro e w5 ⟨rfl, hb5⟩
  replace c0 := (hb5.cell (p := ⟨w.heap.size, 0, none⟩) m1).trans c0
  replace c1 := (hb5.cell (p := ⟨w.heap.size, 1, none⟩) m1).trans c1
  replace m1 := Nat.lt_of_lt_of_le m1 hb5.size
  replace R1 := Lib.hid (Tab.frame _ _ _ _ R1.out (hb5.mono (Nat.le_refl _)))
  replace R2 := Lib.hid (Tab.frame _ _ _ _ R2.out (hb5.mono (Nat.le_refl _)))
  replace A0 := A0.trans (hb5.mono A0.size)
  clear hb5
  cases s2 with
  | false => go_wp2; go_ret; exact ⟨by rw [H.out]; rfl, A0⟩
  | true =>
  go_wp2_with fail
  refine (H3.out _ _ A0 R1.out).mono ?_
  rintro e w6 ⟨rfl, hb6⟩
  replace c0 := (hb6.cell (p := ⟨w.heap.size, 0, none⟩) m1).trans c0
  replace c1 := (hb6.cell (p := ⟨w.heap.size, 1, none⟩) m1).trans c1
  replace m1 := Nat.lt_of_lt_of_le m1 hb6.size
  replace R1 := Lib.hid (Tab.frame _ _ _ _ R1.out (hb6.mono (Nat.le_refl _)))
  replace R2 := Lib.hid (Tab.frame _ _ _ _ R2.out (hb6.mono (Nat.le_refl _)))
  replace A0 := A0.trans (hb6.mono A0.size)
  clear hb6
  cases q1 with
  | false => go_wp2; go_ret; exact ⟨by rw [H.out]; rfl, A0⟩
  | true =>
  go_wp2_with fail
  refine (H4.out _ _ A0 R2.out).mono ?_
  rintro e w7 ⟨rfl, hb7⟩
  replace A0 := A0.trans (hb7.mono A0.size)
  clear hb7
  go_wp2
  go_ret
  exact ⟨by rw [H.out]; rfl, A0⟩
set_option maxHeartbeats 2000000 in
set_option maxRecDepth 10000 in
theorem spec_IsLag_c {w : World} {va vb vx : Value} {a b : List (List Int)} {x : Tb × Tb} {n : Int} (h1 : Tab w va a) (h2 : Tab w vb b) (h3 : StepR w vx x) :
    Calls Try.prog 40 #[va, vb, vx, .int .i64 n] w fun e w' => e = .returned (.bool (lagM a b x n)) ∧ Below w.heap.size w w' := by
  have H := Lib.hid (show lagM a b x n = (isMat a && (isMat b && (countM x.1 && (countM x.2 && (decide (1 ≤ n ∧ n ≤ 5) && (ttOk a x.1 && (ttOk x.1 b && (ttOk x.2 a && (ttOk b x.2 && (ttOk x.1 x.2 && (ttOk x.2 x.1 && (pwOk a n && (pwOk b n && (decide (ttV a x.1 = ttV x.1 b) && (decide (ttV x.2 a = ttV b x.2) && (decide (ttV x.1 x.2 = pwV a n) && decide (ttV x.2 x.1 = pwV b n))))))))))))))))) from lagM_spec a b x n)
  generalize lagM a b x n = T at H ⊢
  obtain ⟨v1, v2, rfl, t1, t2⟩ := h3
  have Ha := Lib.hid (fun w1 (hb : Below w.heap.size w w1) => spec_IsMatrix_c (Tab.frame _ _ _ _ h1 hb))
  have Hb := Lib.hid (fun w1 (hb : Below w.heap.size w w1) => spec_IsMatrix_c (Tab.frame _ _ _ _ h2 hb))
  have Hr := Lib.hid (fun w1 (hb : Below w.heap.size w w1) => l19Rows_c (Tab.frame _ _ _ _ t1 hb))
  have Hs := Lib.hid (fun w1 (hb : Below w.heap.size w w1) => l19Rows_c (Tab.frame _ _ _ _ t2 hb))
  have Ht0 := Lib.hid (fun w1 (hb : Below w.heap.size w w1) => spec_TableTimes_c (Tab.frame _ _ _ _ h1 hb) (Tab.frame _ _ _ _ t1 hb))
  have Ht1 := Lib.hid (fun w1 (hb : Below w.heap.size w w1) => spec_TableTimes_c (Tab.frame _ _ _ _ t1 hb) (Tab.frame _ _ _ _ h2 hb))
  have Ht2 := Lib.hid (fun w1 (hb : Below w.heap.size w w1) => spec_TableTimes_c (Tab.frame _ _ _ _ t2 hb) (Tab.frame _ _ _ _ h1 hb))
  have Ht3 := Lib.hid (fun w1 (hb : Below w.heap.size w w1) => spec_TableTimes_c (Tab.frame _ _ _ _ h2 hb) (Tab.frame _ _ _ _ t2 hb))
  have Ht4 := Lib.hid (fun w1 (hb : Below w.heap.size w w1) => spec_TableTimes_c (Tab.frame _ _ _ _ t1 hb) (Tab.frame _ _ _ _ t2 hb))
  have Ht5 := Lib.hid (fun w1 (hb : Below w.heap.size w w1) => spec_TableTimes_c (Tab.frame _ _ _ _ t2 hb) (Tab.frame _ _ _ _ t1 hb))
  have Hpa := Lib.hid (fun w1 (hb : Below w.heap.size w w1) => spec_PowerMatrix_c (n := n) (Tab.frame _ _ _ _ h1 hb))
  have Hpb := Lib.hid (fun w1 (hb : Below w.heap.size w w1) => spec_PowerMatrix_c (n := n) (Tab.frame _ _ _ _ h2 hb))
  have He0 := Lib.hid (fun w1 v v' (hb : Below w.heap.size w w1) (h : Tab w1 v (ttV a x.1)) (h' : Tab w1 v' (ttV x.1 b)) => spec_EqualMatrix_c h h')
  have He1 := Lib.hid (fun w1 v v' (hb : Below w.heap.size w w1) (h : Tab w1 v (ttV x.2 a)) (h' : Tab w1 v' (ttV b x.2)) => spec_EqualMatrix_c h h')
  have He2 := Lib.hid (fun w1 v v' (hb : Below w.heap.size w w1) (h : Tab w1 v (ttV x.1 x.2)) (h' : Tab w1 v' (pwV a n)) => spec_EqualMatrix_c h h')
  have He3 := Lib.hid (fun w1 v v' (hb : Below w.heap.size w w1) (h : Tab w1 v (ttV x.2 x.1)) (h' : Tab w1 v' (pwV b n)) => spec_EqualMatrix_c h h')
  generalize decide (ttV a x.1 = ttV x.1 b) = d0 at *
  generalize decide (ttV x.2 a = ttV b x.2) = d1 at *
  generalize decide (ttV x.1 x.2 = pwV a n) = d2 at *
  generalize decide (ttV x.2 x.1 = pwV b n) = d3 at *
  generalize ttV a x.1 = z0 at *
  generalize ttV x.1 b = z1 at *
  generalize ttV x.2 a = z2 at *
  generalize ttV b x.2 = z3 at *
  generalize ttV x.1 x.2 = z4 at *
  generalize ttV x.2 x.1 = z5 at *
  generalize pwV a n = z6 at *
  generalize pwV b n = z7 at *
  generalize ttOk a x.1 = k0 at *
  generalize ttOk x.1 b = k1 at *
  generalize ttOk x.2 a = k2 at *
  generalize ttOk b x.2 = k3 at *
  generalize ttOk x.1 x.2 = k4 at *
  generalize ttOk x.2 x.1 = k5 at *
  generalize pwOk a n = k6 at *
  generalize pwOk b n = k7 at *
  generalize isMat a = ma at *
  generalize isMat b = mb at *
  generalize countM x.1 = cr at *
  generalize countM x.2 = cs at *
  obtain ⟨_, _, rfl, _, _, _⟩ := h1.shape
  obtain ⟨_, _, rfl, _, _, _⟩ := h2.shape
  obtain ⟨xa, xc, rfl, _, _, _⟩ := t1.shape
  obtain ⟨ya, yc, rfl, _, _, _⟩ := t2.shape
  clear h1 h2 t1 t2
  go_enter Try.func40, Try.ntmps40
  go_wp2_with fail
  obtain ⟨w1, ex, A0, c0, c1, m1⟩ := boxA_ex w 41 (.slice xa x.1.length xc) (.slice ya x.2.length yc)
  change Calls Try.prog _ _ (w.alloc (.cells #[.slice xa x.1.length xc, .slice ya x.2.length yc] 41)) _
  rw [ex]
  clear ex
  refine (Ha.out _ A0).mono ?_
  rintro e w' ⟨rfl, rfl⟩
  cases ma with
  | false => go_wp2; go_ret; exact ⟨by rw [H.out]; rfl, A0⟩
  | true =>
  go_wp2_with fail
  refine (Hb.out _ A0).mono ?_
  rintro e w' ⟨rfl, rfl⟩
  cases mb with
  | false => go_wp2; go_ret; exact ⟨by rw [H.out]; rfl, A0⟩
  | true =>
  go_wp2_with fail
  refine (Hr.out _ A0).mono ?_
  rintro e w' ⟨rfl, rfl⟩
  cases cr with
  | false => go_wp2; go_ret; exact ⟨by rw [H.out]; rfl, A0⟩
  | true =>
  go_wp2_with fail
  refine (Hs.out _ A0).mono ?_
  rintro e w' ⟨rfl, rfl⟩
  cases cs with
  | false => go_wp2; go_ret; exact ⟨by rw [H.out]; rfl, A0⟩
  | true =>
  go_wp2_with fail
  refine (l1In_c n 1 5 _).mono ?_
  rintro e w' ⟨rfl, rfl⟩
  by_cases hn : 1 ≤ n ∧ n ≤ 5
  rotate_left
  · have HT := Lib.hid (show T = false from by rw [H.out, decide_eq_false hn]; rfl)
    have ht : (decide (1 ≤ n) && decide (n ≤ 5)) = false := by simp; omega
    rw [ht]
    clear H hn ht
    go_wp2; go_ret; exact ⟨by rw [HT.out]; rfl, A0⟩
  have ht : (decide (1 ≤ n) && decide (n ≤ 5)) = true := by simp; omega
  rw [decide_eq_true hn] at H
  rw [ht]
  clear ht hn
  go_wp2_with fail
  refine (Ht0.out _ A0).mono ?_
  rintro e w2 ⟨u2, rfl, hn2, hb2⟩
  replace c0 := (hb2.cell (p := ⟨w.heap.size, 0, none⟩) m1).trans c0
  replace c1 := (hb2.cell (p := ⟨w.heap.size, 1, none⟩) m1).trans c1
  replace m1 := Nat.lt_of_lt_of_le m1 hb2.size
  replace A0 := A0.trans (hb2.mono A0.size)
  have R0 := Lib.hid hn2.tab
  obtain ⟨_, _, _, rfl⟩ := hn2.slice
  clear hb2 hn2
  go_wp2_with fail
  refine (Ht1.out _ A0).mono ?_
  rintro e w3 ⟨u3, rfl, hn3, hb3⟩
  replace c0 := (hb3.cell (p := ⟨w.heap.size, 0, none⟩) m1).trans c0
  replace c1 := (hb3.cell (p := ⟨w.heap.size, 1, none⟩) m1).trans c1
  replace m1 := Nat.lt_of_lt_of_le m1 hb3.size
  replace R0 := Lib.hid (Tab.frame _ _ _ _ R0.out (hb3.mono (Nat.le_refl _)))
  replace A0 := A0.trans (hb3.mono A0.size)
  have R1 := Lib.hid hn3.tab
  obtain ⟨_, _, _, rfl⟩ := hn3.slice
  clear hb3 hn3
  go_wp2_with fail
  refine (Ht2.out _ A0).mono ?_
  rintro e w4 ⟨u4, rfl, hn4, hb4⟩
  replace c0 := (hb4.cell (p := ⟨w.heap.size, 0, none⟩) m1).trans c0
  replace c1 := (hb4.cell (p := ⟨w.heap.size, 1, none⟩) m1).trans c1
  replace m1 := Nat.lt_of_lt_of_le m1 hb4.size
  replace R0 := Lib.hid (Tab.frame _ _ _ _ R0.out (hb4.mono (Nat.le_refl _)))
  replace R1 := Lib.hid (Tab.frame _ _ _ _ R1.out (hb4.mono (Nat.le_refl _)))
  replace A0 := A0.trans (hb4.mono A0.size)
  have R2 := Lib.hid hn4.tab
  obtain ⟨_, _, _, rfl⟩ := hn4.slice
  clear hb4 hn4
  go_wp2_with fail
  refine (Ht3.out _ A0).mono ?_
  rintro e w5 ⟨u5, rfl, hn5, hb5⟩
  replace c0 := (hb5.cell (p := ⟨w.heap.size, 0, none⟩) m1).trans c0
  replace c1 := (hb5.cell (p := ⟨w.heap.size, 1, none⟩) m1).trans c1
  replace m1 := Nat.lt_of_lt_of_le m1 hb5.size
  replace R0 := Lib.hid (Tab.frame _ _ _ _ R0.out (hb5.mono (Nat.le_refl _)))
  replace R1 := Lib.hid (Tab.frame _ _ _ _ R1.out (hb5.mono (Nat.le_refl _)))
  replace R2 := Lib.hid (Tab.frame _ _ _ _ R2.out (hb5.mono (Nat.le_refl _)))
  replace A0 := A0.trans (hb5.mono A0.size)
  have R3 := Lib.hid hn5.tab
  obtain ⟨_, _, _, rfl⟩ := hn5.slice
  clear hb5 hn5
  go_wp2_with fail
  refine (Ht4.out _ A0).mono ?_
  rintro e w6 ⟨u6, rfl, hn6, hb6⟩
  replace c0 := (hb6.cell (p := ⟨w.heap.size, 0, none⟩) m1).trans c0
  replace c1 := (hb6.cell (p := ⟨w.heap.size, 1, none⟩) m1).trans c1
  replace m1 := Nat.lt_of_lt_of_le m1 hb6.size
  replace R0 := Lib.hid (Tab.frame _ _ _ _ R0.out (hb6.mono (Nat.le_refl _)))
  replace R1 := Lib.hid (Tab.frame _ _ _ _ R1.out (hb6.mono (Nat.le_refl _)))
  replace R2 := Lib.hid (Tab.frame _ _ _ _ R2.out (hb6.mono (Nat.le_refl _)))
  replace R3 := Lib.hid (Tab.frame _ _ _ _ R3.out (hb6.mono (Nat.le_refl _)))
  replace A0 := A0.trans (hb6.mono A0.size)
  have R4 := Lib.hid hn6.tab
  obtain ⟨_, _, _, rfl⟩ := hn6.slice
  clear hb6 hn6
  go_wp2_with fail
  refine (Ht5.out _ A0).mono ?_
  rintro e w7 ⟨u7, rfl, hn7, hb7⟩
  replace c0 := (hb7.cell (p := ⟨w.heap.size, 0, none⟩) m1).trans c0
  replace c1 := (hb7.cell (p := ⟨w.heap.size, 1, none⟩) m1).trans c1
  replace m1 := Nat.lt_of_lt_of_le m1 hb7.size
  replace R0 := Lib.hid (Tab.frame _ _ _ _ R0.out (hb7.mono (Nat.le_refl _)))
  replace R1 := Lib.hid (Tab.frame _ _ _ _ R1.out (hb7.mono (Nat.le_refl _)))
  replace R2 := Lib.hid (Tab.frame _ _ _ _ R2.out (hb7.mono (Nat.le_refl _)))
  replace R3 := Lib.hid (Tab.frame _ _ _ _ R3.out (hb7.mono (Nat.le_refl _)))
  replace R4 := Lib.hid (Tab.frame _ _ _ _ R4.out (hb7.mono (Nat.le_refl _)))
  replace A0 := A0.trans (hb7.mono A0.size)
  have R5 := Lib.hid hn7.tab
  obtain ⟨_, _, _, rfl⟩ := hn7.slice
  clear hb7 hn7
  go_wp2_with fail
  refine (Hpa.out _ A0).mono ?_
  rintro e w8 ⟨u8, rfl, hn8, hb8⟩
  replace c0 := (hb8.cell (p := ⟨w.heap.size, 0, none⟩) m1).trans c0
  replace c1 := (hb8.cell (p := ⟨w.heap.size, 1, none⟩) m1).trans c1
  replace m1 := Nat.lt_of_lt_of_le m1 hb8.size
  replace R0 := Lib.hid (Tab.frame _ _ _ _ R0.out (hb8.mono (Nat.le_refl _)))
  replace R1 := Lib.hid (Tab.frame _ _ _ _ R1.out (hb8.mono (Nat.le_refl _)))
  replace R2 := Lib.hid (Tab.frame _ _ _ _ R2.out (hb8.mono (Nat.le_refl _)))
  replace R3 := Lib.hid (Tab.frame _ _ _ _ R3.out (hb8.mono (Nat.le_refl _)))
  replace R4 := Lib.hid (Tab.frame _ _ _ _ R4.out (hb8.mono (Nat.le_refl _)))
  replace R5 := Lib.hid (Tab.frame _ _ _ _ R5.out (hb8.mono (Nat.le_refl _)))
  replace A0 := A0.trans (hb8.mono A0.size)
  have R6 := Lib.hid hn8.tab
  obtain ⟨_, _, _, rfl⟩ := hn8.slice
  clear hb8 hn8
  go_wp2_with fail
  refine (Hpb.out _ A0).mono ?_
  rintro e w9 ⟨u9, rfl, hn9, hb9⟩
  replace c0 := (hb9.cell (p := ⟨w.heap.size, 0, none⟩) m1).trans c0
  replace c1 := (hb9.cell (p := ⟨w.heap.size, 1, none⟩) m1).trans c1
  replace m1 := Nat.lt_of_lt_of_le m1 hb9.size
  replace R0 := Lib.hid (Tab.frame _ _ _ _ R0.out (hb9.mono (Nat.le_refl _)))
  replace R1 := Lib.hid (Tab.frame _ _ _ _ R1.out (hb9.mono (Nat.le_refl _)))
  replace R2 := Lib.hid (Tab.frame _ _ _ _ R2.out (hb9.mono (Nat.le_refl _)))
  replace R3 := Lib.hid (Tab.frame _ _ _ _ R3.out (hb9.mono (Nat.le_refl _)))
  replace R4 := Lib.hid (Tab.frame _ _ _ _ R4.out (hb9.mono (Nat.le_refl _)))
  replace R5 := Lib.hid (Tab.frame _ _ _ _ R5.out (hb9.mono (Nat.le_refl _)))
  replace R6 := Lib.hid (Tab.frame _ _ _ _ R6.out (hb9.mono (Nat.le_refl _)))
  replace A0 := A0.trans (hb9.mono A0.size)
  have R7 := Lib.hid hn9.tab
  obtain ⟨_, _, _, rfl⟩ := hn9.slice
  clear hb9 hn9
  cases k0 with
  | false => go_wp2; go_ret; exact ⟨by rw [H.out]; rfl, A0⟩
  | true =>
  cases k1 with
  | false => go_wp2; go_ret; exact ⟨by rw [H.out]; rfl, A0⟩
  | true =>
  cases k2 with
  | false => go_wp2; go_ret; exact ⟨by rw [H.out]; rfl, A0⟩
  | true =>
  cases k3 with
  | false => go_wp2; go_ret; exact ⟨by rw [H.out]; rfl, A0⟩
  | true =>
  cases k4 with
  | false => go_wp2; go_ret; exact ⟨by rw [H.out]; rfl, A0⟩
  | true =>
  cases k5 with
  | false => go_wp2; go_ret; exact ⟨by rw [H.out]; rfl, A0⟩
  | true =>
  cases k6 with
  | false => go_wp2; go_ret; exact ⟨by rw [H.out]; rfl, A0⟩
  | true =>
  cases k7 with
  | false => go_wp2; go_ret; exact ⟨by rw [H.out]; rfl, A0⟩
  | true =>
  go_wp2_with fail
  refine (He0.out _ _ _ A0 R0.out R1.out).mono ?_
  rintro e w10 ⟨rfl, hd10⟩
  have hb10 := hd10.below w9.heap.size
  replace c0 := (hb10.cell (p := ⟨w.heap.size, 0, none⟩) m1).trans c0
  replace c1 := (hb10.cell (p := ⟨w.heap.size, 1, none⟩) m1).trans c1
  replace m1 := Nat.lt_of_lt_of_le m1 hb10.size
  replace R0 := Lib.hid (Tab.frame _ _ _ _ R0.out (hb10.mono (Nat.le_refl _)))
  replace R1 := Lib.hid (Tab.frame _ _ _ _ R1.out (hb10.mono (Nat.le_refl _)))
  replace R2 := Lib.hid (Tab.frame _ _ _ _ R2.out (hb10.mono (Nat.le_refl _)))
  replace R3 := Lib.hid (Tab.frame _ _ _ _ R3.out (hb10.mono (Nat.le_refl _)))
  replace R4 := Lib.hid (Tab.frame _ _ _ _ R4.out (hb10.mono (Nat.le_refl _)))
  replace R5 := Lib.hid (Tab.frame _ _ _ _ R5.out (hb10.mono (Nat.le_refl _)))
  replace R6 := Lib.hid (Tab.frame _ _ _ _ R6.out (hb10.mono (Nat.le_refl _)))
  replace R7 := Lib.hid (Tab.frame _ _ _ _ R7.out (hb10.mono (Nat.le_refl _)))
  replace A0 := A0.trans (hb10.mono A0.size)
  clear hb10 hd10
  cases d0 with
  | false => go_wp2; go_ret; exact ⟨by rw [H.out]; rfl, A0⟩
  | true =>
  go_wp2_with fail
  refine (He1.out _ _ _ A0 R2.out R3.out).mono ?_
  rintro e w11 ⟨rfl, hd11⟩
  have hb11 := hd11.below w10.heap.size
  replace c0 := (hb11.cell (p := ⟨w.heap.size, 0, none⟩) m1).trans c0
  replace c1 := (hb11.cell (p := ⟨w.heap.size, 1, none⟩) m1).trans c1
  replace m1 := Nat.lt_of_lt_of_le m1 hb11.size
  replace R0 := Lib.hid (Tab.frame _ _ _ _ R0.out (hb11.mono (Nat.le_refl _)))
  replace R1 := Lib.hid (Tab.frame _ _ _ _ R1.out (hb11.mono (Nat.le_refl _)))
  replace R2 := Lib.hid (Tab.frame _ _ _ _ R2.out (hb11.mono (Nat.le_refl _)))
  replace R3 := Lib.hid (Tab.frame _ _ _ _ R3.out (hb11.mono (Nat.le_refl _)))
  replace R4 := Lib.hid (Tab.frame _ _ _ _ R4.out (hb11.mono (Nat.le_refl _)))
  replace R5 := Lib.hid (Tab.frame _ _ _ _ R5.out (hb11.mono (Nat.le_refl _)))
  replace R6 := Lib.hid (Tab.frame _ _ _ _ R6.out (hb11.mono (Nat.le_refl _)))
  replace R7 := Lib.hid (Tab.frame _ _ _ _ R7.out (hb11.mono (Nat.le_refl _)))
  replace A0 := A0.trans (hb11.mono A0.size)
  clear hb11 hd11
  cases d1 with
  | false => go_wp2; go_ret; exact ⟨by rw [H.out]; rfl, A0⟩
  | true =>
  go_wp2_with fail
  refine (He2.out _ _ _ A0 R4.out R6.out).mono ?_
  rintro e w12 ⟨rfl, hd12⟩
  have hb12 := hd12.below w11.heap.size
  replace c0 := (hb12.cell (p := ⟨w.heap.size, 0, none⟩) m1).trans c0
  replace c1 := (hb12.cell (p := ⟨w.heap.size, 1, none⟩) m1).trans c1
  replace m1 := Nat.lt_of_lt_of_le m1 hb12.size
  replace R0 := Lib.hid (Tab.frame _ _ _ _ R0.out (hb12.mono (Nat.le_refl _)))
  replace R1 := Lib.hid (Tab.frame _ _ _ _ R1.out (hb12.mono (Nat.le_refl _)))
  replace R2 := Lib.hid (Tab.frame _ _ _ _ R2.out (hb12.mono (Nat.le_refl _)))
  replace R3 := Lib.hid (Tab.frame _ _ _ _ R3.out (hb12.mono (Nat.le_refl _)))
  replace R4 := Lib.hid (Tab.frame _ _ _ _ R4.out (hb12.mono (Nat.le_refl _)))
  replace R5 := Lib.hid (Tab.frame _ _ _ _ R5.out (hb12.mono (Nat.le_refl _)))
  replace R6 := Lib.hid (Tab.frame _ _ _ _ R6.out (hb12.mono (Nat.le_refl _)))
  replace R7 := Lib.hid (Tab.frame _ _ _ _ R7.out (hb12.mono (Nat.le_refl _)))
  replace A0 := A0.trans (hb12.mono A0.size)
  clear hb12 hd12
  cases d2 with
  | false => go_wp2; go_ret; exact ⟨by rw [H.out]; rfl, A0⟩
  | true =>
  go_wp2_with fail
  refine (He3.out _ _ _ A0 R5.out R7.out).mono ?_
  rintro e w13 ⟨rfl, hd13⟩
  have hb13 := hd13.below w12.heap.size
  replace c0 := (hb13.cell (p := ⟨w.heap.size, 0, none⟩) m1).trans c0
  replace c1 := (hb13.cell (p := ⟨w.heap.size, 1, none⟩) m1).trans c1
  replace m1 := Nat.lt_of_lt_of_le m1 hb13.size
  replace R0 := Lib.hid (Tab.frame _ _ _ _ R0.out (hb13.mono (Nat.le_refl _)))
  replace R1 := Lib.hid (Tab.frame _ _ _ _ R1.out (hb13.mono (Nat.le_refl _)))
  replace R2 := Lib.hid (Tab.frame _ _ _ _ R2.out (hb13.mono (Nat.le_refl _)))
  replace R3 := Lib.hid (Tab.frame _ _ _ _ R3.out (hb13.mono (Nat.le_refl _)))
  replace R4 := Lib.hid (Tab.frame _ _ _ _ R4.out (hb13.mono (Nat.le_refl _)))
  replace R5 := Lib.hid (Tab.frame _ _ _ _ R5.out (hb13.mono (Nat.le_refl _)))
  replace R6 := Lib.hid (Tab.frame _ _ _ _ R6.out (hb13.mono (Nat.le_refl _)))
  replace R7 := Lib.hid (Tab.frame _ _ _ _ R7.out (hb13.mono (Nat.le_refl _)))
  replace A0 := A0.trans (hb13.mono A0.size)
  clear hb13 hd13
  go_wp2
  go_ret
  exact ⟨by rw [H.out]; rfl, A0⟩
end Go.Proofs.Ytlkgkfgpnnahdaa
end

section
/-
  FindLag's model: the first step that is a lag.
-/
namespace Go.Proofs.Ytlkgkfgpnnahdaa
open Go.RowKit Go.Deep Go.Sd

def findVP (P : Tb × Tb → Bool) (a b : Tb) : Option (Tb × Tb) := if findOk a b = true then findR P (tabsN b.length a.length) (tabsN a.length b.length) else none
def lagF (a b : Tb) (n : Int) : Option (Tb × Tb) := if 1 ≤ n ∧ n ≤ 5 then findVP (fun x => lagM a b x n) a b else none
theorem foundP_bd (P : Tb × Tb → Bool) (a b : Tb) : cntStp (found (findVP P a b)) ≤ 1048576 := by
  have h0 : cntStp (([], []) : Tb × Tb) ≤ 1048576 := by decide
  unfold found
  cases hf : findVP P a b with
  | none => exact h0
  | some x =>
    unfold findVP at hf
    by_cases hok : findOk a b = true
    · rw [if_pos hok] at hf
      unfold findOk at hok
      simp only [Bool.and_eq_true, decide_eq_true_eq] at hok
      have h1 := findR_in hf
      obtain ⟨n, hn⟩ := tabsN_mem h1.1
      obtain ⟨m, hm⟩ := tabsN_mem h1.2
      have e1 : cntSS x.1 ≤ 1000 := by
        rw [hn]
        exact Int.le_trans (cntSS_bd (p := 9) (r := 9) (by rw [tabN_len]; omega) (fun r hr => by rw [tabN_row hr]; omega)) (by decide)
      have e2 : cntSS x.2 ≤ 1000 := by
        rw [hm]
        exact Int.le_trans (cntSS_bd (p := 9) (r := 9) (by rw [tabN_len]; omega) (fun r hr => by rw [tabN_row hr]; omega)) (by decide)
      unfold cntStp
      simp only [Option.getD_some]
      omega
    · rw [if_neg hok] at hf
      cases hf
theorem lagF_bd (a b : Tb) (n : Int) : cntStp (found (lagF a b n)) ≤ 1048576 := by
  unfold lagF
  split
  · exact foundP_bd _ a b
  · show cntStp (([], []) : Tb × Tb) ≤ 1048576; decide
theorem isMat_row {a : Tb} (h : isMat a = true) {r : List Int} (hr : r ∈ a) : r.length = a.length ∧ ∀ x, x ∈ r → 0 ≤ x ∧ x ≤ 1000000 := by
  unfold isMat at h
  rw [Bool.and_eq_true] at h
  have h1 := List.all_eq_true.1 h.2 r hr
  by_cases hl : r.length = a.length
  · rw [rowOk_yes hl] at h1
    refine ⟨hl, fun x hx => ?_⟩
    have h2 := List.all_eq_true.1 h1 x hx
    unfold entOk at h2
    exact of_decide_eq_true h2
  · rw [rowOk_no hl] at h1; cases h1
theorem head_mem {a : Tb} (h : 0 < a.length) : a.headD [] ∈ a := by
  cases a with
  | nil => simp at h
  | cons x l => simp
/-- The two products are not the same: no lag. -/
theorem lagM_no {a b : Tb} {x : Nat} (hm : isMat a = true) (hn : isMat b = true) (h : prodT a (tabN x a.length b.length) a.length a.length b.length ≠ prodT (tabN x a.length b.length) b a.length b.length b.length) (s : Tb) (n : Int) :
    lagM a b (tabN x a.length b.length, s) n = false := by
  have hp := isMat_len hm
  have hq := isMat_len hn
  rw [lagM_spec]
  have hb : (b.headD []).length = b.length := (isMat_row hn (head_mem hq.1)).1
  have e : ttOk a (tabN x a.length b.length) = true → ttOk (tabN x a.length b.length) b = true → decide (ttV a (tabN x a.length b.length) = ttV (tabN x a.length b.length) b) = false := by
    intro o1 o2
    unfold ttV
    rw [o1, o2, if_pos rfl, if_pos rfl, tabN_len, tabN_head hp.1, hb]
    exact decide_eq_false h
  cases o1 : ttOk a (tabN x a.length b.length) with
  | false => simp only [Bool.false_and, Bool.and_false]
  | true =>
    cases o2 : ttOk (tabN x a.length b.length) b with
    | false => simp only [Bool.false_and, Bool.and_false]
    | true => simp only [e o1 o2, Bool.false_and, Bool.and_false]
theorem findS_none {P : Tb × Tb → Bool} {r : Tb} : ∀ {l : List Tb}, (∀ s, P (r, s) = false) → findS P r l = none
  | [], _ => rfl
  | s :: l, h => by
    unfold findS
    rw [h s, if_neg (by simp)]
    exact findS_none h
end Go.Proofs.Ytlkgkfgpnnahdaa
end

section
/-
  FindStep, the program's tables.
-/
namespace Go.Proofs.Ytlkgkfgpnnahdaa
open Go.RowKit Go.Deep Go.Sd

theorem infoT' : (Try.prog.info? 24).map (fun i => (i.zero, i.size, i.bytes)) = some (some (.slice none 0 0), 1, 24) := by kernel_rfl
theorem dig_eq {n X : Nat} (hn : n ≤ 81) : (wrap64 ((n : Int) / (X : Int))).tmod 3 = ((n / X % 3 : Nat) : Int) := by
  have h1 : ((n : Int) / (X : Int)) = ((n / X : Nat) : Int) := by push_cast; rfl
  have h2 : n / X ≤ n := Nat.div_le_self _ _
  rw [h1]
  generalize n / X = q at *
  rw [IntWalk.wrap64_in _ ⟨by omega, by omega⟩, Int.tmod_eq_emod_of_nonneg (by omega)]
  omega
set_option maxHeartbeats 400000 in
theorem power_c {w : World} {e : Nat} (he : e ≤ 8) :
    Calls Try.prog 206 #[.int .i64 3, .int .i64 e] w fun x w' => x = .returned (.int .i64 ((3 ^ e : Nat) : Int)) ∧ w = w' := by
  go_enter Try.func206, Try.ntmps206
  go_wp2
  go_loopg [5, 7] e (fun g v i wr => ∃ (k z : Nat), i = .int .i64 k ∧ v = .int .i64 z ∧ k + g = e ∧ Hid (z = 3 ^ k) ∧ w = wr)
  case atStart => exact ⟨0, 1, rfl, rfl, by omega, Lib.hid rfl, rfl⟩
  case round =>
    obtain ⟨k, z, rfl, rfl, hk, hz, rfl⟩ := hrel
    by_cases hlt : k < e
    · have hz1 : z ≤ 6561 := by rw [hz.out]; exact Nat.le_trans (Nat.pow_le_pow_right (by decide) (by omega : k ≤ 8)) (by decide)
      have R := Lib.hid (show z * 3 = 3 ^ (k + 1) from by rw [hz.out, Nat.pow_succ])
      clear hz
      go_wp2
      go_roundg (e - (k + 1))
      case measure => omega
      case rel => exact ⟨k + 1, z * 3, by go_num, by go_num, by omega, R, rfl⟩
    · have E := Lib.hid (show z = 3 ^ e from by rw [hz.out]; congr 1; omega)
      clear hz
      go_wp2
      go_ret
      exact ⟨by rw [E.out]; rfl, rfl⟩
set_option maxHeartbeats 4000000 in
theorem tables_c {w : World} {p r : Nat} (hp0 : 0 < p) (hp : p ≤ 2) (hr0 : 0 < r) (hr : r ≤ 2) :
    Calls Try.prog 169 #[.int .i64 p, .int .i64 r] w (Makes (OTabs 3 33 24) w (tabsN p r)) := by
  have Hpw := Lib.hid (fun w1 => power_c (w := w1) (e := p * r) (by have := Nat.mul_le_mul hp hr; omega))
  have Hpx := Lib.hid (fun w1 (e : Nat) (he : e ≤ 8) => power_c (w := w1) he)
  have hpr : p * r ≤ 4 := Nat.mul_le_mul hp hr
  obtain ⟨M, hM⟩ : ∃ M, M = 3 ^ (p * r) := ⟨_, rfl⟩
  have hM81 : M ≤ 81 := by rw [hM]; exact Nat.le_trans (Nat.pow_le_pow_right (by decide) hpr) (by decide)
  have HT := Lib.hid (show tabsN p r = ((List.range M).map fun n => tabN n p r) from by rw [hM]; rfl)
  have hprI : ((p : Int) * (r : Int)) = ((p * r : Nat) : Int) := by push_cast; rfl
  have HprI := Lib.hid hprI
  rw [← hM] at Hpw
  clear hM hprI
  generalize tabsN p r = V at HT ⊢
  go_enter Try.func169, Try.ntmps169
  have hm0 : (p : Int) * (r : Int) ≤ 4 := by rw [HprI.out]; omega
  have hm1 : 0 ≤ (p : Int) * (r : Int) := by rw [HprI.out]; omega
  go_wp2_with fail
  rw [HprI.out]
  refine (Hpw.out _).mono ?_
  rintro e w' ⟨rfl, rfl⟩
  go_wp2
  go_loopg [5, 16] M (fun g v ii wr => ∃ (n : Nat), ii = .int .i64 n ∧ n + g = M ∧ Hid (New (OTabs 3 33 24) w.heap.size wr v ((List.range n).map fun n => tabN n p r)) ∧ Hid (Below w.heap.size w wr))
  case atStart => exact ⟨0, rfl, by omega, Lib.hid (New.empty w (Nat.le_refl _)), Lib.hid ((Below.refl _ _).alloc (Nat.le_refl _) _)⟩
  case round =>
    obtain ⟨n, rfl, hn, hnew, hbel⟩ := hrel
    obtain ⟨wo, rfl⟩ : ∃ x, x = wr := ⟨_, rfl⟩
    have hle := hbel.out.size
    by_cases hlt : n < M
    · have HTn := Lib.hid (show (List.range (n + 1)).map (fun n => tabN n p r) = (List.range n).map (fun n => tabN n p r) ++ [tabN n p r] from by rw [List.range_succ, List.map_append]; rfl)
      have Hlen := Lib.hid (show ((List.range n).map fun n => tabN n p r).length = n from by simp)
      have hnM : (n : Int) < (M : Int) := by omega
      go_wp2
      go_loopg [7, 21] p (fun g v ii wr => ∃ (i : Nat), ii = .int .i64 i ∧ i + g = p ∧ Hid (New (OTab 3 33) wo.heap.size wr v ((tabN n p r).take i)) ∧ Hid (Below wo.heap.size wo wr))
      case atStart => exact ⟨0, rfl, by omega, Lib.hid (New.empty wo (Nat.le_refl _)), Lib.hid ((Below.refl _ _).alloc (Nat.le_refl _) _)⟩
      case round =>
        obtain ⟨i, rfl, hi, hni, hbi⟩ := hrel
        obtain ⟨wi, rfl⟩ : ∃ x, x = wr := ⟨_, rfl⟩
        have hle2 := hbi.out.size
        by_cases hlt2 : i < p
        · have hip : (i : Int) < (p : Int) := by omega
          have HTi := Lib.hid (show (tabN n p r).take (i + 1) = (tabN n p r).take i ++ [rowOf' r (fun j => dig n (p * r - 1 - i * r - j))] from (tabOf_take hlt2).symm)
          have Hleni := Lib.hid (show ((tabN n p r).take i).length = i from by rw [List.length_take, tabN_len]; omega)
          have hir0 : 0 ≤ (i : Int) * (r : Int) := Int.mul_nonneg (by omega) (by omega)
          have hir1 : (i : Int) * (r : Int) ≤ 4 := by
            have h1 : i * r ≤ 2 * 2 := Nat.mul_le_mul (by omega) hr
            have h2 : ((i * r : Nat) : Int) = (i : Int) * (r : Int) := by push_cast; rfl
            omega
          have HE := Lib.hid (fun j (hj : j < r) => (show (p : Int) * (r : Int) - 1 - (i : Int) * (r : Int) - (j : Int) = ((p * r - 1 - i * r - j : Nat) : Int) from by
            have h1 := idx_lt hlt2 hj
            have h2 : ((i * r : Nat) : Int) = (i : Int) * (r : Int) := by push_cast; rfl
            have h3 := HprI.out
            omega))
          go_wp2
          go_loopg [9, 26] r (fun g v ii wr => ∃ (j : Nat), ii = .int .i64 j ∧ j + g = r ∧ Hid (New (OInts 3) wi.heap.size wr v ((rowOf' r (fun j => dig n (p * r - 1 - i * r - j))).take j)) ∧ Hid (Below wi.heap.size wi wr))
          case atStart => exact ⟨0, rfl, by omega, Lib.hid (New.empty wi (Nat.le_refl _)), Lib.hid ((Below.refl _ _).alloc (Nat.le_refl _) _)⟩
          case round =>
            obtain ⟨j, rfl, hj, hnj, hbj⟩ := hrel
            obtain ⟨wj, rfl⟩ : ∃ x, x = wr := ⟨_, rfl⟩
            have hle3 := hbj.out.size
            by_cases hlt3 : j < r
            · have hjr : (j : Int) < (r : Int) := by omega
              have HTj := Lib.hid (show (rowOf' r (fun j => dig n (p * r - 1 - i * r - j))).take (j + 1) = (rowOf' r (fun j => dig n (p * r - 1 - i * r - j))).take j ++ [dig n (p * r - 1 - i * r - j)] from (rowOf_take hlt3).symm)
              have Hlenj := Lib.hid (show ((rowOf' r (fun j => dig n (p * r - 1 - i * r - j))).take j).length = j from by rw [List.length_take, rowOf_len]; omega)
              have HEj := Lib.hid (HE.out j hlt3)
              have Hpe := Lib.hid (fun w1 => Hpx.out w1 (p * r - 1 - i * r - j) (by omega))
              have HD := Lib.hid (show dig n (p * r - 1 - i * r - j) = (((n / 3 ^ (p * r - 1 - i * r - j) % 3 : Nat)) : Int) from rfl)
              have hd0 := dig_bd n (p * r - 1 - i * r - j)
              have hX : 0 < 3 ^ (p * r - 1 - i * r - j) := Nat.pow_pos (by decide)
              have hX2 : 3 ^ (p * r - 1 - i * r - j) ≤ 81 := Nat.le_trans (Nat.pow_le_pow_right (by decide) (by omega : p * r - 1 - i * r - j ≤ 4)) (by decide)
              have HDD := Lib.hid (show (wrap64 ((n : Int) / ((3 ^ (p * r - 1 - i * r - j) : Nat) : Int))).tmod 3 = dig n (p * r - 1 - i * r - j) from dig_eq (by omega))
              generalize 3 ^ (p * r - 1 - i * r - j) = X at *
              generalize dig n (p * r - 1 - i * r - j) = D at *
              go_wp2_with fail
              rw [HEj.out]
              refine (Hpe.out _).mono ?_
              rintro e w' ⟨rfl, rfl⟩
              go_wp2_with (first
                | (at_builtin; refine wpl_push (w0 := wj) (lo := wi.heap.size) (y := D) OIntR.kept rfl (.tmp 29) (.tmp 44) 33 rfl 3 (.int .i64 0) 8 Try.underlying33 infoI rfl hnj.out hle3 ((Below.refl _ _).alloc (Nat.le_refl _) _) ⟨[], ⟨rfl, rfl⟩, by simp [Fresh]⟩ (bb := wj.heap.size) (c := 1) (by simp; exact HDD.out) rfl rfl (by rw [Hlenj.out]; omega) (by rw [Hlenj.out]; omega) ?_; intro v3 w3 hn3 _ _ hb3; have Hn3 := Lib.hid hn3; have Hb3 := Lib.hid hb3; clear hn3 hb3)
                | fail)
              have R1 := Lib.hid (show New (OInts 3) wi.heap.size w3 v3 ((rowOf' r (fun j => dig n (p * r - 1 - i * r - j))).take (j + 1)) from by rw [HTj.out]; exact Hn3.out)
              have R2 := Lib.hid (hbj.out.trans Hb3.out)
              clear hnj hbj Hn3 Hb3
              go_roundg (r - (j + 1))
              case measure => omega
              case rel => exact ⟨j + 1, by go_num, by omega, R1, R2⟩
            · have e : j = r := by omega
              subst e
              have Hr := Lib.hid (show New (OInts 3) wi.heap.size wj _ (rowOf' j (fun j' => dig n (p * j - 1 - i * j - j'))) from by have h := hnj.out; rw [rowOf_full] at h; exact h)
              clear hnj
              obtain ⟨_, _, _, rfl⟩ := Hr.out.slice
              go_wp2_with (first
                | (at_builtin; refine wpl_push (w0 := wi) (lo := wo.heap.size) (OInts.kept _) rfl (.tmp 47) (.tmp 49) 24 rfl 33 (.slice none 0 0) 24 Try.underlying24 infoR rfl hni.out hle2 (hbj.out.alloc hle3 _) (New.keep (OInts.kept _) Hr.out ((Below.refl wj.heap.size _).alloc (Nat.le_refl _) _) (Nat.le_refl _)) (bb := wj.heap.size) (c := 1) (by simp) rfl rfl (by rw [Hleni.out]; omega) (by rw [Hleni.out]; omega) ?_; intro v3 w3 hn3 _ _ hb3; have Hn3 := Lib.hid hn3; have Hb3 := Lib.hid hb3; clear hn3 hb3)
                | fail)
              have R1 := Lib.hid (show New (OTab 3 33) wo.heap.size w3 v3 ((tabN n p j).take (i + 1)) from by rw [HTi.out]; exact Hn3.out)
              have R2 := Lib.hid (hbi.out.trans Hb3.out)
              clear hni hbi Hn3 Hb3 hbj Hr
              go_roundg (p - (i + 1))
              case measure => omega
              case rel => exact ⟨i + 1, by go_num, by omega, R1, R2⟩
        · have e : i = p := by omega
          subst e
          have Hr := Lib.hid (show New (OTab 3 33) wo.heap.size wi _ (tabN n i r) from by have h := hni.out; unfold tabN at h; rw [tabOf_full] at h; exact h)
          clear hni
          obtain ⟨_, _, _, rfl⟩ := Hr.out.slice
          go_wp2_with (first
            | (at_builtin; refine wpl_push (w0 := wo) (lo := w.heap.size) (OTab.kept _ _) rfl (.tmp 52) (.tmp 54) 49 rfl 24 (.slice none 0 0) 24 Try.underlying49 infoT' rfl hnew.out hle (hbi.out.alloc hle2 _) (New.keep (OTab.kept _ _) Hr.out ((Below.refl wi.heap.size _).alloc (Nat.le_refl _) _) (Nat.le_refl _)) (bb := wi.heap.size) (c := 1) (by simp) rfl rfl (by rw [Hlen.out]; omega) (by rw [Hlen.out]; omega) ?_; intro v3 w3 hn3 _ _ hb3; have Hn3 := Lib.hid hn3; have Hb3 := Lib.hid hb3; clear hn3 hb3)
            | fail)
          have R1 := Lib.hid (show New (OTabs 3 33 24) w.heap.size w3 v3 ((List.range (n + 1)).map fun n => tabN n i r) from by rw [HTn.out]; exact Hn3.out)
          have R2 := Lib.hid (hbel.out.trans Hb3.out)
          clear hnew hbel Hn3 Hb3 hbi Hr
          go_roundg (M - (n + 1))
          case measure => omega
          case rel => exact ⟨n + 1, by go_num, by omega, R1, R2⟩
    · have e : n = M := by omega
      subst e
      have HF := Lib.hid (show New (OTabs 3 33 24) w.heap.size wo _ V from by rw [HT.out]; exact hnew.out)
      clear hnew
      go_wp2
      go_ret
      exact ⟨_, rfl, HF.out, hbel.out⟩
end Go.Proofs.Ytlkgkfgpnnahdaa
end

section
/-
  FindLag, the program's.
-/
namespace Go.Proofs.Ytlkgkfgpnnahdaa
open Go.RowKit Go.Deep Go.Sd

def lagP (a b : Tb) (n : Int) (x : Tb × Tb) : Bool := lagM a b x n
set_option maxHeartbeats 1000000 in
theorem lagclo_c {w : World} {Ba Bb Bn : Nat} {va vb vx : Value} {a b : Tb} {n : Int} {x : Tb × Tb} (hA : w.cell? ⟨Ba, 0, none⟩ = some va) (hB : w.cell? ⟨Bb, 0, none⟩ = some vb) (hN : w.cell? ⟨Bn, 0, none⟩ = some (.int .i64 n)) (hla : Ba < w.heap.size) (hlb : Bb < w.heap.size) (hln : Bn < w.heap.size) (h1 : Tab w va a) (h2 : Tab w vb b) (h3 : StepR w vx x) :
    Calls Try.prog 111 #[vx, .pointer (some ⟨Ba, 0, none⟩), .pointer (some ⟨Bb, 0, none⟩), .pointer (some ⟨Bn, 0, none⟩)] w fun e w' => e = .returned (.bool (lagP a b n x)) ∧ Below w.heap.size w w' := by
  have HI := Lib.hid (fun w1 (hb : Below w.heap.size w w1) => impl_IsLag_c (n := n) (Tab.frame _ _ _ _ h1 hb) (Tab.frame _ _ _ _ h2 hb) (StepR.frame _ _ _ _ h3 hb))
  obtain ⟨xa, xn, xc, ya, yn, yc, rfl⟩ := h3.slices
  obtain ⟨_, _, rfl, _, _, _⟩ := h1.shape
  obtain ⟨_, _, rfl, _, _, _⟩ := h2.shape
  clear h1 h2 h3
  change Hid (∀ w1, Below w.heap.size w w1 → Calls Try.prog 32 #[_, _, _, .int .i64 n] w1 fun e w' => e = .returned (.bool (lagP a b n x)) ∧ Below w1.heap.size w1 w') at HI
  generalize lagP a b n x = T at HI ⊢
  obtain ⟨w1, ex, A0, c0, c1, m1⟩ := boxA_ex w 41 (.slice xa xn xc) (.slice ya yn yc)
  have hA1 := (A0.cell (p := ⟨Ba, 0, none⟩) hla).trans hA
  have hB1 := (A0.cell (p := ⟨Bb, 0, none⟩) hlb).trans hB
  have hN1 := (A0.cell (p := ⟨Bn, 0, none⟩) hln).trans hN
  go_enter Try.func111, Try.ntmps111
  go_wp2_with fail
  refine (HI.out _ A0).mono ?_
  rintro e w2 ⟨rfl, hb2⟩
  have HZ := Lib.hid (A0.trans (hb2.mono A0.size))
  clear hb2
  go_wp2
  go_ret
  exact ⟨rfl, HZ.out⟩
set_option maxHeartbeats 4000000 in
set_option maxRecDepth 10000 in
theorem findStepL_c {w : World} {Ba Bb Bn : Nat} {va vb : Value} {a b : Tb} {n : Int} (hA : w.cell? ⟨Ba, 0, none⟩ = some va) (hB : w.cell? ⟨Bb, 0, none⟩ = some vb) (hN : w.cell? ⟨Bn, 0, none⟩ = some (.int .i64 n)) (hla : Ba < w.heap.size) (hlb : Bb < w.heap.size) (hln : Bn < w.heap.size) (h1 : Tab w va a) (h2 : Tab w vb b) :
    Calls Try.prog 110 #[va, vb, .func (.func 111) #[] #[.pointer (some ⟨Ba, 0, none⟩), .pointer (some ⟨Bb, 0, none⟩), .pointer (some ⟨Bn, 0, none⟩)]] w (Makes2 (OStep 3 33) w (found (findVP (lagP a b n) a b)) (findVP (lagP a b n) a b).isSome) := by
  have HC := Lib.hid (fun w1 (hb : Below w.heap.size w w1) vx x (h3 : StepR w1 vx x) => lagclo_c ((hb.cell (p := ⟨Ba, 0, none⟩) hla).trans hA) ((hb.cell (p := ⟨Bb, 0, none⟩) hlb).trans hB) ((hb.cell (p := ⟨Bn, 0, none⟩) hln).trans hN) (Nat.lt_of_lt_of_le hla hb.size) (Nat.lt_of_lt_of_le hlb hb.size) (Nat.lt_of_lt_of_le hln hb.size) (Tab.frame _ _ _ _ h1 hb) (Tab.frame _ _ _ _ h2 hb) h3)
  have HV := Lib.hid (show findVP (lagP a b n) a b = if (isMat a && (isMat b && (decide (a.length ≤ 2) && decide (b.length ≤ 2)))) = true then findR (lagP a b n) (tabsN b.length a.length) (tabsN a.length b.length) else none from rfl)
  have Hl1 := Lib.hid (fun (hm : isMat a = true) => isMat_len hm)
  have Hl2 := Lib.hid (fun (hm : isMat b = true) => isMat_len hm)
  have HM1 := Lib.hid (fun w1 (hb : Below w.heap.size w w1) => impl_IsMatrix_c (Tab.frame _ _ _ _ h1 hb))
  have HM2 := Lib.hid (fun w1 (hb : Below w.heap.size w w1) => impl_IsMatrix_c (Tab.frame _ _ _ _ h2 hb))
  generalize findVP (lagP a b n) a b = V at HV ⊢
  generalize lagP a b n = P at HV HC
  generalize hma : isMat a = ma at *
  generalize hmb : isMat b = mb at *
  clear hma hmb hA hB hN hla hlb hln
  obtain ⟨_, _, rfl, _, _, _⟩ := h1.shape
  obtain ⟨_, _, rfl, _, _, _⟩ := h2.shape
  clear h1 h2
  generalize hp : a.length = p at *
  generalize hq : b.length = q at *
  clear hp hq
  go_enter Try.func110, Try.ntmps110
  go_wp2_with fail
  have fz0 : (w.alloc (.cells #[.slice none 0 0, .slice none 0 0] 41)).frozen? ⟨w.heap.size, 0, none⟩ = false := by simp [go_sem]
  have fz1 : (w.alloc (.cells #[.slice none 0 0, .slice none 0 0] 41)).frozen? ⟨w.heap.size, 1, none⟩ = false := by simp [go_sem]
  obtain ⟨w0, ex, A0, c0, c1, m1⟩ := boxA_ex w 41 (.slice none 0 0) (.slice none 0 0)
  rw [ex] at fz0 fz1
  change Calls Try.prog _ _ (w.alloc (.cells #[.slice none 0 0, .slice none 0 0] 41)) _
  rw [ex]
  clear ex
  refine (HM1.out _ A0).mono ?_
  rintro e w' ⟨rfl, rfl⟩
  cases ma with
  | false =>
    have HK := Lib.hid (show V = none from by rw [HV.out]; rfl)
    clear HV Hl1 Hl2 HM1 HM2
    go_wp2
    have r0 := World.cell?_setCell_same w0 _ (.slice none 0 0) c0
    have s1 : ((w0.setCell ⟨w.heap.size, 0, none⟩ (.slice none 0 0)).cell? ⟨w.heap.size, 1, none⟩) = some (.slice none 0 0) := (World.cell?_setCell_other _ _ _ _ (by simp)).trans c1
    have r1 := World.cell?_setCell_same _ _ (.slice none 0 0) s1
    refine bodyPost_ret (v := .tuple #[.agg #[.slice none 0 0, .slice none 0 0], .bool false]) (by simp [results, Try.results110, go_sem, r0, r1]) rfl ?_
    exact ⟨_, by rw [HK.out]; rfl, by rw [HK.out]; exact New.none2 (by simp; have := (A0).size; omega), ((A0).setCell (p := ⟨w.heap.size, 0, none⟩) (Nat.le_refl _) _).setCell (p := ⟨w.heap.size, 1, none⟩) (Nat.le_refl _) _⟩
  | true =>
  go_wp2_with fail
  refine (HM2.out _ A0).mono ?_
  rintro e w' ⟨rfl, rfl⟩
  cases mb with
  | false =>
    have HK := Lib.hid (show V = none from by rw [HV.out]; rfl)
    clear HV Hl1 Hl2 HM1 HM2
    go_wp2
    have r0 := World.cell?_setCell_same w0 _ (.slice none 0 0) c0
    have s1 : ((w0.setCell ⟨w.heap.size, 0, none⟩ (.slice none 0 0)).cell? ⟨w.heap.size, 1, none⟩) = some (.slice none 0 0) := (World.cell?_setCell_other _ _ _ _ (by simp)).trans c1
    have r1 := World.cell?_setCell_same _ _ (.slice none 0 0) s1
    refine bodyPost_ret (v := .tuple #[.agg #[.slice none 0 0, .slice none 0 0], .bool false]) (by simp [results, Try.results110, go_sem, r0, r1]) rfl ?_
    exact ⟨_, by rw [HK.out]; rfl, by rw [HK.out]; exact New.none2 (by simp; have := (A0).size; omega), ((A0).setCell (p := ⟨w.heap.size, 0, none⟩) (Nat.le_refl _) _).setCell (p := ⟨w.heap.size, 1, none⟩) (Nat.le_refl _) _⟩
  | true =>
  by_cases hp2 : p ≤ 2
  rotate_left
  · have HK := Lib.hid (show V = none from by rw [HV.out, decide_eq_false hp2]; rfl)
    have hp2' : 2 < p := by omega
    clear HV Hl1 Hl2 HM1 HM2
    go_wp2
    have r0 := World.cell?_setCell_same w0 _ (.slice none 0 0) c0
    have s1 : ((w0.setCell ⟨w.heap.size, 0, none⟩ (.slice none 0 0)).cell? ⟨w.heap.size, 1, none⟩) = some (.slice none 0 0) := (World.cell?_setCell_other _ _ _ _ (by simp)).trans c1
    have r1 := World.cell?_setCell_same _ _ (.slice none 0 0) s1
    refine bodyPost_ret (v := .tuple #[.agg #[.slice none 0 0, .slice none 0 0], .bool false]) (by simp [results, Try.results110, go_sem, r0, r1]) rfl ?_
    exact ⟨_, by rw [HK.out]; rfl, by rw [HK.out]; exact New.none2 (by simp; have := (A0).size; omega), ((A0).setCell (p := ⟨w.heap.size, 0, none⟩) (Nat.le_refl _) _).setCell (p := ⟨w.heap.size, 1, none⟩) (Nat.le_refl _) _⟩
  by_cases hq2 : q ≤ 2
  rotate_left
  · have HK := Lib.hid (show V = none from by rw [HV.out, decide_eq_false hq2, Bool.and_false]; rfl)
    have hq2' : 2 < q := by omega
    clear HV Hl1 Hl2 HM1 HM2
    go_wp2
    have r0 := World.cell?_setCell_same w0 _ (.slice none 0 0) c0
    have s1 : ((w0.setCell ⟨w.heap.size, 0, none⟩ (.slice none 0 0)).cell? ⟨w.heap.size, 1, none⟩) = some (.slice none 0 0) := (World.cell?_setCell_other _ _ _ _ (by simp)).trans c1
    have r1 := World.cell?_setCell_same _ _ (.slice none 0 0) s1
    refine bodyPost_ret (v := .tuple #[.agg #[.slice none 0 0, .slice none 0 0], .bool false]) (by simp [results, Try.results110, go_sem, r0, r1]) rfl ?_
    exact ⟨_, by rw [HK.out]; rfl, by rw [HK.out]; exact New.none2 (by simp; have := (A0).size; omega), ((A0).setCell (p := ⟨w.heap.size, 0, none⟩) (Nat.le_refl _) _).setCell (p := ⟨w.heap.size, 1, none⟩) (Nat.le_refl _) _⟩
  have hp0 := (Hl1.out (by first | rfl | trivial)).1
  have hq0 := (Hl2.out (by first | rfl | trivial)).1
  have HVV := Lib.hid (show V = findR P (tabsN q p) (tabsN p q) from by rw [HV.out, decide_eq_true hp2, decide_eq_true hq2]; rfl)
  clear HV Hl1 Hl2 HM1 HM2
  have hpq : p * q ≤ 4 := Nat.mul_le_mul hp2 hq2
  obtain ⟨M, hM⟩ : ∃ M, M = 3 ^ (p * q) := ⟨_, rfl⟩
  have hM0 : 0 < M := by rw [hM]; exact Nat.pow_pos (by decide)
  have hM81 : M ≤ 81 := by rw [hM]; exact Nat.le_trans (Nat.pow_le_pow_right (by decide) hpq) (by decide)
  have Ht1 := Lib.hid (tables_c (w := w0) hq0 hq2 hp0 hp2)
  have Ht2 := Lib.hid (fun w1 => tables_c (w := w1) hp0 hp2 hq0 hq2)
  have hrl : (tabsN p q).length = M := by rw [hM]; simp [tabsN]
  have hsl : (tabsN q p).length = M := by rw [hM, Nat.mul_comm p q]; simp [tabsN]
  generalize tabsN p q = rs at *
  generalize tabsN q p = ss at *
  have HV0 := Lib.hid (show V = findR P ss (rs.drop 0) from HVV.out)
  have Hrl := Lib.hid hrl
  have Hsl := Lib.hid hsl
  have A0' := Lib.hid A0
  clear hM HVV hrl hsl A0
  go_wp2_with fail
  refine Ht1.out.mono ?_
  rintro e w1 ⟨vs, rfl, hn1, hb1⟩
  have Hn1 := Lib.hid hn1
  have Hb1 := Lib.hid hb1
  have hz1 := hb1.size
  obtain ⟨sb, sc, _, hvs, hsc, _, hsb, _⟩ := New.at (OTab.kept _ _) hn1 (List.getElem?_eq_getElem (show 0 < ss.length from by rw [Hsl.out]; exact hM0))
  subst hvs
  rw [Hsl.out] at Hn1 hsc ⊢
  clear hn1 hb1 Ht1
  go_wp2_with fail
  refine (Ht2.out _).mono ?_
  rintro e w2 ⟨vr, rfl, hn2, hb2⟩
  have Hn2 := Lib.hid hn2
  have hz2 := hb2.size
  obtain ⟨rb, rc, _, hvr, hrc, _, hrb, _⟩ := New.at (OTab.kept _ _) hn2 (List.getElem?_eq_getElem (show 0 < rs.length from by rw [Hrl.out]; exact hM0))
  subst hvr
  rw [Hrl.out] at Hn2 hrc ⊢
  have Hb12 := Lib.hid hb2
  have Hb2 := Lib.hid (Hb1.out.trans (hb2.mono hz1))
  clear hn2 hb2 Ht2
  have HB2 := Lib.hid (Below.refl w2.heap.size w2)
  go_wp2
  go_loopg [44] M (fun g i wr => ∃ (x : Nat), i = .int .i64 x ∧ x + g = M ∧ Hid (V = findR P ss (rs.drop x)) ∧ Hid (Below w2.heap.size w2 wr))
  case atStart => exact ⟨0, rfl, by omega, HV0, HB2⟩
  case round =>
    obtain ⟨x, rfl, hx, HVx, hbx⟩ := hrel
    clear HV0 HB2
    obtain ⟨wx, rfl⟩ : ∃ y, y = wr := ⟨_, rfl⟩
    have hzx := hbx.out.size
    by_cases hltx : x < M
    · obtain ⟨r, hr, hd⟩ := at_lt (xs := rs) (k := x) (by rw [Hrl.out]; exact hltx)
      obtain ⟨rb', _, ur, hv, _, _, _, hcr, _, hnr, _⟩ := New.at (OTab.kept _ _) Hn2.out hr
      obtain rfl : rb' = rb := by simp at hv; exact hv.1.symm
      have HVy0 := Lib.hid (show V = (match findS P r (ss.drop 0) with | some x => some x | none => findR P ss (rs.drop (x + 1))) from by rw [HVx.out, hd]; rfl)
      have hcr1 := (hbx.out.cell (p := ⟨rb', x, none⟩) hrb).trans hcr
      obtain ⟨ra, rn, rcc, rfl⟩ := hnr.slice
      have Hnr := Lib.hid hnr
      have hxI : (x : Int) < (M : Int) := by omega
      clear hr hd hv hcr hnr HVx
      have HBx := Lib.hid (Below.refl wx.heap.size wx)
      go_wp2
      go_loopg [50] M (fun g i wr => ∃ (y : Nat), i = .int .i64 y ∧ y + g = M ∧ Hid (V = (match findS P r (ss.drop y) with | some x => some x | none => findR P ss (rs.drop (x + 1)))) ∧ Hid (Below wx.heap.size wx wr))
      case atStart => exact ⟨0, rfl, by omega, HVy0, HBx⟩
      case round =>
        obtain ⟨y, rfl, hy, HVy, hby⟩ := hrel
        clear HVy0 HBx
        obtain ⟨wy, rfl⟩ : ∃ y, y = wr := ⟨_, rfl⟩
        have hzy := hby.out.size
        by_cases hlty : y < M
        · obtain ⟨s, hs, hd⟩ := at_lt (xs := ss) (k := y) (by rw [Hsl.out]; exact hlty)
          obtain ⟨sb', _, us, hv, _, _, _, hcs, _, hns, _⟩ := New.at (OTab.kept _ _) Hn1.out hs
          obtain rfl : sb' = sb := by simp at hv; exact hv.1.symm
          have HVs := Lib.hid (show V = (match (if P (r, s) = true then some (r, s) else findS P r (ss.drop (y + 1))) with | some x => some x | none => findR P ss (rs.drop (x + 1))) from by rw [HVy.out, hd]; rfl)
          have hb1y := (Hb12.out.trans (hbx.out.mono hz2)).trans (hby.out.mono (Nat.le_trans hz2 hzx))
          have hcs1 := (hb1y.cell (p := ⟨sb', y, none⟩) hsb).trans hcs
          obtain ⟨sa, sn, scc, rfl⟩ := hns.slice
          have HP := Lib.hid (New.pair' (lo := w0.heap.size) hns Hnr.out Hb12.out hz1)
          have hb2y := hbx.out.trans (hby.out.mono hzx)
          have HPy := Lib.hid (((HP.out.inn OStep.held).keep OStep.held hb2y (Nat.le_refl _)).new)
          have Hb0y := Lib.hid (Hb2.out.trans (hb2y.mono (Nat.le_trans hz1 hz2)))
          have hyI : (y : Int) < (M : Int) := by omega
          obtain ⟨w4, ex, hb4, q0, q1, n4⟩ := boxA_ex wy 41 (.slice ra rn rcc) (.slice sa sn scc)
          have Hb4 := Lib.hid hb4
          have hz4 := hb4.size
          have Hby4 := Lib.hid (hby.out.trans (hb4.mono hzy))
          have Hb04 := Lib.hid (Hb0y.out.trans (hb4.mono Hb0y.out.size))
          have hst := StepR.frame _ _ _ _ HPy.out.stp hb4
          have HCC := Lib.hid (HC.out w4 (A0'.out.trans (Hb04.out.mono A0'.out.size)) _ _ hst)
          clear hs hd hv hcs hns HVy hb1y hb2y hb4 hst
          generalize P (r, s) = d at HCC HVs
          go_wp2_with fail
          refine HCC.out.mono ?_
          rintro e w5 ⟨rfl, hb5⟩
          clear ex
          replace q0 := (hb5.cell (p := ⟨wy.heap.size, 0, none⟩) n4).trans q0
          replace q1 := (hb5.cell (p := ⟨wy.heap.size, 1, none⟩) n4).trans q1
          cases d with
          | false =>
            have HN := Lib.hid (show V = (match findS P r (ss.drop (y + 1)) with | some x => some x | none => findR P ss (rs.drop (x + 1))) from by rw [HVs.out]; rfl)
            have HR := Lib.hid (Hby4.out.trans (hb5.mono (Nat.le_trans hzy hz4)))
            clear HVs HP HPy Hb0y Hb4 Hby4 Hb04 HCC hb5 q0 q1 hcs1
            go_wp2
            go_roundg (M - (y + 1))
            case measure => omega
            case rel => exact ⟨y + 1, by go_num, by omega, HN, HR⟩
          | true =>
            have HN := Lib.hid (show V = some (r, s) from by rw [HVs.out]; rfl)
            have hb8 := Hb04.out.trans (hb5.mono Hb04.out.size)
            replace c0 := (hb8.cell (p := ⟨w.heap.size, 0, none⟩) m1).trans c0
            replace c1 := (hb8.cell (p := ⟨w.heap.size, 1, none⟩) m1).trans c1
            replace fz0 := (hb8.frozen (p := ⟨w.heap.size, 0, none⟩) m1).trans fz0
            replace fz1 := (hb8.frozen (p := ⟨w.heap.size, 1, none⟩) m1).trans fz1
            have HPP := Lib.hid (((HPy.out.inn OStep.held).keep OStep.held (Hb4.out.trans (hb5.mono hz4)) (Nat.le_refl _)).new)
            have HA := Lib.hid (A0'.out.trans (hb8.mono A0'.out.size))
            clear HVs HP HPy Hb0y Hb4 Hby4 Hb04 HCC hb5 hb8 hcs1
            go_wp2
            have r0 := World.cell?_setCell_same w5 _ (.slice ra rn rcc) c0
            have s1 : ((w5.setCell ⟨w.heap.size, 0, none⟩ (.slice ra rn rcc)).cell? ⟨w.heap.size, 1, none⟩) = some (.slice none 0 0) := (World.cell?_setCell_other _ _ _ _ (by simp)).trans c1
            have r1 := World.cell?_setCell_same _ _ (.slice sa sn scc) s1
            refine bodyPost_ret (v := .tuple #[.agg #[.slice ra rn rcc, .slice sa sn scc], .bool true]) (by simp [results, Try.results110, go_sem, r0, r1]) rfl ?_
            exact ⟨_, by rw [HN.out]; rfl, by rw [HN.out]; exact (New.setCell_low OStep.held (New.setCell_low OStep.held HPP.out (show w.heap.size < w0.heap.size from m1) _) (show w.heap.size < w0.heap.size from m1) _).mono (Nat.le_of_lt m1), (HA.out.setCell (p := ⟨w.heap.size, 0, none⟩) (Nat.le_refl _) _).setCell (p := ⟨w.heap.size, 1, none⟩) (Nat.le_refl _) _⟩
        · have HN := Lib.hid (show V = findR P ss (rs.drop (x + 1)) from by rw [HVy.out, List.drop_eq_nil_of_le (by rw [Hsl.out]; omega)]; rfl)
          have HR := Lib.hid (hbx.out.trans (hby.out.mono hzx))
          clear HVy hby
          go_wp2
          go_roundg (M - (x + 1))
          case measure => omega
          case rel => exact ⟨x + 1, by go_num, by omega, HN, HR⟩
    · have HK := Lib.hid (show V = none from by rw [HVx.out, List.drop_eq_nil_of_le (by rw [Hrl.out]; omega)]; rfl)
      clear HVx
      have hb8 := Hb2.out.trans (hbx.out.mono (Nat.le_trans hz1 hz2))
      have Abx := Lib.hid (A0'.out.trans (hb8.mono A0'.out.size))
      replace c0 := (hb8.cell (p := ⟨w.heap.size, 0, none⟩) m1).trans c0
      replace c1 := (hb8.cell (p := ⟨w.heap.size, 1, none⟩) m1).trans c1
      replace fz0 := (hb8.frozen (p := ⟨w.heap.size, 0, none⟩) m1).trans fz0
      replace fz1 := (hb8.frozen (p := ⟨w.heap.size, 1, none⟩) m1).trans fz1
      clear hb8
      go_wp2
      have r0 := World.cell?_setCell_same wx _ (.slice none 0 0) c0
      have s1 : ((wx.setCell ⟨w.heap.size, 0, none⟩ (.slice none 0 0)).cell? ⟨w.heap.size, 1, none⟩) = some (.slice none 0 0) := (World.cell?_setCell_other _ _ _ _ (by simp)).trans c1
      have r1 := World.cell?_setCell_same _ _ (.slice none 0 0) s1
      refine bodyPost_ret (v := .tuple #[.agg #[.slice none 0 0, .slice none 0 0], .bool false]) (by simp [results, Try.results110, go_sem, r0, r1]) rfl ?_
      exact ⟨_, by rw [HK.out]; rfl, by rw [HK.out]; exact New.none2 (by simp; have := (Abx.out).size; omega), ((Abx.out).setCell (p := ⟨w.heap.size, 0, none⟩) (Nat.le_refl _) _).setCell (p := ⟨w.heap.size, 1, none⟩) (Nat.le_refl _) _⟩
set_option maxHeartbeats 2000000 in
theorem impl_FindLag_c {w : World} {va vb : Value} {a b : Tb} {n : Int} (h1 : Tab w va a) (h2 : Tab w vb b) (hn : I64 n) :
    Calls Try.prog 34 #[va, vb, .int .i64 n] w (Makes2 (OStep 3 33) w (found (lagF a b n)) (lagF a b n).isSome) := by
  have hmf : ∀ (fn : Fn) (first cap : Array Value) (w : World), (Instr.makeFunc fn first cap).run Try.prog w = .ok (.func fn first cap) w := fun _ _ _ _ => rfl
  have H1 := Lib.hid (fun w1 (hb : Below w.heap.size w w1) => Tab.frame _ _ _ _ h1 hb)
  have H2 := Lib.hid (fun w1 (hb : Below w.heap.size w w1) => Tab.frame _ _ _ _ h2 hb)
  obtain ⟨aa, ac, rfl, _, _, _⟩ := h1.shape
  obtain ⟨ba, bc, rfl, _, _, _⟩ := h2.shape
  clear h1 h2
  obtain ⟨wA, eA, hA0⟩ : ∃ wA, wA = ((w.alloc (.cells #[.slice aa a.length ac] 24)).alloc (.cells #[.slice ba b.length bc] 24)).alloc (.cells #[.int .i64 n] 3) ∧ Below w.heap.size w wA := ⟨_, rfl, (((Below.refl _ _).alloc (Nat.le_refl _) _).alloc (by simp) _).alloc (by simp <;> omega) _⟩
  obtain ⟨w0, ex, hA1, c0, c1, m1⟩ := boxA_ex wA 41 (.slice none 0 0) (.slice none 0 0)
  have zA : wA.heap.size = w.heap.size + 1 + 1 + 1 := by rw [eA]; simp
  have cA : wA.cell? ⟨w.heap.size, 0, none⟩ = some (.slice aa a.length ac) := by rw [eA]; simp [go_sem]
  have cB : wA.cell? ⟨w.heap.size + 1, 0, none⟩ = some (.slice ba b.length bc) := by rw [eA]; simp [go_sem]
  have cN : wA.cell? ⟨w.heap.size + 1 + 1, 0, none⟩ = some (.int .i64 n) := by rw [eA]; simp [go_sem]
  have fz0 : w0.frozen? ⟨wA.heap.size, 0, none⟩ = false := by rw [← ex]; simp [go_sem]
  have fz1 : w0.frozen? ⟨wA.heap.size, 1, none⟩ = false := by rw [← ex]; simp [go_sem]
  replace cA := (hA1.cell (p := ⟨w.heap.size, 0, none⟩) (show w.heap.size < wA.heap.size by omega)).trans cA
  replace cB := (hA1.cell (p := ⟨w.heap.size + 1, 0, none⟩) (show w.heap.size + 1 < wA.heap.size by omega)).trans cB
  replace cN := (hA1.cell (p := ⟨w.heap.size + 1 + 1, 0, none⟩) (show w.heap.size + 1 + 1 < wA.heap.size by omega)).trans cN
  have hz0 := hA1.size
  have A0 := hA0.trans (hA1.mono hA0.size)
  have HF := Lib.hid (findStepL_c (w := w0) (n := n) cA cB cN (by omega) (by omega) (by omega) (H1.out w0 A0) (H2.out w0 A0))
  have eW : (((w.alloc (.cells #[.slice aa a.length ac] 24)).alloc (.cells #[.slice ba b.length bc] 24)).alloc (.cells #[.int .i64 n] 3)).alloc (.cells #[.slice none 0 0, .slice none 0 0] 41) = w0 := by rw [← eA]; exact ex
  by_cases hin : 1 ≤ n ∧ n ≤ 5
  · have HL := Lib.hid (show lagF a b n = findVP (lagP a b n) a b from by unfold lagF; rw [if_pos hin]; rfl)
    rw [HL.out]
    generalize findVP (lagP a b n) a b = V at HF ⊢
    obtain ⟨hi1, hi2⟩ := hin
    clear HL
    go_enter Try.func34, Try.ntmps34
    go_wp2_with fail
    refine HF.out.mono ?_
    rintro e w2 ⟨v2, rfl, hn2, hb2⟩
    replace c0 := (hb2.cell (p := ⟨wA.heap.size, 0, none⟩) m1).trans c0
    replace c1 := (hb2.cell (p := ⟨wA.heap.size, 1, none⟩) m1).trans c1
    replace fz0 := (hb2.frozen (p := ⟨wA.heap.size, 0, none⟩) m1).trans fz0
    replace fz1 := (hb2.frozen (p := ⟨wA.heap.size, 1, none⟩) m1).trans fz1
    obtain ⟨xa, xn, xc, ya, yn, yc, rfl⟩ := hn2.stp.slices
    have HA := Lib.hid (A0.trans (hb2.mono A0.size))
    have Hn2 := Lib.hid hn2
    clear hn2 hb2 HF H1 H2 cA cB cN eW hmf
    rw [zA] at c0 c1 fz0 fz1 m1
    go_wp2
    have r0 := World.cell?_setCell_same w2 _ (.slice xa xn xc) c0
    have s1 : ((w2.setCell ⟨w.heap.size + 1 + 1 + 1, 0, none⟩ (.slice xa xn xc)).cell? ⟨w.heap.size + 1 + 1 + 1, 1, none⟩) = some (.slice none 0 0) := (World.cell?_setCell_other _ _ _ _ (by simp)).trans c1
    have r1 := World.cell?_setCell_same _ _ (.slice ya yn yc) s1
    refine bodyPost_ret (v := .tuple #[.agg #[.slice xa xn xc, .slice ya yn yc], .bool V.isSome]) (by simp [results, Try.results34, go_sem, r0, r1]) rfl ?_
    exact ⟨_, rfl, (New.setCell_low OStep.held (New.setCell_low OStep.held Hn2.out (show w.heap.size + 1 + 1 + 1 < w0.heap.size from m1) _) (show w.heap.size + 1 + 1 + 1 < w0.heap.size from m1) _).mono (by omega), (HA.out.setCell (p := ⟨w.heap.size + 1 + 1 + 1, 0, none⟩) (show w.heap.size ≤ w.heap.size + 1 + 1 + 1 by omega) _).setCell (p := ⟨w.heap.size + 1 + 1 + 1, 1, none⟩) (show w.heap.size ≤ w.heap.size + 1 + 1 + 1 by omega) _⟩
  · have HL := Lib.hid (show lagF a b n = none from by unfold lagF; rw [if_neg hin])
    rw [HL.out]
    have A0' := Lib.hid A0
    clear HF H1 H2 hA1 hA0 A0
    rw [zA] at c0 c1 fz0 fz1 m1
    have hout : n < 1 ∨ 5 < n := by omega
    rcases hout with ho | ho
    all_goals (
      try (have ho2 : ¬ n < 1 := by omega)
      go_enter Try.func34, Try.ntmps34
      go_wp2
      have r0 := World.cell?_setCell_same w0 _ (.slice none 0 0) c0
      have s1 : ((w0.setCell ⟨w.heap.size + 1 + 1 + 1, 0, none⟩ (.slice none 0 0)).cell? ⟨w.heap.size + 1 + 1 + 1, 1, none⟩) = some (.slice none 0 0) := (World.cell?_setCell_other _ _ _ _ (by simp)).trans c1
      have r1 := World.cell?_setCell_same _ _ (.slice none 0 0) s1
      refine bodyPost_ret (v := .tuple #[.agg #[.slice none 0 0, .slice none 0 0], .bool false]) (by simp [results, Try.results34, go_sem, r0, r1]) rfl ?_
      exact ⟨_, rfl, New.none2 (by simp; omega), ((A0'.out).setCell (p := ⟨w.heap.size + 1 + 1 + 1, 0, none⟩) (show w.heap.size ≤ w.heap.size + 1 + 1 + 1 by omega) _).setCell (p := ⟨w.heap.size + 1 + 1 + 1, 1, none⟩) (show w.heap.size ≤ w.heap.size + 1 + 1 + 1 by omega) _⟩)
end Go.Proofs.Ytlkgkfgpnnahdaa
end
