/-
  IsLag, both sides.
-/
import Derived.Test.YtjgiobapdkdhpaaRows
import Derived.Test.YtjgiobapdkdhpaaBase
import Derived.Test.YtjgiobapdkdhpaaMat
import Derived.Test.YtjgiobapdkdhpaaMoeb
import Derived.Test.YtjgiobapdkdhpaaTable
import Derived.Test.YtjgiobapdkdhpaaEqual
import Derived.Test.YtjgiobapdkdhpaaCount
import Derived.Test.YtjgiobapdkdhpaaPower
import Derived.Test.YtjgiobapdkdhpaaStepH
import Derived.Test.YtjgiobapdkdhpaaBoxKit
import Derived.Test.YtjgiobapdkdhpaaIsStep
namespace Go.Proofs.Ytjgiobapdkdhpaa
open Go.RowKit Go.Deep Go.Sd

def sameP (a b c d : List (List Int)) : Bool := ttOk a b && prodIs c d (ttV a b)
def lagM (a b : List (List Int)) (x : Tb × Tb) (n : Int) : Bool :=
  isMat a && (isMat b && (decide (1 ≤ n ∧ n ≤ 5) && (countM x.1 && (countM x.2 && (pwOk a n && (pwOk b n && (sameP a x.1 x.1 b && (sameP b x.2 x.2 a && (prodIs x.1 x.2 (pwV a n) && prodIs x.2 x.1 (pwV b n))))))))))

set_option maxHeartbeats 400000 in
theorem isSameProduct_c {w : World} {va vb vc vd : Value} {a b c d : List (List Int)} (h1 : Tab w va a) (h2 : Tab w vb b) (h3 : Tab w vc c) (h4 : Tab w vd d) :
    Calls Try.prog 145 #[va, vb, vc, vd] w fun e w' => e = .returned (.bool (sameP a b c d)) ∧ Below w.heap.size w w' := by
  have Hc := Lib.hid (impl_TableTimes_c h1 h2)
  have He := Lib.hid (fun w1 v (hb : Below w.heap.size w w1) (h : Tab w1 v (ttV a b)) => isProduct_c (Tab.frame _ _ _ _ h3 hb) (Tab.frame _ _ _ _ h4 hb) h)
  have H := Lib.hid (show sameP a b c d = (ttOk a b && prodIs c d (ttV a b)) from rfl)
  obtain ⟨_, _, rfl, _, _, _⟩ := h1.shape
  obtain ⟨_, _, rfl, _, _, _⟩ := h2.shape
  obtain ⟨_, _, rfl, _, _, _⟩ := h3.shape
  obtain ⟨_, _, rfl, _, _, _⟩ := h4.shape
  clear h1 h2 h3 h4
  generalize sameP a b c d = T at H ⊢
  generalize prodIs c d (ttV a b) = q at H He
  generalize ttOk a b = k at H Hc
  go_enter Try.func145, Try.ntmps145
  go_wp2_with fail
  refine Hc.out.mono ?_
  rintro e w1 ⟨v1, rfl, hn1, hb1⟩
  have Hb1 := Lib.hid hb1
  have He1 := Lib.hid (He.out w1 v1 hb1 hn1.tab)
  obtain ⟨_, _, _, rfl⟩ := hn1.slice
  clear hn1 hb1 He
  cases k with
  | false =>
    go_wp2
    go_ret
    exact ⟨by rw [H.out]; rfl, Hb1.out⟩
  | true =>
    go_wp2_with fail
    refine He1.out.mono ?_
    rintro e w2 ⟨rfl, hb2⟩
    have Hb2 := Lib.hid (Hb1.out.trans (hb2.mono Hb1.out.size))
    clear hb2
    go_wp2
    go_ret
    exact ⟨by rw [H.out]; rfl, Hb2.out⟩
theorem lagM_spec (a b : List (List Int)) (x : Tb × Tb) (n : Int) : lagM a b x n = (isMat a && (isMat b && (countM x.1 && (countM x.2 && (decide (1 ≤ n ∧ n ≤ 5) && (ttOk a x.1 && (ttOk x.1 b && (ttOk x.2 a && (ttOk b x.2 && (ttOk x.1 x.2 && (ttOk x.2 x.1 && (pwOk a n && (pwOk b n && (decide (ttV a x.1 = ttV x.1 b) && (decide (ttV x.2 a = ttV b x.2) && (decide (ttV x.1 x.2 = pwV a n) && decide (ttV x.2 x.1 = pwV b n))))))))))))))))) := by
  unfold lagM sameP prodIs
  rw [show decide (ttV x.1 b = ttV a x.1) = decide (ttV a x.1 = ttV x.1 b) from decide_eq_decide.2 eq_comm]
  generalize isMat a = p1
  generalize isMat b = p2
  generalize countM x.1 = p3
  generalize countM x.2 = p4
  generalize decide (1 ≤ n ∧ n ≤ 5) = p5
  generalize pwOk a n = p6
  generalize pwOk b n = p7
  generalize ttOk a x.1 = p8
  generalize ttOk x.1 b = p9
  generalize ttOk x.2 a = pa
  generalize ttOk b x.2 = pb
  generalize ttOk x.1 x.2 = pc
  generalize ttOk x.2 x.1 = pd
  generalize decide (ttV a x.1 = ttV x.1 b) = pe
  generalize decide (ttV x.2 a = ttV b x.2) = pf
  generalize decide (ttV x.1 x.2 = pwV a n) = pg
  generalize decide (ttV x.2 x.1 = pwV b n) = ph
  ac_rfl

set_option maxHeartbeats 2000000 in
set_option maxRecDepth 10000 in
theorem impl_IsLag_c {w : World} {va vb vx : Value} {a b : List (List Int)} {x : Tb × Tb} {n : Int} (h1 : Tab w va a) (h2 : Tab w vb b) (h3 : StepR w vx x) :
    Calls Try.prog 83 #[va, vb, vx, .int .i64 n] w fun e w' => e = .returned (.bool (lagM a b x n)) ∧ Below w.heap.size w w' := by
  have H := Lib.hid (show lagM a b x n = (isMat a && (isMat b && (decide (1 ≤ n ∧ n ≤ 5) && (countM x.1 && (countM x.2 && (pwOk a n && (pwOk b n && (sameP a x.1 x.1 b && (sameP b x.2 x.2 a && (prodIs x.1 x.2 (pwV a n) && prodIs x.2 x.1 (pwV b n))))))))))) from rfl)
  generalize lagM a b x n = T at H ⊢
  obtain ⟨v1, v2, rfl, t1, t2⟩ := h3
  have Ha := Lib.hid (fun w1 (hb : Below w.heap.size w w1) => impl_IsMatrix_c (Tab.frame _ _ _ _ h1 hb))
  have Hb := Lib.hid (fun w1 (hb : Below w.heap.size w w1) => impl_IsMatrix_c (Tab.frame _ _ _ _ h2 hb))
  have Hr := Lib.hid (fun w1 (hb : Below w.heap.size w w1) => isCounted_c (Tab.frame _ _ _ _ t1 hb))
  have Hs := Lib.hid (fun w1 (hb : Below w.heap.size w w1) => isCounted_c (Tab.frame _ _ _ _ t2 hb))
  have Hpa := Lib.hid (fun w1 (hb : Below w.heap.size w w1) => impl_PowerMatrix_c (n := n) (Tab.frame _ _ _ _ h1 hb))
  have Hpb := Lib.hid (fun w1 (hb : Below w.heap.size w w1) => impl_PowerMatrix_c (n := n) (Tab.frame _ _ _ _ h2 hb))
  have H1 := Lib.hid (fun w1 (hb : Below w.heap.size w w1) => isSameProduct_c (Tab.frame _ _ _ _ h1 hb) (Tab.frame _ _ _ _ t1 hb) (Tab.frame _ _ _ _ t1 hb) (Tab.frame _ _ _ _ h2 hb))
  have H2 := Lib.hid (fun w1 (hb : Below w.heap.size w w1) => isSameProduct_c (Tab.frame _ _ _ _ h2 hb) (Tab.frame _ _ _ _ t2 hb) (Tab.frame _ _ _ _ t2 hb) (Tab.frame _ _ _ _ h1 hb))
  have H3 := Lib.hid (fun w1 v (hb : Below w.heap.size w w1) (h : Tab w1 v (pwV a n)) => isProduct_c (Tab.frame _ _ _ _ t1 hb) (Tab.frame _ _ _ _ t2 hb) h)
  have H4 := Lib.hid (fun w1 v (hb : Below w.heap.size w w1) (h : Tab w1 v (pwV b n)) => isProduct_c (Tab.frame _ _ _ _ t2 hb) (Tab.frame _ _ _ _ t1 hb) h)
  generalize isMat a = ma at *
  generalize isMat b = mb at *
  generalize countM x.1 = cr at *
  generalize countM x.2 = cs at *
  generalize sameP a x.1 x.1 b = s1 at *
  generalize sameP b x.2 x.2 a = s2 at *
  generalize prodIs x.1 x.2 (pwV a n) = q1 at *
  generalize prodIs x.2 x.1 (pwV b n) = q2 at *
  generalize pwOk a n = k1 at *
  generalize pwOk b n = k2 at *
  generalize pwV a n = z1 at *
  generalize pwV b n = z2 at *
  obtain ⟨_, _, rfl, _, _, _⟩ := h1.shape
  obtain ⟨_, _, rfl, _, _, _⟩ := h2.shape
  obtain ⟨xa, xc, rfl, _, _, _⟩ := t1.shape
  obtain ⟨ya, yc, rfl, _, _, _⟩ := t2.shape
  clear h1 h2 t1 t2
  go_enter Try.func83, Try.ntmps83
  go_wp2_with fail
  obtain ⟨w1, ex, A0, c0, c1, m1⟩ := boxA_ex w 38 (.slice xa x.1.length xc) (.slice ya x.2.length yc)
  change Calls Try.prog _ _ (w.alloc (.cells #[.slice xa x.1.length xc, .slice ya x.2.length yc] 38)) _
  rw [ex]
  clear ex
  refine (Ha.out _ A0).mono ?_
  rintro e w' ⟨rfl, rfl⟩
  cases ma with
  | false => go_wp2; go_ret; exact ⟨by rw [H.out]; rfl, A0⟩
  | true =>
  go_wp2_with fail
  refine (Hb.out _ A0).mono ?_
  rintro e w' ⟨rfl, rfl⟩
  cases mb with
  | false => go_wp2; go_ret; exact ⟨by rw [H.out]; rfl, A0⟩
  | true =>
  by_cases cn0 : n < 1
  · have HT := Lib.hid (show T = false from by rw [H.out, show decide (1 ≤ n ∧ n ≤ 5) = false from decide_eq_false (by omega)]; rfl)
    clear H
    go_wp2; go_ret; exact ⟨by rw [HT.out]; rfl, A0⟩
  by_cases c5 : 5 < n
  · have HT := Lib.hid (show T = false from by rw [H.out, show decide (1 ≤ n ∧ n ≤ 5) = false from decide_eq_false (by omega)]; rfl)
    clear H
    go_wp2; go_ret; exact ⟨by rw [HT.out]; rfl, A0⟩
  rw [show decide (1 ≤ n ∧ n ≤ 5) = true from decide_eq_true (by omega)] at H
  go_wp2_with fail
  refine (Hr.out _ A0).mono ?_
  rintro e w' ⟨rfl, rfl⟩
  cases cr with
  | false => go_wp2; go_ret; exact ⟨by rw [H.out]; rfl, A0⟩
  | true =>
  go_wp2_with fail
  refine (Hs.out _ A0).mono ?_
  rintro e w' ⟨rfl, rfl⟩
  cases cs with
  | false => go_wp2; go_ret; exact ⟨by rw [H.out]; rfl, A0⟩
  | true =>
  go_wp2_with fail
  refine (Hpa.out _ A0).mono ?_
  rintro e w2 ⟨u2, rfl, hn2, hb2⟩
  replace c0 := (hb2.cell (p := ⟨w.heap.size, 0, none⟩) m1).trans c0
  replace c1 := (hb2.cell (p := ⟨w.heap.size, 1, none⟩) m1).trans c1
  replace m1 := Nat.lt_of_lt_of_le m1 hb2.size
  replace A0 := A0.trans (hb2.mono A0.size)
  have R1 := Lib.hid hn2.tab
  obtain ⟨_, _, _, rfl⟩ := hn2.slice
  clear hb2 hn2
  go_wp2_with fail
  refine (Hpb.out _ A0).mono ?_
  rintro e w3 ⟨u3, rfl, hn3, hb3⟩
  replace c0 := (hb3.cell (p := ⟨w.heap.size, 0, none⟩) m1).trans c0
  replace c1 := (hb3.cell (p := ⟨w.heap.size, 1, none⟩) m1).trans c1
  replace m1 := Nat.lt_of_lt_of_le m1 hb3.size
  replace R1 := Lib.hid (Tab.frame _ _ _ _ R1.out (hb3.mono (Nat.le_refl _)))
  replace A0 := A0.trans (hb3.mono A0.size)
  have R2 := Lib.hid hn3.tab
  obtain ⟨_, _, _, rfl⟩ := hn3.slice
  clear hb3 hn3
  cases k1 with
  | false => go_wp2; go_ret; exact ⟨by rw [H.out]; rfl, A0⟩
  | true =>
  cases k2 with
  | false => go_wp2; go_ret; exact ⟨by rw [H.out]; rfl, A0⟩
  | true =>
  go_wp2_with fail
  refine (H1.out _ A0).mono ?_
  rintro e w4 ⟨rfl, hb4⟩
  replace c0 := (hb4.cell (p := ⟨w.heap.size, 0, none⟩) m1).trans c0
  replace c1 := (hb4.cell (p := ⟨w.heap.size, 1, none⟩) m1).trans c1
  replace m1 := Nat.lt_of_lt_of_le m1 hb4.size
  replace R1 := Lib.hid (Tab.frame _ _ _ _ R1.out (hb4.mono (Nat.le_refl _)))
  replace R2 := Lib.hid (Tab.frame _ _ _ _ R2.out (hb4.mono (Nat.le_refl _)))
  replace A0 := A0.trans (hb4.mono A0.size)
  clear hb4
  cases s1 with
  | false => go_wp2; go_ret; exact ⟨by rw [H.out]; rfl, A0⟩
  | true =>
  go_wp2_with fail
  refine (H2.out _ A0).mono ?_
  rintro e w5 ⟨rfl, hb5⟩
  replace c0 := (hb5.cell (p := ⟨w.heap.size, 0, none⟩) m1).trans c0
  replace c1 := (hb5.cell (p := ⟨w.heap.size, 1, none⟩) m1).trans c1
  replace m1 := Nat.lt_of_lt_of_le m1 hb5.size
  replace R1 := Lib.hid (Tab.frame _ _ _ _ R1.out (hb5.mono (Nat.le_refl _)))
  replace R2 := Lib.hid (Tab.frame _ _ _ _ R2.out (hb5.mono (Nat.le_refl _)))
  replace A0 := A0.trans (hb5.mono A0.size)
  clear hb5
  cases s2 with
  | false => go_wp2; go_ret; exact ⟨by rw [H.out]; rfl, A0⟩
  | true =>
  go_wp2_with fail
  refine (H3.out _ _ A0 R1.out).mono ?_
  rintro e w6 ⟨rfl, hb6⟩
  replace c0 := (hb6.cell (p := ⟨w.heap.size, 0, none⟩) m1).trans c0
  replace c1 := (hb6.cell (p := ⟨w.heap.size, 1, none⟩) m1).trans c1
  replace m1 := Nat.lt_of_lt_of_le m1 hb6.size
  replace R1 := Lib.hid (Tab.frame _ _ _ _ R1.out (hb6.mono (Nat.le_refl _)))
  replace R2 := Lib.hid (Tab.frame _ _ _ _ R2.out (hb6.mono (Nat.le_refl _)))
  replace A0 := A0.trans (hb6.mono A0.size)
  clear hb6
  cases q1 with
  | false => go_wp2; go_ret; exact ⟨by rw [H.out]; rfl, A0⟩
  | true =>
  go_wp2_with fail
  refine (H4.out _ _ A0 R2.out).mono ?_
  rintro e w7 ⟨rfl, hb7⟩
  replace A0 := A0.trans (hb7.mono A0.size)
  clear hb7
  go_wp2
  go_ret
  exact ⟨by rw [H.out]; rfl, A0⟩
set_option maxHeartbeats 2000000 in
set_option maxRecDepth 10000 in
theorem spec_IsLag_c {w : World} {va vb vx : Value} {a b : List (List Int)} {x : Tb × Tb} {n : Int} (h1 : Tab w va a) (h2 : Tab w vb b) (h3 : StepR w vx x) :
    Calls Try.prog 79 #[va, vb, vx, .int .i64 n] w fun e w' => e = .returned (.bool (lagM a b x n)) ∧ Below w.heap.size w w' := by
  have H := Lib.hid (show lagM a b x n = (isMat a && (isMat b && (countM x.1 && (countM x.2 && (decide (1 ≤ n ∧ n ≤ 5) && (ttOk a x.1 && (ttOk x.1 b && (ttOk x.2 a && (ttOk b x.2 && (ttOk x.1 x.2 && (ttOk x.2 x.1 && (pwOk a n && (pwOk b n && (decide (ttV a x.1 = ttV x.1 b) && (decide (ttV x.2 a = ttV b x.2) && (decide (ttV x.1 x.2 = pwV a n) && decide (ttV x.2 x.1 = pwV b n))))))))))))))))) from lagM_spec a b x n)
  generalize lagM a b x n = T at H ⊢
  obtain ⟨v1, v2, rfl, t1, t2⟩ := h3
  have Ha := Lib.hid (fun w1 (hb : Below w.heap.size w w1) => spec_IsMatrix_c (Tab.frame _ _ _ _ h1 hb))
  have Hb := Lib.hid (fun w1 (hb : Below w.heap.size w w1) => spec_IsMatrix_c (Tab.frame _ _ _ _ h2 hb))
  have Hr := Lib.hid (fun w1 (hb : Below w.heap.size w w1) => l19Rows_c (Tab.frame _ _ _ _ t1 hb))
  have Hs := Lib.hid (fun w1 (hb : Below w.heap.size w w1) => l19Rows_c (Tab.frame _ _ _ _ t2 hb))
  have Ht0 := Lib.hid (fun w1 (hb : Below w.heap.size w w1) => spec_TableTimes_c (Tab.frame _ _ _ _ h1 hb) (Tab.frame _ _ _ _ t1 hb))
  have Ht1 := Lib.hid (fun w1 (hb : Below w.heap.size w w1) => spec_TableTimes_c (Tab.frame _ _ _ _ t1 hb) (Tab.frame _ _ _ _ h2 hb))
  have Ht2 := Lib.hid (fun w1 (hb : Below w.heap.size w w1) => spec_TableTimes_c (Tab.frame _ _ _ _ t2 hb) (Tab.frame _ _ _ _ h1 hb))
  have Ht3 := Lib.hid (fun w1 (hb : Below w.heap.size w w1) => spec_TableTimes_c (Tab.frame _ _ _ _ h2 hb) (Tab.frame _ _ _ _ t2 hb))
  have Ht4 := Lib.hid (fun w1 (hb : Below w.heap.size w w1) => spec_TableTimes_c (Tab.frame _ _ _ _ t1 hb) (Tab.frame _ _ _ _ t2 hb))
  have Ht5 := Lib.hid (fun w1 (hb : Below w.heap.size w w1) => spec_TableTimes_c (Tab.frame _ _ _ _ t2 hb) (Tab.frame _ _ _ _ t1 hb))
  have Hpa := Lib.hid (fun w1 (hb : Below w.heap.size w w1) => spec_PowerMatrix_c (n := n) (Tab.frame _ _ _ _ h1 hb))
  have Hpb := Lib.hid (fun w1 (hb : Below w.heap.size w w1) => spec_PowerMatrix_c (n := n) (Tab.frame _ _ _ _ h2 hb))
  have He0 := Lib.hid (fun w1 v v' (hb : Below w.heap.size w w1) (h : Tab w1 v (ttV a x.1)) (h' : Tab w1 v' (ttV x.1 b)) => spec_EqualMatrix_c h h')
  have He1 := Lib.hid (fun w1 v v' (hb : Below w.heap.size w w1) (h : Tab w1 v (ttV x.2 a)) (h' : Tab w1 v' (ttV b x.2)) => spec_EqualMatrix_c h h')
  have He2 := Lib.hid (fun w1 v v' (hb : Below w.heap.size w w1) (h : Tab w1 v (ttV x.1 x.2)) (h' : Tab w1 v' (pwV a n)) => spec_EqualMatrix_c h h')
  have He3 := Lib.hid (fun w1 v v' (hb : Below w.heap.size w w1) (h : Tab w1 v (ttV x.2 x.1)) (h' : Tab w1 v' (pwV b n)) => spec_EqualMatrix_c h h')
  generalize decide (ttV a x.1 = ttV x.1 b) = d0 at *
  generalize decide (ttV x.2 a = ttV b x.2) = d1 at *
  generalize decide (ttV x.1 x.2 = pwV a n) = d2 at *
  generalize decide (ttV x.2 x.1 = pwV b n) = d3 at *
  generalize ttV a x.1 = z0 at *
  generalize ttV x.1 b = z1 at *
  generalize ttV x.2 a = z2 at *
  generalize ttV b x.2 = z3 at *
  generalize ttV x.1 x.2 = z4 at *
  generalize ttV x.2 x.1 = z5 at *
  generalize pwV a n = z6 at *
  generalize pwV b n = z7 at *
  generalize ttOk a x.1 = k0 at *
  generalize ttOk x.1 b = k1 at *
  generalize ttOk x.2 a = k2 at *
  generalize ttOk b x.2 = k3 at *
  generalize ttOk x.1 x.2 = k4 at *
  generalize ttOk x.2 x.1 = k5 at *
  generalize pwOk a n = k6 at *
  generalize pwOk b n = k7 at *
  generalize isMat a = ma at *
  generalize isMat b = mb at *
  generalize countM x.1 = cr at *
  generalize countM x.2 = cs at *
  obtain ⟨_, _, rfl, _, _, _⟩ := h1.shape
  obtain ⟨_, _, rfl, _, _, _⟩ := h2.shape
  obtain ⟨xa, xc, rfl, _, _, _⟩ := t1.shape
  obtain ⟨ya, yc, rfl, _, _, _⟩ := t2.shape
  clear h1 h2 t1 t2
  go_enter Try.func79, Try.ntmps79
  go_wp2_with fail
  obtain ⟨w1, ex, A0, c0, c1, m1⟩ := boxA_ex w 38 (.slice xa x.1.length xc) (.slice ya x.2.length yc)
  change Calls Try.prog _ _ (w.alloc (.cells #[.slice xa x.1.length xc, .slice ya x.2.length yc] 38)) _
  rw [ex]
  clear ex
  refine (Ha.out _ A0).mono ?_
  rintro e w' ⟨rfl, rfl⟩
  cases ma with
  | false => go_wp2; go_ret; exact ⟨by rw [H.out]; rfl, A0⟩
  | true =>
  go_wp2_with fail
  refine (Hb.out _ A0).mono ?_
  rintro e w' ⟨rfl, rfl⟩
  cases mb with
  | false => go_wp2; go_ret; exact ⟨by rw [H.out]; rfl, A0⟩
  | true =>
  go_wp2_with fail
  refine (Hr.out _ A0).mono ?_
  rintro e w' ⟨rfl, rfl⟩
  cases cr with
  | false => go_wp2; go_ret; exact ⟨by rw [H.out]; rfl, A0⟩
  | true =>
  go_wp2_with fail
  refine (Hs.out _ A0).mono ?_
  rintro e w' ⟨rfl, rfl⟩
  cases cs with
  | false => go_wp2; go_ret; exact ⟨by rw [H.out]; rfl, A0⟩
  | true =>
  go_wp2_with fail
  refine (l1In_c n 1 5 _).mono ?_
  rintro e w' ⟨rfl, rfl⟩
  by_cases hn : 1 ≤ n ∧ n ≤ 5
  rotate_left
  · have HT := Lib.hid (show T = false from by rw [H.out, decide_eq_false hn]; rfl)
    have ht : (decide (1 ≤ n) && decide (n ≤ 5)) = false := by simp; omega
    rw [ht]
    clear H hn ht
    go_wp2; go_ret; exact ⟨by rw [HT.out]; rfl, A0⟩
  have ht : (decide (1 ≤ n) && decide (n ≤ 5)) = true := by simp; omega
  rw [decide_eq_true hn] at H
  rw [ht]
  clear ht hn
  go_wp2_with fail
  refine (Ht0.out _ A0).mono ?_
  rintro e w2 ⟨u2, rfl, hn2, hb2⟩
  replace c0 := (hb2.cell (p := ⟨w.heap.size, 0, none⟩) m1).trans c0
  replace c1 := (hb2.cell (p := ⟨w.heap.size, 1, none⟩) m1).trans c1
  replace m1 := Nat.lt_of_lt_of_le m1 hb2.size
  replace A0 := A0.trans (hb2.mono A0.size)
  have R0 := Lib.hid hn2.tab
  obtain ⟨_, _, _, rfl⟩ := hn2.slice
  clear hb2 hn2
  go_wp2_with fail
  refine (Ht1.out _ A0).mono ?_
  rintro e w3 ⟨u3, rfl, hn3, hb3⟩
  replace c0 := (hb3.cell (p := ⟨w.heap.size, 0, none⟩) m1).trans c0
  replace c1 := (hb3.cell (p := ⟨w.heap.size, 1, none⟩) m1).trans c1
  replace m1 := Nat.lt_of_lt_of_le m1 hb3.size
  replace R0 := Lib.hid (Tab.frame _ _ _ _ R0.out (hb3.mono (Nat.le_refl _)))
  replace A0 := A0.trans (hb3.mono A0.size)
  have R1 := Lib.hid hn3.tab
  obtain ⟨_, _, _, rfl⟩ := hn3.slice
  clear hb3 hn3
  go_wp2_with fail
  refine (Ht2.out _ A0).mono ?_
  rintro e w4 ⟨u4, rfl, hn4, hb4⟩
  replace c0 := (hb4.cell (p := ⟨w.heap.size, 0, none⟩) m1).trans c0
  replace c1 := (hb4.cell (p := ⟨w.heap.size, 1, none⟩) m1).trans c1
  replace m1 := Nat.lt_of_lt_of_le m1 hb4.size
  replace R0 := Lib.hid (Tab.frame _ _ _ _ R0.out (hb4.mono (Nat.le_refl _)))
  replace R1 := Lib.hid (Tab.frame _ _ _ _ R1.out (hb4.mono (Nat.le_refl _)))
  replace A0 := A0.trans (hb4.mono A0.size)
  have R2 := Lib.hid hn4.tab
  obtain ⟨_, _, _, rfl⟩ := hn4.slice
  clear hb4 hn4
  go_wp2_with fail
  refine (Ht3.out _ A0).mono ?_
  rintro e w5 ⟨u5, rfl, hn5, hb5⟩
  replace c0 := (hb5.cell (p := ⟨w.heap.size, 0, none⟩) m1).trans c0
  replace c1 := (hb5.cell (p := ⟨w.heap.size, 1, none⟩) m1).trans c1
  replace m1 := Nat.lt_of_lt_of_le m1 hb5.size
  replace R0 := Lib.hid (Tab.frame _ _ _ _ R0.out (hb5.mono (Nat.le_refl _)))
  replace R1 := Lib.hid (Tab.frame _ _ _ _ R1.out (hb5.mono (Nat.le_refl _)))
  replace R2 := Lib.hid (Tab.frame _ _ _ _ R2.out (hb5.mono (Nat.le_refl _)))
  replace A0 := A0.trans (hb5.mono A0.size)
  have R3 := Lib.hid hn5.tab
  obtain ⟨_, _, _, rfl⟩ := hn5.slice
  clear hb5 hn5
  go_wp2_with fail
  refine (Ht4.out _ A0).mono ?_
  rintro e w6 ⟨u6, rfl, hn6, hb6⟩
  replace c0 := (hb6.cell (p := ⟨w.heap.size, 0, none⟩) m1).trans c0
  replace c1 := (hb6.cell (p := ⟨w.heap.size, 1, none⟩) m1).trans c1
  replace m1 := Nat.lt_of_lt_of_le m1 hb6.size
  replace R0 := Lib.hid (Tab.frame _ _ _ _ R0.out (hb6.mono (Nat.le_refl _)))
  replace R1 := Lib.hid (Tab.frame _ _ _ _ R1.out (hb6.mono (Nat.le_refl _)))
  replace R2 := Lib.hid (Tab.frame _ _ _ _ R2.out (hb6.mono (Nat.le_refl _)))
  replace R3 := Lib.hid (Tab.frame _ _ _ _ R3.out (hb6.mono (Nat.le_refl _)))
  replace A0 := A0.trans (hb6.mono A0.size)
  have R4 := Lib.hid hn6.tab
  obtain ⟨_, _, _, rfl⟩ := hn6.slice
  clear hb6 hn6
  go_wp2_with fail
  refine (Ht5.out _ A0).mono ?_
  rintro e w7 ⟨u7, rfl, hn7, hb7⟩
  replace c0 := (hb7.cell (p := ⟨w.heap.size, 0, none⟩) m1).trans c0
  replace c1 := (hb7.cell (p := ⟨w.heap.size, 1, none⟩) m1).trans c1
  replace m1 := Nat.lt_of_lt_of_le m1 hb7.size
  replace R0 := Lib.hid (Tab.frame _ _ _ _ R0.out (hb7.mono (Nat.le_refl _)))
  replace R1 := Lib.hid (Tab.frame _ _ _ _ R1.out (hb7.mono (Nat.le_refl _)))
  replace R2 := Lib.hid (Tab.frame _ _ _ _ R2.out (hb7.mono (Nat.le_refl _)))
  replace R3 := Lib.hid (Tab.frame _ _ _ _ R3.out (hb7.mono (Nat.le_refl _)))
  replace R4 := Lib.hid (Tab.frame _ _ _ _ R4.out (hb7.mono (Nat.le_refl _)))
  replace A0 := A0.trans (hb7.mono A0.size)
  have R5 := Lib.hid hn7.tab
  obtain ⟨_, _, _, rfl⟩ := hn7.slice
  clear hb7 hn7
  go_wp2_with fail
  refine (Hpa.out _ A0).mono ?_
  rintro e w8 ⟨u8, rfl, hn8, hb8⟩
  replace c0 := (hb8.cell (p := ⟨w.heap.size, 0, none⟩) m1).trans c0
  replace c1 := (hb8.cell (p := ⟨w.heap.size, 1, none⟩) m1).trans c1
  replace m1 := Nat.lt_of_lt_of_le m1 hb8.size
  replace R0 := Lib.hid (Tab.frame _ _ _ _ R0.out (hb8.mono (Nat.le_refl _)))
  replace R1 := Lib.hid (Tab.frame _ _ _ _ R1.out (hb8.mono (Nat.le_refl _)))
  replace R2 := Lib.hid (Tab.frame _ _ _ _ R2.out (hb8.mono (Nat.le_refl _)))
  replace R3 := Lib.hid (Tab.frame _ _ _ _ R3.out (hb8.mono (Nat.le_refl _)))
  replace R4 := Lib.hid (Tab.frame _ _ _ _ R4.out (hb8.mono (Nat.le_refl _)))
  replace R5 := Lib.hid (Tab.frame _ _ _ _ R5.out (hb8.mono (Nat.le_refl _)))
  replace A0 := A0.trans (hb8.mono A0.size)
  have R6 := Lib.hid hn8.tab
  obtain ⟨_, _, _, rfl⟩ := hn8.slice
  clear hb8 hn8
  go_wp2_with fail
  refine (Hpb.out _ A0).mono ?_
  rintro e w9 ⟨u9, rfl, hn9, hb9⟩
  replace c0 := (hb9.cell (p := ⟨w.heap.size, 0, none⟩) m1).trans c0
  replace c1 := (hb9.cell (p := ⟨w.heap.size, 1, none⟩) m1).trans c1
  replace m1 := Nat.lt_of_lt_of_le m1 hb9.size
  replace R0 := Lib.hid (Tab.frame _ _ _ _ R0.out (hb9.mono (Nat.le_refl _)))
  replace R1 := Lib.hid (Tab.frame _ _ _ _ R1.out (hb9.mono (Nat.le_refl _)))
  replace R2 := Lib.hid (Tab.frame _ _ _ _ R2.out (hb9.mono (Nat.le_refl _)))
  replace R3 := Lib.hid (Tab.frame _ _ _ _ R3.out (hb9.mono (Nat.le_refl _)))
  replace R4 := Lib.hid (Tab.frame _ _ _ _ R4.out (hb9.mono (Nat.le_refl _)))
  replace R5 := Lib.hid (Tab.frame _ _ _ _ R5.out (hb9.mono (Nat.le_refl _)))
  replace R6 := Lib.hid (Tab.frame _ _ _ _ R6.out (hb9.mono (Nat.le_refl _)))
  replace A0 := A0.trans (hb9.mono A0.size)
  have R7 := Lib.hid hn9.tab
  obtain ⟨_, _, _, rfl⟩ := hn9.slice
  clear hb9 hn9
  cases k0 with
  | false => go_wp2; go_ret; exact ⟨by rw [H.out]; rfl, A0⟩
  | true =>
  cases k1 with
  | false => go_wp2; go_ret; exact ⟨by rw [H.out]; rfl, A0⟩
  | true =>
  cases k2 with
  | false => go_wp2; go_ret; exact ⟨by rw [H.out]; rfl, A0⟩
  | true =>
  cases k3 with
  | false => go_wp2; go_ret; exact ⟨by rw [H.out]; rfl, A0⟩
  | true =>
  cases k4 with
  | false => go_wp2; go_ret; exact ⟨by rw [H.out]; rfl, A0⟩
  | true =>
  cases k5 with
  | false => go_wp2; go_ret; exact ⟨by rw [H.out]; rfl, A0⟩
  | true =>
  cases k6 with
  | false => go_wp2; go_ret; exact ⟨by rw [H.out]; rfl, A0⟩
  | true =>
  cases k7 with
  | false => go_wp2; go_ret; exact ⟨by rw [H.out]; rfl, A0⟩
  | true =>
  go_wp2_with fail
  refine (He0.out _ _ _ A0 R0.out R1.out).mono ?_
  rintro e w10 ⟨rfl, hd10⟩
  have hb10 := hd10.below w9.heap.size
  replace c0 := (hb10.cell (p := ⟨w.heap.size, 0, none⟩) m1).trans c0
  replace c1 := (hb10.cell (p := ⟨w.heap.size, 1, none⟩) m1).trans c1
  replace m1 := Nat.lt_of_lt_of_le m1 hb10.size
  replace R0 := Lib.hid (Tab.frame _ _ _ _ R0.out (hb10.mono (Nat.le_refl _)))
  replace R1 := Lib.hid (Tab.frame _ _ _ _ R1.out (hb10.mono (Nat.le_refl _)))
  replace R2 := Lib.hid (Tab.frame _ _ _ _ R2.out (hb10.mono (Nat.le_refl _)))
  replace R3 := Lib.hid (Tab.frame _ _ _ _ R3.out (hb10.mono (Nat.le_refl _)))
  replace R4 := Lib.hid (Tab.frame _ _ _ _ R4.out (hb10.mono (Nat.le_refl _)))
  replace R5 := Lib.hid (Tab.frame _ _ _ _ R5.out (hb10.mono (Nat.le_refl _)))
  replace R6 := Lib.hid (Tab.frame _ _ _ _ R6.out (hb10.mono (Nat.le_refl _)))
  replace R7 := Lib.hid (Tab.frame _ _ _ _ R7.out (hb10.mono (Nat.le_refl _)))
  replace A0 := A0.trans (hb10.mono A0.size)
  clear hb10 hd10
  cases d0 with
  | false => go_wp2; go_ret; exact ⟨by rw [H.out]; rfl, A0⟩
  | true =>
  go_wp2_with fail
  refine (He1.out _ _ _ A0 R2.out R3.out).mono ?_
  rintro e w11 ⟨rfl, hd11⟩
  have hb11 := hd11.below w10.heap.size
  replace c0 := (hb11.cell (p := ⟨w.heap.size, 0, none⟩) m1).trans c0
  replace c1 := (hb11.cell (p := ⟨w.heap.size, 1, none⟩) m1).trans c1
  replace m1 := Nat.lt_of_lt_of_le m1 hb11.size
  replace R0 := Lib.hid (Tab.frame _ _ _ _ R0.out (hb11.mono (Nat.le_refl _)))
  replace R1 := Lib.hid (Tab.frame _ _ _ _ R1.out (hb11.mono (Nat.le_refl _)))
  replace R2 := Lib.hid (Tab.frame _ _ _ _ R2.out (hb11.mono (Nat.le_refl _)))
  replace R3 := Lib.hid (Tab.frame _ _ _ _ R3.out (hb11.mono (Nat.le_refl _)))
  replace R4 := Lib.hid (Tab.frame _ _ _ _ R4.out (hb11.mono (Nat.le_refl _)))
  replace R5 := Lib.hid (Tab.frame _ _ _ _ R5.out (hb11.mono (Nat.le_refl _)))
  replace R6 := Lib.hid (Tab.frame _ _ _ _ R6.out (hb11.mono (Nat.le_refl _)))
  replace R7 := Lib.hid (Tab.frame _ _ _ _ R7.out (hb11.mono (Nat.le_refl _)))
  replace A0 := A0.trans (hb11.mono A0.size)
  clear hb11 hd11
  cases d1 with
  | false => go_wp2; go_ret; exact ⟨by rw [H.out]; rfl, A0⟩
  | true =>
  go_wp2_with fail
  refine (He2.out _ _ _ A0 R4.out R6.out).mono ?_
  rintro e w12 ⟨rfl, hd12⟩
  have hb12 := hd12.below w11.heap.size
  replace c0 := (hb12.cell (p := ⟨w.heap.size, 0, none⟩) m1).trans c0
  replace c1 := (hb12.cell (p := ⟨w.heap.size, 1, none⟩) m1).trans c1
  replace m1 := Nat.lt_of_lt_of_le m1 hb12.size
  replace R0 := Lib.hid (Tab.frame _ _ _ _ R0.out (hb12.mono (Nat.le_refl _)))
  replace R1 := Lib.hid (Tab.frame _ _ _ _ R1.out (hb12.mono (Nat.le_refl _)))
  replace R2 := Lib.hid (Tab.frame _ _ _ _ R2.out (hb12.mono (Nat.le_refl _)))
  replace R3 := Lib.hid (Tab.frame _ _ _ _ R3.out (hb12.mono (Nat.le_refl _)))
  replace R4 := Lib.hid (Tab.frame _ _ _ _ R4.out (hb12.mono (Nat.le_refl _)))
  replace R5 := Lib.hid (Tab.frame _ _ _ _ R5.out (hb12.mono (Nat.le_refl _)))
  replace R6 := Lib.hid (Tab.frame _ _ _ _ R6.out (hb12.mono (Nat.le_refl _)))
  replace R7 := Lib.hid (Tab.frame _ _ _ _ R7.out (hb12.mono (Nat.le_refl _)))
  replace A0 := A0.trans (hb12.mono A0.size)
  clear hb12 hd12
  cases d2 with
  | false => go_wp2; go_ret; exact ⟨by rw [H.out]; rfl, A0⟩
  | true =>
  go_wp2_with fail
  refine (He3.out _ _ _ A0 R5.out R7.out).mono ?_
  rintro e w13 ⟨rfl, hd13⟩
  have hb13 := hd13.below w12.heap.size
  replace c0 := (hb13.cell (p := ⟨w.heap.size, 0, none⟩) m1).trans c0
  replace c1 := (hb13.cell (p := ⟨w.heap.size, 1, none⟩) m1).trans c1
  replace m1 := Nat.lt_of_lt_of_le m1 hb13.size
  replace R0 := Lib.hid (Tab.frame _ _ _ _ R0.out (hb13.mono (Nat.le_refl _)))
  replace R1 := Lib.hid (Tab.frame _ _ _ _ R1.out (hb13.mono (Nat.le_refl _)))
  replace R2 := Lib.hid (Tab.frame _ _ _ _ R2.out (hb13.mono (Nat.le_refl _)))
  replace R3 := Lib.hid (Tab.frame _ _ _ _ R3.out (hb13.mono (Nat.le_refl _)))
  replace R4 := Lib.hid (Tab.frame _ _ _ _ R4.out (hb13.mono (Nat.le_refl _)))
  replace R5 := Lib.hid (Tab.frame _ _ _ _ R5.out (hb13.mono (Nat.le_refl _)))
  replace R6 := Lib.hid (Tab.frame _ _ _ _ R6.out (hb13.mono (Nat.le_refl _)))
  replace R7 := Lib.hid (Tab.frame _ _ _ _ R7.out (hb13.mono (Nat.le_refl _)))
  replace A0 := A0.trans (hb13.mono A0.size)
  clear hb13 hd13
  go_wp2
  go_ret
  exact ⟨by rw [H.out]; rfl, A0⟩
end Go.Proofs.Ytjgiobapdkdhpaa
