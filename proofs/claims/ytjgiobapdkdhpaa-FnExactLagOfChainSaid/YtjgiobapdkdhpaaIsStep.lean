/-
  IsStep, both sides.
-/
import Derived.Test.YtjgiobapdkdhpaaRows
import Derived.Test.YtjgiobapdkdhpaaBase
import Derived.Test.YtjgiobapdkdhpaaMat
import Derived.Test.YtjgiobapdkdhpaaTable
import Derived.Test.YtjgiobapdkdhpaaEqual
import Derived.Test.YtjgiobapdkdhpaaCount
import Derived.Test.YtjgiobapdkdhpaaStepH
import Derived.Test.YtjgiobapdkdhpaaBoxKit
namespace Go.Proofs.Ytjgiobapdkdhpaa
open Go.RowKit Go.Deep Go.Sd

def prodIs (a b c : List (List Int)) : Bool := ttOk a b && decide (ttV a b = c)
def stepM (a b : List (List Int)) (x : Tb × Tb) : Bool := isMat a && (isMat b && (countM x.1 && (countM x.2 && (prodIs x.1 x.2 a && prodIs x.2 x.1 b))))

set_option maxHeartbeats 400000 in
theorem isProduct_c {w : World} {va vb vc : Value} {a b c : List (List Int)} (h1 : Tab w va a) (h2 : Tab w vb b) (h3 : Tab w vc c) :
    Calls Try.prog 146 #[va, vb, vc] w fun e w' => e = .returned (.bool (prodIs a b c)) ∧ Below w.heap.size w w' := by
  have Hc := Lib.hid (impl_TableTimes_c h1 h2)
  have He := Lib.hid (fun w1 v (hb : Below w.heap.size w w1) (h : Tab w1 v (ttV a b)) => impl_EqualMatrix_c h (Tab.frame _ _ _ _ h3 hb))
  have H := Lib.hid (show prodIs a b c = (ttOk a b && decide (ttV a b = c)) from rfl)
  obtain ⟨_, _, rfl, _, _, _⟩ := h1.shape
  obtain ⟨_, _, rfl, _, _, _⟩ := h2.shape
  obtain ⟨_, _, rfl, _, _, _⟩ := h3.shape
  clear h1 h2 h3
  generalize prodIs a b c = T at H ⊢
  generalize decide (ttV a b = c) = d at H He
  generalize ttOk a b = k at H Hc
  go_enter Try.func146, Try.ntmps146
  go_wp2_with fail
  refine Hc.out.mono ?_
  rintro e w1 ⟨v1, rfl, hn1, hb1⟩
  have Hb1 := Lib.hid hb1
  have He1 := Lib.hid (He.out w1 v1 hb1 hn1.tab)
  obtain ⟨_, _, _, rfl⟩ := hn1.slice
  clear hn1 hb1 He
  cases k with
  | false =>
    go_wp2
    go_ret
    exact ⟨by rw [H.out]; rfl, Hb1.out⟩
  | true =>
    go_wp2_with fail
    refine He1.out.mono ?_
    rintro e w2 ⟨rfl, hd⟩
    have Hb2 := Lib.hid (Hb1.out.trans (hd.below _))
    clear hd
    go_wp2
    go_ret
    exact ⟨by rw [H.out]; rfl, Hb2.out⟩
set_option maxHeartbeats 1000000 in
theorem impl_IsStep_c {w : World} {va vb vx : Value} {a b : List (List Int)} {x : Tb × Tb} (h1 : Tab w va a) (h2 : Tab w vb b) (h3 : StepR w vx x) :
    Calls Try.prog 150 #[va, vb, vx] w fun e w' => e = .returned (.bool (stepM a b x)) ∧ Below w.heap.size w w' := by
  have H := Lib.hid (show stepM a b x = (isMat a && (isMat b && (countM x.1 && (countM x.2 && (prodIs x.1 x.2 a && prodIs x.2 x.1 b))))) from rfl)
  generalize stepM a b x = T at H ⊢
  obtain ⟨v1, v2, rfl, t1, t2⟩ := h3
  have Ha := Lib.hid (fun w1 (hb : Below w.heap.size w w1) => impl_IsMatrix_c (Tab.frame _ _ _ _ h1 hb))
  have Hb := Lib.hid (fun w1 (hb : Below w.heap.size w w1) => impl_IsMatrix_c (Tab.frame _ _ _ _ h2 hb))
  have Hr := Lib.hid (fun w1 (hb : Below w.heap.size w w1) => isCounted_c (Tab.frame _ _ _ _ t1 hb))
  have Hs := Lib.hid (fun w1 (hb : Below w.heap.size w w1) => isCounted_c (Tab.frame _ _ _ _ t2 hb))
  have Hp := Lib.hid (fun w1 (hb : Below w.heap.size w w1) => isProduct_c (Tab.frame _ _ _ _ t1 hb) (Tab.frame _ _ _ _ t2 hb) (Tab.frame _ _ _ _ h1 hb))
  have Hq := Lib.hid (fun w1 (hb : Below w.heap.size w w1) => isProduct_c (Tab.frame _ _ _ _ t2 hb) (Tab.frame _ _ _ _ t1 hb) (Tab.frame _ _ _ _ h2 hb))
  generalize isMat a = ma at *
  generalize isMat b = mb at *
  generalize countM x.1 = cr at *
  generalize countM x.2 = cs at *
  generalize prodIs x.1 x.2 a = pr at *
  generalize prodIs x.2 x.1 b = ps at *
  obtain ⟨_, _, rfl, _, _, _⟩ := h1.shape
  obtain ⟨_, _, rfl, _, _, _⟩ := h2.shape
  obtain ⟨xa, xc, rfl, _, _, _⟩ := t1.shape
  obtain ⟨ya, yc, rfl, _, _, _⟩ := t2.shape
  clear h1 h2 t1 t2
  go_enter Try.func150, Try.ntmps150
  go_wp2_with fail
  obtain ⟨w1, ex, A0, c0, c1, m1⟩ := boxA_ex w 38 (.slice xa x.1.length xc) (.slice ya x.2.length yc)
  change Calls Try.prog _ _ (w.alloc (.cells #[.slice xa x.1.length xc, .slice ya x.2.length yc] 38)) _
  rw [ex]
  clear ex
  refine (Ha.out _ A0).mono ?_
  rintro e w' ⟨rfl, rfl⟩
  cases ma with
  | false => go_wp2; go_ret; exact ⟨by rw [H.out]; rfl, A0⟩
  | true =>
  go_wp2_with fail
  refine (Hb.out _ A0).mono ?_
  rintro e w' ⟨rfl, rfl⟩
  cases mb with
  | false => go_wp2; go_ret; exact ⟨by rw [H.out]; rfl, A0⟩
  | true =>
  go_wp2_with fail
  refine (Hr.out _ A0).mono ?_
  rintro e w' ⟨rfl, rfl⟩
  cases cr with
  | false => go_wp2; go_ret; exact ⟨by rw [H.out]; rfl, A0⟩
  | true =>
  go_wp2_with fail
  refine (Hs.out _ A0).mono ?_
  rintro e w' ⟨rfl, rfl⟩
  cases cs with
  | false => go_wp2; go_ret; exact ⟨by rw [H.out]; rfl, A0⟩
  | true =>
  go_wp2_with fail
  refine (Hp.out _ A0).mono ?_
  rintro e w2 ⟨rfl, hb2⟩
  replace c0 := (hb2.cell (p := ⟨w.heap.size, 0, none⟩) m1).trans c0
  replace c1 := (hb2.cell (p := ⟨w.heap.size, 1, none⟩) m1).trans c1
  replace A0 := A0.trans (hb2.mono A0.size)
  clear hb2
  cases pr with
  | false => go_wp2; go_ret; exact ⟨by rw [H.out]; rfl, A0⟩
  | true =>
  go_wp2_with fail
  refine (Hq.out _ A0).mono ?_
  rintro e w3 ⟨rfl, hb3⟩
  replace A0 := A0.trans (hb3.mono A0.size)
  clear hb3
  go_wp2
  go_ret
  exact ⟨by rw [H.out]; rfl, A0⟩
set_option maxHeartbeats 1000000 in
theorem spec_IsStep_c {w : World} {va vb vx : Value} {a b : List (List Int)} {x : Tb × Tb} (h1 : Tab w va a) (h2 : Tab w vb b) (h3 : StepR w vx x) :
    Calls Try.prog 148 #[va, vb, vx] w fun e w' => e = .returned (.bool (stepM a b x)) ∧ Below w.heap.size w w' := by
  have H := Lib.hid (show stepM a b x = (isMat a && (isMat b && (countM x.1 && (countM x.2 && ((ttOk x.1 x.2 && decide (ttV x.1 x.2 = a)) && (ttOk x.2 x.1 && decide (ttV x.2 x.1 = b))))))) from rfl)
  generalize stepM a b x = T at H ⊢
  obtain ⟨v1, v2, rfl, t1, t2⟩ := h3
  have Ha := Lib.hid (fun w1 (hb : Below w.heap.size w w1) => spec_IsMatrix_c (Tab.frame _ _ _ _ h1 hb))
  have Hb := Lib.hid (fun w1 (hb : Below w.heap.size w w1) => spec_IsMatrix_c (Tab.frame _ _ _ _ h2 hb))
  have Hr := Lib.hid (fun w1 (hb : Below w.heap.size w w1) => l19Rows_c (Tab.frame _ _ _ _ t1 hb))
  have Hs := Lib.hid (fun w1 (hb : Below w.heap.size w w1) => l19Rows_c (Tab.frame _ _ _ _ t2 hb))
  have Hp := Lib.hid (fun w1 (hb : Below w.heap.size w w1) => spec_TableTimes_c (Tab.frame _ _ _ _ t1 hb) (Tab.frame _ _ _ _ t2 hb))
  have Hq := Lib.hid (fun w1 (hb : Below w.heap.size w w1) => spec_TableTimes_c (Tab.frame _ _ _ _ t2 hb) (Tab.frame _ _ _ _ t1 hb))
  have Hpe := Lib.hid (fun w1 v (hb : Below w.heap.size w w1) (h : Tab w1 v (ttV x.1 x.2)) => spec_EqualMatrix_c h (Tab.frame _ _ _ _ h1 hb))
  have Hqe := Lib.hid (fun w1 v (hb : Below w.heap.size w w1) (h : Tab w1 v (ttV x.2 x.1)) => spec_EqualMatrix_c h (Tab.frame _ _ _ _ h2 hb))
  generalize isMat a = ma at *
  generalize isMat b = mb at *
  generalize countM x.1 = cr at *
  generalize countM x.2 = cs at *
  generalize decide (ttV x.1 x.2 = a) = d1 at *
  generalize decide (ttV x.2 x.1 = b) = d2 at *
  generalize ttV x.1 x.2 = z1 at *
  generalize ttV x.2 x.1 = z2 at *
  generalize ttOk x.1 x.2 = k1 at *
  generalize ttOk x.2 x.1 = k2 at *
  obtain ⟨_, _, rfl, _, _, _⟩ := h1.shape
  obtain ⟨_, _, rfl, _, _, _⟩ := h2.shape
  obtain ⟨xa, xc, rfl, _, _, _⟩ := t1.shape
  obtain ⟨ya, yc, rfl, _, _, _⟩ := t2.shape
  clear h1 h2 t1 t2
  go_enter Try.func148, Try.ntmps148
  go_wp2_with fail
  obtain ⟨w1, ex, A0, c0, c1, m1⟩ := boxA_ex w 38 (.slice xa x.1.length xc) (.slice ya x.2.length yc)
  change Calls Try.prog _ _ (w.alloc (.cells #[.slice xa x.1.length xc, .slice ya x.2.length yc] 38)) _
  rw [ex]
  clear ex
  refine (Ha.out _ A0).mono ?_
  rintro e w' ⟨rfl, rfl⟩
  cases ma with
  | false => go_wp2; go_ret; exact ⟨by rw [H.out]; rfl, A0⟩
  | true =>
  go_wp2_with fail
  refine (Hb.out _ A0).mono ?_
  rintro e w' ⟨rfl, rfl⟩
  cases mb with
  | false => go_wp2; go_ret; exact ⟨by rw [H.out]; rfl, A0⟩
  | true =>
  go_wp2_with fail
  refine (Hr.out _ A0).mono ?_
  rintro e w' ⟨rfl, rfl⟩
  cases cr with
  | false => go_wp2; go_ret; exact ⟨by rw [H.out]; rfl, A0⟩
  | true =>
  go_wp2_with fail
  refine (Hs.out _ A0).mono ?_
  rintro e w' ⟨rfl, rfl⟩
  cases cs with
  | false => go_wp2; go_ret; exact ⟨by rw [H.out]; rfl, A0⟩
  | true =>
  go_wp2_with fail
  refine (Hp.out _ A0).mono ?_
  rintro e w2 ⟨u1, rfl, hn2, hb2⟩
  replace c0 := (hb2.cell (p := ⟨w.heap.size, 0, none⟩) m1).trans c0
  replace c1 := (hb2.cell (p := ⟨w.heap.size, 1, none⟩) m1).trans c1
  replace A0 := A0.trans (hb2.mono A0.size)
  have R1 := hn2.tab
  obtain ⟨_, _, _, rfl⟩ := hn2.slice
  clear hb2 hn2
  have HR1 := Lib.hid R1
  clear R1
  go_wp2_with fail
  refine (Hq.out _ A0).mono ?_
  rintro e w3 ⟨u2, rfl, hn3, hb3⟩
  have HR1' := Lib.hid (Tab.frame _ _ _ _ HR1.out hb3)
  replace A0 := A0.trans (hb3.mono A0.size)
  have HR2 := Lib.hid hn3.tab
  obtain ⟨_, _, _, rfl⟩ := hn3.slice
  clear hb3 hn3 c0 c1
  cases k1 with
  | false => go_wp2; go_ret; exact ⟨by rw [H.out]; rfl, A0⟩
  | true =>
  cases k2 with
  | false => go_wp2; go_ret; exact ⟨by rw [H.out]; cases d1 <;> rfl, A0⟩
  | true =>
  go_wp2_with fail
  refine (Hpe.out _ _ A0 HR1'.out).mono ?_
  rintro e w4 ⟨rfl, hd4⟩
  have HR2' := Lib.hid (hd4.read Tab.frame HR2.out)
  replace A0 := A0.trans (hd4.below _)
  clear hd4
  cases d1 with
  | false => go_wp2; go_ret; exact ⟨by rw [H.out]; rfl, A0⟩
  | true =>
  go_wp2_with fail
  refine (Hqe.out _ _ A0 HR2'.out).mono ?_
  rintro e w5 ⟨rfl, hd5⟩
  replace A0 := A0.trans (hd5.below _)
  clear hd5
  go_wp2
  go_ret
  exact ⟨by rw [H.out]; rfl, A0⟩
end Go.Proofs.Ytjgiobapdkdhpaa
