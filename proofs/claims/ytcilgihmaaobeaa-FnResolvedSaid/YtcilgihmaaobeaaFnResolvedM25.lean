/-
  Texts of this claim joined: laws for its walks, contracts of the functions that the law reaches.
-/
import Derived.Test.YtcilgihmaaobeaaFnResolvedM1
import Derived.Test.YtcilgihmaaobeaaFnResolvedM5
import Derived.Test.YtcilgihmaaobeaaFnResolvedM19
import Derived.Test.YtcilgihmaaobeaaFnResolvedM21
import Derived.Test.YtcilgihmaaobeaaFnResolvedM22
import Derived.Test.YtcilgihmaaobeaaFnResolvedM18
import Derived.Test.YtcilgihmaaobeaaFnResolvedM16
import Derived.Test.YtcilgihmaaobeaaFnResolvedM20
import Derived.Test.YtcilgihmaaobeaaFnResolvedM23
import Derived.Test.YtcilgihmaaobeaaFnResolvedM24
import Derived.Test.YtcilgihmaaobeaaFnResolvedM3
import Derived.Test.YtcilgihmaaobeaaFnResolvedM13
import Derived.Deep.RegionHeld3
import Derived.Deep.DeepCutAuto
set_option linter.unusedVariables false
set_option linter.unusedSimpArgs false
section
namespace Go.Proofs.Ytcilgihmaaobeaa
open Go.RowKit Go.Deep Go.Sd
set_option linter.unusedSimpArgs false
theorem sameTexts_b {w : World} {v1 v2 : Value} {xs : List ByteArray} (h1 : StrsR w v1 xs) (h2 : StrsR w v2 xs) : Calls Try.prog 17 #[v1, v2] w fun e w' => e = .returned (.bool true) ∧ Below w.heap.size w w' :=
  (sameTexts_same h1 h2).mono fun _ _ h => ⟨h.1, h.2.below _⟩
set_option linter.unusedVariables false in
set_option maxHeartbeats 8000000 in
set_option maxRecDepth 100000 in
theorem law_FnResolved {w : World} {v0 : Value} {a0 : List Int} (t0 : BytR w v0 a0) (b0 : True) :
    Calls Try.prog 3 #[v0] w fun e w' => e = .returned (.bool true) ∧ Below w.heap.size w w' := by
  have hlen := t0.len
  have HD := Lib.hid t0
  obtain ⟨va, vc, rfl, -⟩ := t0.cellsB
  obtain ⟨n0, hn0⟩ : ∃ n, n = a0.length := ⟨_, rfl⟩
  rw [← hn0] at HD hlen ⊢
  have HBig := Lib.hid (big_c (w := w) (a := va) (c := vc) hlen)
  clear t0 b0 hn0 hlen
  by_cases hbig : 1048576 < n0
  · rw [decide_eq_true hbig] at HBig
    clear HD
    go_enter Try.func3, Try.ntmps3
    go_wp2_with fail
    (with_reducible refine HBig.out.mono ?_)
    rintro e w9 ⟨rfl, hw9⟩
    rw [← hw9]
    clear hw9 w9
    go_wp2
    go_ret
    exact ⟨rfl, Below.refl _ _⟩
  rw [decide_eq_false hbig] at HBig
  clear hbig
  have HB := Lib.hid (Below.refl w.heap.size w)
  go_enter Try.func3, Try.ntmps3
  go_wp2_with fail
  (with_reducible refine HBig.out.mono ?_)
  rintro e w9 ⟨rfl, hw9⟩
  rw [← hw9]
  clear hw9 w9 HBig
  have HQ := Lib.hid (DrawResolveLabels_c HD.out)
  go_wp2_with fail
  (with_reducible refine HQ.out.mono ?_)
  clear HQ
  rintro e w1 ⟨vl, l, rfl, hn, hb⟩
  replace HD := Lib.hid (BytR.frame _ _ _ _ HD.out hb)
  replace HB := Lib.hid (HB.out.trans (hb.mono HB.out.size))
  have Hl := Lib.hid (New.lab hn)
  obtain ⟨_, hv, -, xa_l, xc_l, hv2, -⟩ := Hl.out
  subst hv2
  subst hv
  generalize hn_l : l.2.2.length = n_l at Hl ⊢
  have Hn_l := Lib.hid hn_l
  clear hn_l
  clear hn hb
  obtain ⟨w2, eb_l, hb, cell_l0, cell_l1, cell_l2, mb_l⟩ := boxA3_ex w1 26 (.int .i64 l.1) (.int .i64 l.2.1) (.slice xa_l n_l xc_l)
  replace HD := Lib.hid (BytR.frame _ _ _ _ HD.out hb)
  replace Hl := Lib.hid (LabR.frame _ _ _ _ Hl.out hb)
  replace HB := Lib.hid (HB.out.trans (hb.mono HB.out.size))
  clear hb
  obtain ⟨X, h_X⟩ : ∃ bb_, bb_ = rslV l := ⟨_, rfl⟩
  have H_X := Lib.hid h_X
  clear h_X
  obtain ⟨ok, h_ok⟩ : ∃ bb_, bb_ = rslOk l := ⟨_, rfl⟩
  have H_ok := Lib.hid h_ok
  clear h_ok
  have tn_ok : (ok != ok) = false := by cases ok <;> rfl
  have HQ := Lib.hid (impl_ResolveLabels_c Hl.out)
  rw [← H_X.out] at HQ
  rw [← H_ok.out] at HQ
  go_wp2_with fail
  (with_reducible refine HQ.out.mono ?_)
  clear HQ
  rintro e w3 ⟨vx, rfl, hn, hb⟩
  replace HD := Lib.hid (BytR.frame _ _ _ _ HD.out hb)
  replace Hl := Lib.hid (LabR.frame _ _ _ _ Hl.out hb)
  replace cell_l0 := (hb.cell (p := ⟨w1.heap.size, 0, none⟩) mb_l).trans cell_l0
  replace cell_l1 := (hb.cell (p := ⟨w1.heap.size, 1, none⟩) mb_l).trans cell_l1
  replace cell_l2 := (hb.cell (p := ⟨w1.heap.size, 2, none⟩) mb_l).trans cell_l2
  replace mb_l := Nat.lt_of_lt_of_le mb_l hb.size
  replace HB := Lib.hid (HB.out.trans (hb.mono HB.out.size))
  clear eb_l
  have Hx := Lib.hid (New.lab hn)
  obtain ⟨_, hv, -, xa_x, xc_x, hv2, -⟩ := Hx.out
  subst hv2
  subst hv
  generalize hn_x : X.2.2.length = n_x at Hx ⊢
  have Hn_x := Lib.hid hn_x
  clear hn_x
  clear hn hb
  obtain ⟨w4, eb_x, hb, cell_x0, cell_x1, cell_x2, mb_x⟩ := boxA3_ex w3 26 (.int .i64 X.1) (.int .i64 X.2.1) (.slice xa_x n_x xc_x)
  replace HD := Lib.hid (BytR.frame _ _ _ _ HD.out hb)
  replace Hl := Lib.hid (LabR.frame _ _ _ _ Hl.out hb)
  replace Hx := Lib.hid (LabR.frame _ _ _ _ Hx.out hb)
  replace cell_l0 := (hb.cell (p := ⟨w1.heap.size, 0, none⟩) mb_l).trans cell_l0
  replace cell_l1 := (hb.cell (p := ⟨w1.heap.size, 1, none⟩) mb_l).trans cell_l1
  replace cell_l2 := (hb.cell (p := ⟨w1.heap.size, 2, none⟩) mb_l).trans cell_l2
  replace mb_l := Nat.lt_of_lt_of_le mb_l hb.size
  replace HB := Lib.hid (HB.out.trans (hb.mono HB.out.size))
  clear hb
  have HQ := Lib.hid (spec_ResolveLabels_c Hl.out)
  rw [← H_X.out] at HQ
  rw [← H_ok.out] at HQ
  go_wp2_with fail
  (with_reducible refine HQ.out.mono ?_)
  clear HQ
  rintro e w5 ⟨vu, rfl, hn, hb⟩
  replace HD := Lib.hid (BytR.frame _ _ _ _ HD.out hb)
  replace Hl := Lib.hid (LabR.frame _ _ _ _ Hl.out hb)
  replace Hx := Lib.hid (LabR.frame _ _ _ _ Hx.out hb)
  replace cell_l0 := (hb.cell (p := ⟨w1.heap.size, 0, none⟩) mb_l).trans cell_l0
  replace cell_l1 := (hb.cell (p := ⟨w1.heap.size, 1, none⟩) mb_l).trans cell_l1
  replace cell_l2 := (hb.cell (p := ⟨w1.heap.size, 2, none⟩) mb_l).trans cell_l2
  replace mb_l := Nat.lt_of_lt_of_le mb_l hb.size
  replace cell_x0 := (hb.cell (p := ⟨w3.heap.size, 0, none⟩) mb_x).trans cell_x0
  replace cell_x1 := (hb.cell (p := ⟨w3.heap.size, 1, none⟩) mb_x).trans cell_x1
  replace cell_x2 := (hb.cell (p := ⟨w3.heap.size, 2, none⟩) mb_x).trans cell_x2
  replace mb_x := Nat.lt_of_lt_of_le mb_x hb.size
  replace HB := Lib.hid (HB.out.trans (hb.mono HB.out.size))
  clear eb_x
  have Hu := Lib.hid (New.lab hn)
  obtain ⟨_, hv, -, xa_u, xc_u, hv2, -⟩ := Hu.out
  subst hv2
  subst hv
  generalize hn_u : X.2.2.length = n_u at Hu ⊢
  have Hn_u := Lib.hid hn_u
  clear hn_u
  clear hn hb
  obtain ⟨w6, eb_u, hb, cell_u0, cell_u1, cell_u2, mb_u⟩ := boxA3_ex w5 26 (.int .i64 X.1) (.int .i64 X.2.1) (.slice xa_u n_u xc_u)
  replace HD := Lib.hid (BytR.frame _ _ _ _ HD.out hb)
  replace Hl := Lib.hid (LabR.frame _ _ _ _ Hl.out hb)
  replace Hx := Lib.hid (LabR.frame _ _ _ _ Hx.out hb)
  replace Hu := Lib.hid (LabR.frame _ _ _ _ Hu.out hb)
  replace cell_l0 := (hb.cell (p := ⟨w1.heap.size, 0, none⟩) mb_l).trans cell_l0
  replace cell_l1 := (hb.cell (p := ⟨w1.heap.size, 1, none⟩) mb_l).trans cell_l1
  replace cell_l2 := (hb.cell (p := ⟨w1.heap.size, 2, none⟩) mb_l).trans cell_l2
  replace mb_l := Nat.lt_of_lt_of_le mb_l hb.size
  replace cell_x0 := (hb.cell (p := ⟨w3.heap.size, 0, none⟩) mb_x).trans cell_x0
  replace cell_x1 := (hb.cell (p := ⟨w3.heap.size, 1, none⟩) mb_x).trans cell_x1
  replace cell_x2 := (hb.cell (p := ⟨w3.heap.size, 2, none⟩) mb_x).trans cell_x2
  replace mb_x := Nat.lt_of_lt_of_le mb_x hb.size
  replace HB := Lib.hid (HB.out.trans (hb.mono HB.out.size))
  clear hb
  have HQ := Lib.hid (DrawSmallestLabels_c HD.out)
  go_wp2_with fail
  (with_reducible refine HQ.out.mono ?_)
  clear HQ
  rintro e w7 ⟨vs, s, rfl, hn, hb⟩
  replace HD := Lib.hid (BytR.frame _ _ _ _ HD.out hb)
  replace Hl := Lib.hid (LabR.frame _ _ _ _ Hl.out hb)
  replace Hx := Lib.hid (LabR.frame _ _ _ _ Hx.out hb)
  replace Hu := Lib.hid (LabR.frame _ _ _ _ Hu.out hb)
  replace cell_l0 := (hb.cell (p := ⟨w1.heap.size, 0, none⟩) mb_l).trans cell_l0
  replace cell_l1 := (hb.cell (p := ⟨w1.heap.size, 1, none⟩) mb_l).trans cell_l1
  replace cell_l2 := (hb.cell (p := ⟨w1.heap.size, 2, none⟩) mb_l).trans cell_l2
  replace mb_l := Nat.lt_of_lt_of_le mb_l hb.size
  replace cell_x0 := (hb.cell (p := ⟨w3.heap.size, 0, none⟩) mb_x).trans cell_x0
  replace cell_x1 := (hb.cell (p := ⟨w3.heap.size, 1, none⟩) mb_x).trans cell_x1
  replace cell_x2 := (hb.cell (p := ⟨w3.heap.size, 2, none⟩) mb_x).trans cell_x2
  replace mb_x := Nat.lt_of_lt_of_le mb_x hb.size
  replace cell_u0 := (hb.cell (p := ⟨w5.heap.size, 0, none⟩) mb_u).trans cell_u0
  replace cell_u1 := (hb.cell (p := ⟨w5.heap.size, 1, none⟩) mb_u).trans cell_u1
  replace cell_u2 := (hb.cell (p := ⟨w5.heap.size, 2, none⟩) mb_u).trans cell_u2
  replace mb_u := Nat.lt_of_lt_of_le mb_u hb.size
  replace HB := Lib.hid (HB.out.trans (hb.mono HB.out.size))
  clear eb_u
  have Hs := Lib.hid (New.lab hn)
  obtain ⟨_, hv, -, xa_s, xc_s, hv2, -⟩ := Hs.out
  subst hv2
  subst hv
  generalize hn_s : s.2.2.length = n_s at Hs ⊢
  have Hn_s := Lib.hid hn_s
  clear hn_s
  clear hn hb
  obtain ⟨w8, eb_s, hb, cell_s0, cell_s1, cell_s2, mb_s⟩ := boxA3_ex w7 26 (.int .i64 s.1) (.int .i64 s.2.1) (.slice xa_s n_s xc_s)
  replace HD := Lib.hid (BytR.frame _ _ _ _ HD.out hb)
  replace Hl := Lib.hid (LabR.frame _ _ _ _ Hl.out hb)
  replace Hx := Lib.hid (LabR.frame _ _ _ _ Hx.out hb)
  replace Hu := Lib.hid (LabR.frame _ _ _ _ Hu.out hb)
  replace Hs := Lib.hid (LabR.frame _ _ _ _ Hs.out hb)
  replace cell_l0 := (hb.cell (p := ⟨w1.heap.size, 0, none⟩) mb_l).trans cell_l0
  replace cell_l1 := (hb.cell (p := ⟨w1.heap.size, 1, none⟩) mb_l).trans cell_l1
  replace cell_l2 := (hb.cell (p := ⟨w1.heap.size, 2, none⟩) mb_l).trans cell_l2
  replace mb_l := Nat.lt_of_lt_of_le mb_l hb.size
  replace cell_x0 := (hb.cell (p := ⟨w3.heap.size, 0, none⟩) mb_x).trans cell_x0
  replace cell_x1 := (hb.cell (p := ⟨w3.heap.size, 1, none⟩) mb_x).trans cell_x1
  replace cell_x2 := (hb.cell (p := ⟨w3.heap.size, 2, none⟩) mb_x).trans cell_x2
  replace mb_x := Nat.lt_of_lt_of_le mb_x hb.size
  replace cell_u0 := (hb.cell (p := ⟨w5.heap.size, 0, none⟩) mb_u).trans cell_u0
  replace cell_u1 := (hb.cell (p := ⟨w5.heap.size, 1, none⟩) mb_u).trans cell_u1
  replace cell_u2 := (hb.cell (p := ⟨w5.heap.size, 2, none⟩) mb_u).trans cell_u2
  replace mb_u := Nat.lt_of_lt_of_le mb_u hb.size
  replace HB := Lib.hid (HB.out.trans (hb.mono HB.out.size))
  clear hb
  obtain ⟨Y, h_Y⟩ : ∃ bb_, bb_ = smV s := ⟨_, rfl⟩
  have H_Y := Lib.hid h_Y
  clear h_Y
  obtain ⟨one, h_one⟩ : ∃ bb_, bb_ = resolvM s := ⟨_, rfl⟩
  have H_one := Lib.hid h_one
  clear h_one
  have tn_one : (one != one) = false := by cases one <;> rfl
  have HQ := Lib.hid (impl_SmallestLabels_c Hs.out)
  rw [← H_Y.out] at HQ
  rw [← H_one.out] at HQ
  go_wp2_with fail
  (with_reducible refine HQ.out.mono ?_)
  clear HQ
  rintro e w9 ⟨vy, rfl, hn, hb⟩
  replace HD := Lib.hid (BytR.frame _ _ _ _ HD.out hb)
  replace Hl := Lib.hid (LabR.frame _ _ _ _ Hl.out hb)
  replace Hx := Lib.hid (LabR.frame _ _ _ _ Hx.out hb)
  replace Hu := Lib.hid (LabR.frame _ _ _ _ Hu.out hb)
  replace Hs := Lib.hid (LabR.frame _ _ _ _ Hs.out hb)
  replace cell_l0 := (hb.cell (p := ⟨w1.heap.size, 0, none⟩) mb_l).trans cell_l0
  replace cell_l1 := (hb.cell (p := ⟨w1.heap.size, 1, none⟩) mb_l).trans cell_l1
  replace cell_l2 := (hb.cell (p := ⟨w1.heap.size, 2, none⟩) mb_l).trans cell_l2
  replace mb_l := Nat.lt_of_lt_of_le mb_l hb.size
  replace cell_x0 := (hb.cell (p := ⟨w3.heap.size, 0, none⟩) mb_x).trans cell_x0
  replace cell_x1 := (hb.cell (p := ⟨w3.heap.size, 1, none⟩) mb_x).trans cell_x1
  replace cell_x2 := (hb.cell (p := ⟨w3.heap.size, 2, none⟩) mb_x).trans cell_x2
  replace mb_x := Nat.lt_of_lt_of_le mb_x hb.size
  replace cell_u0 := (hb.cell (p := ⟨w5.heap.size, 0, none⟩) mb_u).trans cell_u0
  replace cell_u1 := (hb.cell (p := ⟨w5.heap.size, 1, none⟩) mb_u).trans cell_u1
  replace cell_u2 := (hb.cell (p := ⟨w5.heap.size, 2, none⟩) mb_u).trans cell_u2
  replace mb_u := Nat.lt_of_lt_of_le mb_u hb.size
  replace cell_s0 := (hb.cell (p := ⟨w7.heap.size, 0, none⟩) mb_s).trans cell_s0
  replace cell_s1 := (hb.cell (p := ⟨w7.heap.size, 1, none⟩) mb_s).trans cell_s1
  replace cell_s2 := (hb.cell (p := ⟨w7.heap.size, 2, none⟩) mb_s).trans cell_s2
  replace mb_s := Nat.lt_of_lt_of_le mb_s hb.size
  replace HB := Lib.hid (HB.out.trans (hb.mono HB.out.size))
  clear eb_s
  have Hy := Lib.hid (New.lab hn)
  obtain ⟨_, hv, -, xa_y, xc_y, hv2, -⟩ := Hy.out
  subst hv2
  subst hv
  generalize hn_y : Y.2.2.length = n_y at Hy ⊢
  have Hn_y := Lib.hid hn_y
  clear hn_y
  clear hn hb
  obtain ⟨w10, eb_y, hb, cell_y0, cell_y1, cell_y2, mb_y⟩ := boxA3_ex w9 26 (.int .i64 Y.1) (.int .i64 Y.2.1) (.slice xa_y n_y xc_y)
  replace HD := Lib.hid (BytR.frame _ _ _ _ HD.out hb)
  replace Hl := Lib.hid (LabR.frame _ _ _ _ Hl.out hb)
  replace Hx := Lib.hid (LabR.frame _ _ _ _ Hx.out hb)
  replace Hu := Lib.hid (LabR.frame _ _ _ _ Hu.out hb)
  replace Hs := Lib.hid (LabR.frame _ _ _ _ Hs.out hb)
  replace Hy := Lib.hid (LabR.frame _ _ _ _ Hy.out hb)
  replace cell_l0 := (hb.cell (p := ⟨w1.heap.size, 0, none⟩) mb_l).trans cell_l0
  replace cell_l1 := (hb.cell (p := ⟨w1.heap.size, 1, none⟩) mb_l).trans cell_l1
  replace cell_l2 := (hb.cell (p := ⟨w1.heap.size, 2, none⟩) mb_l).trans cell_l2
  replace mb_l := Nat.lt_of_lt_of_le mb_l hb.size
  replace cell_x0 := (hb.cell (p := ⟨w3.heap.size, 0, none⟩) mb_x).trans cell_x0
  replace cell_x1 := (hb.cell (p := ⟨w3.heap.size, 1, none⟩) mb_x).trans cell_x1
  replace cell_x2 := (hb.cell (p := ⟨w3.heap.size, 2, none⟩) mb_x).trans cell_x2
  replace mb_x := Nat.lt_of_lt_of_le mb_x hb.size
  replace cell_u0 := (hb.cell (p := ⟨w5.heap.size, 0, none⟩) mb_u).trans cell_u0
  replace cell_u1 := (hb.cell (p := ⟨w5.heap.size, 1, none⟩) mb_u).trans cell_u1
  replace cell_u2 := (hb.cell (p := ⟨w5.heap.size, 2, none⟩) mb_u).trans cell_u2
  replace mb_u := Nat.lt_of_lt_of_le mb_u hb.size
  replace cell_s0 := (hb.cell (p := ⟨w7.heap.size, 0, none⟩) mb_s).trans cell_s0
  replace cell_s1 := (hb.cell (p := ⟨w7.heap.size, 1, none⟩) mb_s).trans cell_s1
  replace cell_s2 := (hb.cell (p := ⟨w7.heap.size, 2, none⟩) mb_s).trans cell_s2
  replace mb_s := Nat.lt_of_lt_of_le mb_s hb.size
  replace HB := Lib.hid (HB.out.trans (hb.mono HB.out.size))
  clear hb
  have HQ := Lib.hid (spec_SmallestLabels_c Hs.out)
  rw [← H_Y.out] at HQ
  rw [← H_one.out] at HQ
  go_wp2_with fail
  (with_reducible refine HQ.out.mono ?_)
  clear HQ
  rintro e w11 ⟨vz, rfl, hn, hb⟩
  replace HD := Lib.hid (BytR.frame _ _ _ _ HD.out hb)
  replace Hl := Lib.hid (LabR.frame _ _ _ _ Hl.out hb)
  replace Hx := Lib.hid (LabR.frame _ _ _ _ Hx.out hb)
  replace Hu := Lib.hid (LabR.frame _ _ _ _ Hu.out hb)
  replace Hs := Lib.hid (LabR.frame _ _ _ _ Hs.out hb)
  replace Hy := Lib.hid (LabR.frame _ _ _ _ Hy.out hb)
  replace cell_l0 := (hb.cell (p := ⟨w1.heap.size, 0, none⟩) mb_l).trans cell_l0
  replace cell_l1 := (hb.cell (p := ⟨w1.heap.size, 1, none⟩) mb_l).trans cell_l1
  replace cell_l2 := (hb.cell (p := ⟨w1.heap.size, 2, none⟩) mb_l).trans cell_l2
  replace mb_l := Nat.lt_of_lt_of_le mb_l hb.size
  replace cell_x0 := (hb.cell (p := ⟨w3.heap.size, 0, none⟩) mb_x).trans cell_x0
  replace cell_x1 := (hb.cell (p := ⟨w3.heap.size, 1, none⟩) mb_x).trans cell_x1
  replace cell_x2 := (hb.cell (p := ⟨w3.heap.size, 2, none⟩) mb_x).trans cell_x2
  replace mb_x := Nat.lt_of_lt_of_le mb_x hb.size
  replace cell_u0 := (hb.cell (p := ⟨w5.heap.size, 0, none⟩) mb_u).trans cell_u0
  replace cell_u1 := (hb.cell (p := ⟨w5.heap.size, 1, none⟩) mb_u).trans cell_u1
  replace cell_u2 := (hb.cell (p := ⟨w5.heap.size, 2, none⟩) mb_u).trans cell_u2
  replace mb_u := Nat.lt_of_lt_of_le mb_u hb.size
  replace cell_s0 := (hb.cell (p := ⟨w7.heap.size, 0, none⟩) mb_s).trans cell_s0
  replace cell_s1 := (hb.cell (p := ⟨w7.heap.size, 1, none⟩) mb_s).trans cell_s1
  replace cell_s2 := (hb.cell (p := ⟨w7.heap.size, 2, none⟩) mb_s).trans cell_s2
  replace mb_s := Nat.lt_of_lt_of_le mb_s hb.size
  replace cell_y0 := (hb.cell (p := ⟨w9.heap.size, 0, none⟩) mb_y).trans cell_y0
  replace cell_y1 := (hb.cell (p := ⟨w9.heap.size, 1, none⟩) mb_y).trans cell_y1
  replace cell_y2 := (hb.cell (p := ⟨w9.heap.size, 2, none⟩) mb_y).trans cell_y2
  replace mb_y := Nat.lt_of_lt_of_le mb_y hb.size
  replace HB := Lib.hid (HB.out.trans (hb.mono HB.out.size))
  clear eb_y
  have Hz := Lib.hid (New.lab hn)
  obtain ⟨_, hv, -, xa_z, xc_z, hv2, -⟩ := Hz.out
  subst hv2
  subst hv
  generalize hn_z : Y.2.2.length = n_z at Hz ⊢
  have Hn_z := Lib.hid hn_z
  clear hn_z
  clear hn hb
  obtain ⟨w12, eb_z, hb, cell_z0, cell_z1, cell_z2, mb_z⟩ := boxA3_ex w11 26 (.int .i64 Y.1) (.int .i64 Y.2.1) (.slice xa_z n_z xc_z)
  replace HD := Lib.hid (BytR.frame _ _ _ _ HD.out hb)
  replace Hl := Lib.hid (LabR.frame _ _ _ _ Hl.out hb)
  replace Hx := Lib.hid (LabR.frame _ _ _ _ Hx.out hb)
  replace Hu := Lib.hid (LabR.frame _ _ _ _ Hu.out hb)
  replace Hs := Lib.hid (LabR.frame _ _ _ _ Hs.out hb)
  replace Hy := Lib.hid (LabR.frame _ _ _ _ Hy.out hb)
  replace Hz := Lib.hid (LabR.frame _ _ _ _ Hz.out hb)
  replace cell_l0 := (hb.cell (p := ⟨w1.heap.size, 0, none⟩) mb_l).trans cell_l0
  replace cell_l1 := (hb.cell (p := ⟨w1.heap.size, 1, none⟩) mb_l).trans cell_l1
  replace cell_l2 := (hb.cell (p := ⟨w1.heap.size, 2, none⟩) mb_l).trans cell_l2
  replace mb_l := Nat.lt_of_lt_of_le mb_l hb.size
  replace cell_x0 := (hb.cell (p := ⟨w3.heap.size, 0, none⟩) mb_x).trans cell_x0
  replace cell_x1 := (hb.cell (p := ⟨w3.heap.size, 1, none⟩) mb_x).trans cell_x1
  replace cell_x2 := (hb.cell (p := ⟨w3.heap.size, 2, none⟩) mb_x).trans cell_x2
  replace mb_x := Nat.lt_of_lt_of_le mb_x hb.size
  replace cell_u0 := (hb.cell (p := ⟨w5.heap.size, 0, none⟩) mb_u).trans cell_u0
  replace cell_u1 := (hb.cell (p := ⟨w5.heap.size, 1, none⟩) mb_u).trans cell_u1
  replace cell_u2 := (hb.cell (p := ⟨w5.heap.size, 2, none⟩) mb_u).trans cell_u2
  replace mb_u := Nat.lt_of_lt_of_le mb_u hb.size
  replace cell_s0 := (hb.cell (p := ⟨w7.heap.size, 0, none⟩) mb_s).trans cell_s0
  replace cell_s1 := (hb.cell (p := ⟨w7.heap.size, 1, none⟩) mb_s).trans cell_s1
  replace cell_s2 := (hb.cell (p := ⟨w7.heap.size, 2, none⟩) mb_s).trans cell_s2
  replace mb_s := Nat.lt_of_lt_of_le mb_s hb.size
  replace cell_y0 := (hb.cell (p := ⟨w9.heap.size, 0, none⟩) mb_y).trans cell_y0
  replace cell_y1 := (hb.cell (p := ⟨w9.heap.size, 1, none⟩) mb_y).trans cell_y1
  replace cell_y2 := (hb.cell (p := ⟨w9.heap.size, 2, none⟩) mb_y).trans cell_y2
  replace mb_y := Nat.lt_of_lt_of_le mb_y hb.size
  replace HB := Lib.hid (HB.out.trans (hb.mono HB.out.size))
  clear hb
  have HQ := Lib.hid (DrawReadSame_c HD.out)
  go_wp2_with fail
  (with_reducible refine HQ.out.mono ?_)
  clear HQ
  rintro e w13 ⟨va', vb', a, b, rfl, ta, tb, hb⟩
  replace HD := Lib.hid (BytR.frame _ _ _ _ HD.out hb)
  replace Hl := Lib.hid (LabR.frame _ _ _ _ Hl.out hb)
  replace Hx := Lib.hid (LabR.frame _ _ _ _ Hx.out hb)
  replace Hu := Lib.hid (LabR.frame _ _ _ _ Hu.out hb)
  replace Hs := Lib.hid (LabR.frame _ _ _ _ Hs.out hb)
  replace Hy := Lib.hid (LabR.frame _ _ _ _ Hy.out hb)
  replace Hz := Lib.hid (LabR.frame _ _ _ _ Hz.out hb)
  replace cell_l0 := (hb.cell (p := ⟨w1.heap.size, 0, none⟩) mb_l).trans cell_l0
  replace cell_l1 := (hb.cell (p := ⟨w1.heap.size, 1, none⟩) mb_l).trans cell_l1
  replace cell_l2 := (hb.cell (p := ⟨w1.heap.size, 2, none⟩) mb_l).trans cell_l2
  replace mb_l := Nat.lt_of_lt_of_le mb_l hb.size
  replace cell_x0 := (hb.cell (p := ⟨w3.heap.size, 0, none⟩) mb_x).trans cell_x0
  replace cell_x1 := (hb.cell (p := ⟨w3.heap.size, 1, none⟩) mb_x).trans cell_x1
  replace cell_x2 := (hb.cell (p := ⟨w3.heap.size, 2, none⟩) mb_x).trans cell_x2
  replace mb_x := Nat.lt_of_lt_of_le mb_x hb.size
  replace cell_u0 := (hb.cell (p := ⟨w5.heap.size, 0, none⟩) mb_u).trans cell_u0
  replace cell_u1 := (hb.cell (p := ⟨w5.heap.size, 1, none⟩) mb_u).trans cell_u1
  replace cell_u2 := (hb.cell (p := ⟨w5.heap.size, 2, none⟩) mb_u).trans cell_u2
  replace mb_u := Nat.lt_of_lt_of_le mb_u hb.size
  replace cell_s0 := (hb.cell (p := ⟨w7.heap.size, 0, none⟩) mb_s).trans cell_s0
  replace cell_s1 := (hb.cell (p := ⟨w7.heap.size, 1, none⟩) mb_s).trans cell_s1
  replace cell_s2 := (hb.cell (p := ⟨w7.heap.size, 2, none⟩) mb_s).trans cell_s2
  replace mb_s := Nat.lt_of_lt_of_le mb_s hb.size
  replace cell_y0 := (hb.cell (p := ⟨w9.heap.size, 0, none⟩) mb_y).trans cell_y0
  replace cell_y1 := (hb.cell (p := ⟨w9.heap.size, 1, none⟩) mb_y).trans cell_y1
  replace cell_y2 := (hb.cell (p := ⟨w9.heap.size, 2, none⟩) mb_y).trans cell_y2
  replace mb_y := Nat.lt_of_lt_of_le mb_y hb.size
  replace cell_z0 := (hb.cell (p := ⟨w11.heap.size, 0, none⟩) mb_z).trans cell_z0
  replace cell_z1 := (hb.cell (p := ⟨w11.heap.size, 1, none⟩) mb_z).trans cell_z1
  replace cell_z2 := (hb.cell (p := ⟨w11.heap.size, 2, none⟩) mb_z).trans cell_z2
  replace mb_z := Nat.lt_of_lt_of_le mb_z hb.size
  replace HB := Lib.hid (HB.out.trans (hb.mono HB.out.size))
  clear eb_z
  have Ha := Lib.hid (ta)
  obtain ⟨_, hv, -, xa_a, xc_a, hv2, -⟩ := Ha.out
  subst hv2
  subst hv
  generalize hn_a : a.2.2.length = n_a at Ha ⊢
  have Hn_a := Lib.hid hn_a
  clear hn_a
  have Hb := Lib.hid (tb)
  obtain ⟨_, hv, -, xa_b, xc_b, hv2, -⟩ := Hb.out
  subst hv2
  subst hv
  generalize hn_b : b.2.2.length = n_b at Hb ⊢
  have Hn_b := Lib.hid hn_b
  clear hn_b
  clear ta tb hb
  obtain ⟨w14, eb_a, hb, cell_a0, cell_a1, cell_a2, mb_a⟩ := boxA3_ex w13 26 (.int .i64 a.1) (.int .i64 a.2.1) (.slice xa_a n_a xc_a)
  replace HD := Lib.hid (BytR.frame _ _ _ _ HD.out hb)
  replace Hl := Lib.hid (LabR.frame _ _ _ _ Hl.out hb)
  replace Hx := Lib.hid (LabR.frame _ _ _ _ Hx.out hb)
  replace Hu := Lib.hid (LabR.frame _ _ _ _ Hu.out hb)
  replace Hs := Lib.hid (LabR.frame _ _ _ _ Hs.out hb)
  replace Hy := Lib.hid (LabR.frame _ _ _ _ Hy.out hb)
  replace Hz := Lib.hid (LabR.frame _ _ _ _ Hz.out hb)
  replace Ha := Lib.hid (LabR.frame _ _ _ _ Ha.out hb)
  replace Hb := Lib.hid (LabR.frame _ _ _ _ Hb.out hb)
  replace cell_l0 := (hb.cell (p := ⟨w1.heap.size, 0, none⟩) mb_l).trans cell_l0
  replace cell_l1 := (hb.cell (p := ⟨w1.heap.size, 1, none⟩) mb_l).trans cell_l1
  replace cell_l2 := (hb.cell (p := ⟨w1.heap.size, 2, none⟩) mb_l).trans cell_l2
  replace mb_l := Nat.lt_of_lt_of_le mb_l hb.size
  replace cell_x0 := (hb.cell (p := ⟨w3.heap.size, 0, none⟩) mb_x).trans cell_x0
  replace cell_x1 := (hb.cell (p := ⟨w3.heap.size, 1, none⟩) mb_x).trans cell_x1
  replace cell_x2 := (hb.cell (p := ⟨w3.heap.size, 2, none⟩) mb_x).trans cell_x2
  replace mb_x := Nat.lt_of_lt_of_le mb_x hb.size
  replace cell_u0 := (hb.cell (p := ⟨w5.heap.size, 0, none⟩) mb_u).trans cell_u0
  replace cell_u1 := (hb.cell (p := ⟨w5.heap.size, 1, none⟩) mb_u).trans cell_u1
  replace cell_u2 := (hb.cell (p := ⟨w5.heap.size, 2, none⟩) mb_u).trans cell_u2
  replace mb_u := Nat.lt_of_lt_of_le mb_u hb.size
  replace cell_s0 := (hb.cell (p := ⟨w7.heap.size, 0, none⟩) mb_s).trans cell_s0
  replace cell_s1 := (hb.cell (p := ⟨w7.heap.size, 1, none⟩) mb_s).trans cell_s1
  replace cell_s2 := (hb.cell (p := ⟨w7.heap.size, 2, none⟩) mb_s).trans cell_s2
  replace mb_s := Nat.lt_of_lt_of_le mb_s hb.size
  replace cell_y0 := (hb.cell (p := ⟨w9.heap.size, 0, none⟩) mb_y).trans cell_y0
  replace cell_y1 := (hb.cell (p := ⟨w9.heap.size, 1, none⟩) mb_y).trans cell_y1
  replace cell_y2 := (hb.cell (p := ⟨w9.heap.size, 2, none⟩) mb_y).trans cell_y2
  replace mb_y := Nat.lt_of_lt_of_le mb_y hb.size
  replace cell_z0 := (hb.cell (p := ⟨w11.heap.size, 0, none⟩) mb_z).trans cell_z0
  replace cell_z1 := (hb.cell (p := ⟨w11.heap.size, 1, none⟩) mb_z).trans cell_z1
  replace cell_z2 := (hb.cell (p := ⟨w11.heap.size, 2, none⟩) mb_z).trans cell_z2
  replace mb_z := Nat.lt_of_lt_of_le mb_z hb.size
  replace HB := Lib.hid (HB.out.trans (hb.mono HB.out.size))
  clear hb
  have z_a : w14.heap.size = w13.heap.size + 1 := by rw [← eb_a]; simp
  obtain ⟨w15, eb_b, hb, cell_b0, cell_b1, cell_b2, mb_b⟩ := boxA3_ex w14 26 (.int .i64 b.1) (.int .i64 b.2.1) (.slice xa_b n_b xc_b)
  replace HD := Lib.hid (BytR.frame _ _ _ _ HD.out hb)
  replace Hl := Lib.hid (LabR.frame _ _ _ _ Hl.out hb)
  replace Hx := Lib.hid (LabR.frame _ _ _ _ Hx.out hb)
  replace Hu := Lib.hid (LabR.frame _ _ _ _ Hu.out hb)
  replace Hs := Lib.hid (LabR.frame _ _ _ _ Hs.out hb)
  replace Hy := Lib.hid (LabR.frame _ _ _ _ Hy.out hb)
  replace Hz := Lib.hid (LabR.frame _ _ _ _ Hz.out hb)
  replace Ha := Lib.hid (LabR.frame _ _ _ _ Ha.out hb)
  replace Hb := Lib.hid (LabR.frame _ _ _ _ Hb.out hb)
  replace cell_l0 := (hb.cell (p := ⟨w1.heap.size, 0, none⟩) mb_l).trans cell_l0
  replace cell_l1 := (hb.cell (p := ⟨w1.heap.size, 1, none⟩) mb_l).trans cell_l1
  replace cell_l2 := (hb.cell (p := ⟨w1.heap.size, 2, none⟩) mb_l).trans cell_l2
  replace mb_l := Nat.lt_of_lt_of_le mb_l hb.size
  replace cell_x0 := (hb.cell (p := ⟨w3.heap.size, 0, none⟩) mb_x).trans cell_x0
  replace cell_x1 := (hb.cell (p := ⟨w3.heap.size, 1, none⟩) mb_x).trans cell_x1
  replace cell_x2 := (hb.cell (p := ⟨w3.heap.size, 2, none⟩) mb_x).trans cell_x2
  replace mb_x := Nat.lt_of_lt_of_le mb_x hb.size
  replace cell_u0 := (hb.cell (p := ⟨w5.heap.size, 0, none⟩) mb_u).trans cell_u0
  replace cell_u1 := (hb.cell (p := ⟨w5.heap.size, 1, none⟩) mb_u).trans cell_u1
  replace cell_u2 := (hb.cell (p := ⟨w5.heap.size, 2, none⟩) mb_u).trans cell_u2
  replace mb_u := Nat.lt_of_lt_of_le mb_u hb.size
  replace cell_s0 := (hb.cell (p := ⟨w7.heap.size, 0, none⟩) mb_s).trans cell_s0
  replace cell_s1 := (hb.cell (p := ⟨w7.heap.size, 1, none⟩) mb_s).trans cell_s1
  replace cell_s2 := (hb.cell (p := ⟨w7.heap.size, 2, none⟩) mb_s).trans cell_s2
  replace mb_s := Nat.lt_of_lt_of_le mb_s hb.size
  replace cell_y0 := (hb.cell (p := ⟨w9.heap.size, 0, none⟩) mb_y).trans cell_y0
  replace cell_y1 := (hb.cell (p := ⟨w9.heap.size, 1, none⟩) mb_y).trans cell_y1
  replace cell_y2 := (hb.cell (p := ⟨w9.heap.size, 2, none⟩) mb_y).trans cell_y2
  replace mb_y := Nat.lt_of_lt_of_le mb_y hb.size
  replace cell_z0 := (hb.cell (p := ⟨w11.heap.size, 0, none⟩) mb_z).trans cell_z0
  replace cell_z1 := (hb.cell (p := ⟨w11.heap.size, 1, none⟩) mb_z).trans cell_z1
  replace cell_z2 := (hb.cell (p := ⟨w11.heap.size, 2, none⟩) mb_z).trans cell_z2
  replace mb_z := Nat.lt_of_lt_of_le mb_z hb.size
  replace cell_a0 := (hb.cell (p := ⟨w13.heap.size, 0, none⟩) mb_a).trans cell_a0
  replace cell_a1 := (hb.cell (p := ⟨w13.heap.size, 1, none⟩) mb_a).trans cell_a1
  replace cell_a2 := (hb.cell (p := ⟨w13.heap.size, 2, none⟩) mb_a).trans cell_a2
  replace mb_a := Nat.lt_of_lt_of_le mb_a hb.size
  replace HB := Lib.hid (HB.out.trans (hb.mono HB.out.size))
  clear hb
  rw [z_a] at cell_b0 cell_b1 cell_b2 mb_b
  have HE_a := Lib.hid eb_a
  have HE_b := Lib.hid eb_b
  clear eb_a eb_b z_a
  have HQ := Lib.hid (DrawFollowWords_c HD.out)
  go_wp2_with fail
  rw [HE_a.out, HE_b.out]
  clear HE_a HE_b
  (with_reducible refine HQ.out.mono ?_)
  clear HQ
  rintro e w16 ⟨vf, f, pp, nn, rfl, hn, hpn, hb⟩
  replace HD := Lib.hid (BytR.frame _ _ _ _ HD.out hb)
  replace Hl := Lib.hid (LabR.frame _ _ _ _ Hl.out hb)
  replace Hx := Lib.hid (LabR.frame _ _ _ _ Hx.out hb)
  replace Hu := Lib.hid (LabR.frame _ _ _ _ Hu.out hb)
  replace Hs := Lib.hid (LabR.frame _ _ _ _ Hs.out hb)
  replace Hy := Lib.hid (LabR.frame _ _ _ _ Hy.out hb)
  replace Hz := Lib.hid (LabR.frame _ _ _ _ Hz.out hb)
  replace Ha := Lib.hid (LabR.frame _ _ _ _ Ha.out hb)
  replace Hb := Lib.hid (LabR.frame _ _ _ _ Hb.out hb)
  replace cell_l0 := (hb.cell (p := ⟨w1.heap.size, 0, none⟩) mb_l).trans cell_l0
  replace cell_l1 := (hb.cell (p := ⟨w1.heap.size, 1, none⟩) mb_l).trans cell_l1
  replace cell_l2 := (hb.cell (p := ⟨w1.heap.size, 2, none⟩) mb_l).trans cell_l2
  replace mb_l := Nat.lt_of_lt_of_le mb_l hb.size
  replace cell_x0 := (hb.cell (p := ⟨w3.heap.size, 0, none⟩) mb_x).trans cell_x0
  replace cell_x1 := (hb.cell (p := ⟨w3.heap.size, 1, none⟩) mb_x).trans cell_x1
  replace cell_x2 := (hb.cell (p := ⟨w3.heap.size, 2, none⟩) mb_x).trans cell_x2
  replace mb_x := Nat.lt_of_lt_of_le mb_x hb.size
  replace cell_u0 := (hb.cell (p := ⟨w5.heap.size, 0, none⟩) mb_u).trans cell_u0
  replace cell_u1 := (hb.cell (p := ⟨w5.heap.size, 1, none⟩) mb_u).trans cell_u1
  replace cell_u2 := (hb.cell (p := ⟨w5.heap.size, 2, none⟩) mb_u).trans cell_u2
  replace mb_u := Nat.lt_of_lt_of_le mb_u hb.size
  replace cell_s0 := (hb.cell (p := ⟨w7.heap.size, 0, none⟩) mb_s).trans cell_s0
  replace cell_s1 := (hb.cell (p := ⟨w7.heap.size, 1, none⟩) mb_s).trans cell_s1
  replace cell_s2 := (hb.cell (p := ⟨w7.heap.size, 2, none⟩) mb_s).trans cell_s2
  replace mb_s := Nat.lt_of_lt_of_le mb_s hb.size
  replace cell_y0 := (hb.cell (p := ⟨w9.heap.size, 0, none⟩) mb_y).trans cell_y0
  replace cell_y1 := (hb.cell (p := ⟨w9.heap.size, 1, none⟩) mb_y).trans cell_y1
  replace cell_y2 := (hb.cell (p := ⟨w9.heap.size, 2, none⟩) mb_y).trans cell_y2
  replace mb_y := Nat.lt_of_lt_of_le mb_y hb.size
  replace cell_z0 := (hb.cell (p := ⟨w11.heap.size, 0, none⟩) mb_z).trans cell_z0
  replace cell_z1 := (hb.cell (p := ⟨w11.heap.size, 1, none⟩) mb_z).trans cell_z1
  replace cell_z2 := (hb.cell (p := ⟨w11.heap.size, 2, none⟩) mb_z).trans cell_z2
  replace mb_z := Nat.lt_of_lt_of_le mb_z hb.size
  replace cell_a0 := (hb.cell (p := ⟨w13.heap.size, 0, none⟩) mb_a).trans cell_a0
  replace cell_a1 := (hb.cell (p := ⟨w13.heap.size, 1, none⟩) mb_a).trans cell_a1
  replace cell_a2 := (hb.cell (p := ⟨w13.heap.size, 2, none⟩) mb_a).trans cell_a2
  replace mb_a := Nat.lt_of_lt_of_le mb_a hb.size
  replace cell_b0 := (hb.cell (p := ⟨w13.heap.size + 1, 0, none⟩) mb_b).trans cell_b0
  replace cell_b1 := (hb.cell (p := ⟨w13.heap.size + 1, 1, none⟩) mb_b).trans cell_b1
  replace cell_b2 := (hb.cell (p := ⟨w13.heap.size + 1, 2, none⟩) mb_b).trans cell_b2
  replace mb_b := Nat.lt_of_lt_of_le mb_b hb.size
  replace HB := Lib.hid (HB.out.trans (hb.mono HB.out.size))
  have Hpn := Lib.hid hpn
  have Hf := Lib.hid (New.lab hn)
  obtain ⟨_, hv, -, xa_f, xc_f, hv2, -⟩ := Hf.out
  subst hv2
  subst hv
  generalize hn_f : f.2.2.length = n_f at Hf ⊢
  have Hn_f := Lib.hid hn_f
  clear hn_f
  clear hn hb hpn
  obtain ⟨w17, eb_f, hb, cell_f0, cell_f1, cell_f2, mb_f⟩ := boxA3_ex w16 26 (.int .i64 f.1) (.int .i64 f.2.1) (.slice xa_f n_f xc_f)
  replace HD := Lib.hid (BytR.frame _ _ _ _ HD.out hb)
  replace Hl := Lib.hid (LabR.frame _ _ _ _ Hl.out hb)
  replace Hx := Lib.hid (LabR.frame _ _ _ _ Hx.out hb)
  replace Hu := Lib.hid (LabR.frame _ _ _ _ Hu.out hb)
  replace Hs := Lib.hid (LabR.frame _ _ _ _ Hs.out hb)
  replace Hy := Lib.hid (LabR.frame _ _ _ _ Hy.out hb)
  replace Hz := Lib.hid (LabR.frame _ _ _ _ Hz.out hb)
  replace Ha := Lib.hid (LabR.frame _ _ _ _ Ha.out hb)
  replace Hb := Lib.hid (LabR.frame _ _ _ _ Hb.out hb)
  replace Hf := Lib.hid (LabR.frame _ _ _ _ Hf.out hb)
  replace cell_l0 := (hb.cell (p := ⟨w1.heap.size, 0, none⟩) mb_l).trans cell_l0
  replace cell_l1 := (hb.cell (p := ⟨w1.heap.size, 1, none⟩) mb_l).trans cell_l1
  replace cell_l2 := (hb.cell (p := ⟨w1.heap.size, 2, none⟩) mb_l).trans cell_l2
  replace mb_l := Nat.lt_of_lt_of_le mb_l hb.size
  replace cell_x0 := (hb.cell (p := ⟨w3.heap.size, 0, none⟩) mb_x).trans cell_x0
  replace cell_x1 := (hb.cell (p := ⟨w3.heap.size, 1, none⟩) mb_x).trans cell_x1
  replace cell_x2 := (hb.cell (p := ⟨w3.heap.size, 2, none⟩) mb_x).trans cell_x2
  replace mb_x := Nat.lt_of_lt_of_le mb_x hb.size
  replace cell_u0 := (hb.cell (p := ⟨w5.heap.size, 0, none⟩) mb_u).trans cell_u0
  replace cell_u1 := (hb.cell (p := ⟨w5.heap.size, 1, none⟩) mb_u).trans cell_u1
  replace cell_u2 := (hb.cell (p := ⟨w5.heap.size, 2, none⟩) mb_u).trans cell_u2
  replace mb_u := Nat.lt_of_lt_of_le mb_u hb.size
  replace cell_s0 := (hb.cell (p := ⟨w7.heap.size, 0, none⟩) mb_s).trans cell_s0
  replace cell_s1 := (hb.cell (p := ⟨w7.heap.size, 1, none⟩) mb_s).trans cell_s1
  replace cell_s2 := (hb.cell (p := ⟨w7.heap.size, 2, none⟩) mb_s).trans cell_s2
  replace mb_s := Nat.lt_of_lt_of_le mb_s hb.size
  replace cell_y0 := (hb.cell (p := ⟨w9.heap.size, 0, none⟩) mb_y).trans cell_y0
  replace cell_y1 := (hb.cell (p := ⟨w9.heap.size, 1, none⟩) mb_y).trans cell_y1
  replace cell_y2 := (hb.cell (p := ⟨w9.heap.size, 2, none⟩) mb_y).trans cell_y2
  replace mb_y := Nat.lt_of_lt_of_le mb_y hb.size
  replace cell_z0 := (hb.cell (p := ⟨w11.heap.size, 0, none⟩) mb_z).trans cell_z0
  replace cell_z1 := (hb.cell (p := ⟨w11.heap.size, 1, none⟩) mb_z).trans cell_z1
  replace cell_z2 := (hb.cell (p := ⟨w11.heap.size, 2, none⟩) mb_z).trans cell_z2
  replace mb_z := Nat.lt_of_lt_of_le mb_z hb.size
  replace cell_a0 := (hb.cell (p := ⟨w13.heap.size, 0, none⟩) mb_a).trans cell_a0
  replace cell_a1 := (hb.cell (p := ⟨w13.heap.size, 1, none⟩) mb_a).trans cell_a1
  replace cell_a2 := (hb.cell (p := ⟨w13.heap.size, 2, none⟩) mb_a).trans cell_a2
  replace mb_a := Nat.lt_of_lt_of_le mb_a hb.size
  replace cell_b0 := (hb.cell (p := ⟨w13.heap.size + 1, 0, none⟩) mb_b).trans cell_b0
  replace cell_b1 := (hb.cell (p := ⟨w13.heap.size + 1, 1, none⟩) mb_b).trans cell_b1
  replace cell_b2 := (hb.cell (p := ⟨w13.heap.size + 1, 2, none⟩) mb_b).trans cell_b2
  replace mb_b := Nat.lt_of_lt_of_le mb_b hb.size
  replace HB := Lib.hid (HB.out.trans (hb.mono HB.out.size))
  clear hb
  clear HD
  obtain ⟨q1, h_q1⟩ : ∃ bb_, bb_ = readSameM a b := ⟨_, rfl⟩
  have H_q1 := Lib.hid h_q1
  clear h_q1
  have tn_q1 : (q1 != q1) = false := by cases q1 <;> rfl
  obtain ⟨q2, h_q2⟩ : ∃ bb_, bb_ = followM f pp nn := ⟨_, rfl⟩
  have H_q2 := Lib.hid h_q2
  clear h_q2
  obtain ⟨q3, h_q3⟩ : ∃ bb_, bb_ = resolvM l := ⟨_, rfl⟩
  have H_q3 := Lib.hid h_q3
  clear h_q3
  have tn_q3 : (q3 != q3) = false := by cases q3 <;> rfl
  obtain ⟨q4, h_q4⟩ : ∃ bb_, bb_ = redM s := ⟨_, rfl⟩
  have H_q4 := Lib.hid h_q4
  clear h_q4
  have tn_q4 : (q4 != q4) = false := by cases q4 <;> rfl
  go_upto_region 11 with fail
  go_cut [114] (fun sB0 wx => sB0 = .bool false ∧ Hid (Below w.heap.size w wx) ∧ Hid (LabR wx (.agg #[.int .i64 l.1, .int .i64 l.2.1, .slice xa_l n_l xc_l]) l) ∧ wx.cell? ⟨w1.heap.size, 0, none⟩ = some (.int .i64 l.1) ∧ wx.cell? ⟨w1.heap.size, 1, none⟩ = some (.int .i64 l.2.1) ∧ wx.cell? ⟨w1.heap.size, 2, none⟩ = some (.slice xa_l n_l xc_l) ∧ w1.heap.size < wx.heap.size ∧ Hid (LabR wx (.agg #[.int .i64 X.1, .int .i64 X.2.1, .slice xa_x n_x xc_x]) X) ∧ wx.cell? ⟨w3.heap.size, 0, none⟩ = some (.int .i64 X.1) ∧ wx.cell? ⟨w3.heap.size, 1, none⟩ = some (.int .i64 X.2.1) ∧ wx.cell? ⟨w3.heap.size, 2, none⟩ = some (.slice xa_x n_x xc_x) ∧ w3.heap.size < wx.heap.size ∧ Hid (LabR wx (.agg #[.int .i64 s.1, .int .i64 s.2.1, .slice xa_s n_s xc_s]) s) ∧ wx.cell? ⟨w7.heap.size, 0, none⟩ = some (.int .i64 s.1) ∧ wx.cell? ⟨w7.heap.size, 1, none⟩ = some (.int .i64 s.2.1) ∧ wx.cell? ⟨w7.heap.size, 2, none⟩ = some (.slice xa_s n_s xc_s) ∧ w7.heap.size < wx.heap.size ∧ Hid (LabR wx (.agg #[.int .i64 Y.1, .int .i64 Y.2.1, .slice xa_y n_y xc_y]) Y) ∧ wx.cell? ⟨w9.heap.size, 0, none⟩ = some (.int .i64 Y.1) ∧ wx.cell? ⟨w9.heap.size, 1, none⟩ = some (.int .i64 Y.2.1) ∧ wx.cell? ⟨w9.heap.size, 2, none⟩ = some (.slice xa_y n_y xc_y) ∧ w9.heap.size < wx.heap.size ∧ Hid (LabR wx (.agg #[.int .i64 a.1, .int .i64 a.2.1, .slice xa_a n_a xc_a]) a) ∧ wx.cell? ⟨w13.heap.size, 0, none⟩ = some (.int .i64 a.1) ∧ wx.cell? ⟨w13.heap.size, 1, none⟩ = some (.int .i64 a.2.1) ∧ wx.cell? ⟨w13.heap.size, 2, none⟩ = some (.slice xa_a n_a xc_a) ∧ w13.heap.size < wx.heap.size ∧ Hid (LabR wx (.agg #[.int .i64 b.1, .int .i64 b.2.1, .slice xa_b n_b xc_b]) b) ∧ wx.cell? ⟨w13.heap.size + 1, 0, none⟩ = some (.int .i64 b.1) ∧ wx.cell? ⟨w13.heap.size + 1, 1, none⟩ = some (.int .i64 b.2.1) ∧ wx.cell? ⟨w13.heap.size + 1, 2, none⟩ = some (.slice xa_b n_b xc_b) ∧ w13.heap.size + 1 < wx.heap.size)
  case first =>
    as_aux_lemma =>
      have C1 := Lib.hid (fun (w' : World) (hb : Below w17.heap.size w17 w') => sameLabels_same (LabR.frame _ _ _ _ Hx.out hb) (LabR.frame _ _ _ _ Hu.out hb))
      have C2 := Lib.hid (fun (w' : World) (hb : Below w17.heap.size w17 w') => sameLabels_same (LabR.frame _ _ _ _ Hy.out hb) (LabR.frame _ _ _ _ Hz.out hb))
      have C3 := Lib.hid (fun (w' : World) (hb : Below w17.heap.size w17 w') => impl_ReadSame_c (LabR.frame _ _ _ _ Ha.out hb) (LabR.frame _ _ _ _ Hb.out hb))
      rw [← H_q1.out] at C3
      have C4 := Lib.hid (fun (w' : World) (hb : Below w17.heap.size w17 w') => spec_ReadSame_c (LabR.frame _ _ _ _ Ha.out hb) (LabR.frame _ _ _ _ Hb.out hb))
      rw [← H_q1.out] at C4
      have C5 := Lib.hid (fun (w' : World) (hb : Below w17.heap.size w17 w') => impl_FollowWords_c (pp := pp) (nn := nn) (LabR.frame _ _ _ _ Hf.out hb) (show I64 pp from by have := Hpn.out; unfold I64; omega) (show I64 nn from by have := Hpn.out; unfold I64; omega))
      rw [← H_q2.out] at C5
      have C6 := Lib.hid (fun (w' : World) (hb : Below w17.heap.size w17 w') => spec_FollowWords_c (pp := pp) (nn := nn) (LabR.frame _ _ _ _ Hf.out hb) (show I64 pp from by have := Hpn.out; unfold I64; omega) (show I64 nn from by have := Hpn.out; unfold I64; omega))
      rw [← H_q2.out] at C6
      have C7 := Lib.hid (fun (w' : World) (v1 v2 : Value) (h1 : StrsR w' v1 q2) (h2 : StrsR w' v2 q2) => sameTexts_b h1 h2)
      have C8 := Lib.hid (fun (w' : World) (hb : Below w17.heap.size w17 w') => impl_IsResolving_c (LabR.frame _ _ _ _ Hl.out hb))
      rw [← H_q3.out] at C8
      have C9 := Lib.hid (fun (w' : World) (hb : Below w17.heap.size w17 w') => spec_IsResolving_c (LabR.frame _ _ _ _ Hl.out hb))
      rw [← H_q3.out] at C9
      have C10 := Lib.hid (fun (w' : World) (hb : Below w17.heap.size w17 w') => impl_IsReduced_c (LabR.frame _ _ _ _ Hs.out hb))
      rw [← H_q4.out] at C10
      have C11 := Lib.hid (fun (w' : World) (hb : Below w17.heap.size w17 w') => spec_IsReduced_c (LabR.frame _ _ _ _ Hs.out hb))
      rw [← H_q4.out] at C11
      have HSS := Lib.hid (fun (w' : World) (hb : Below w17.heap.size w17 w') => (show w'.cell? ⟨w1.heap.size, 0, none⟩ = some (.int .i64 l.1) ∧ w'.cell? ⟨w1.heap.size, 1, none⟩ = some (.int .i64 l.2.1) ∧ w'.cell? ⟨w1.heap.size, 2, none⟩ = some (.slice xa_l n_l xc_l) ∧ w'.cell? ⟨w3.heap.size, 0, none⟩ = some (.int .i64 X.1) ∧ w'.cell? ⟨w3.heap.size, 1, none⟩ = some (.int .i64 X.2.1) ∧ w'.cell? ⟨w3.heap.size, 2, none⟩ = some (.slice xa_x n_x xc_x) ∧ w'.cell? ⟨w5.heap.size, 0, none⟩ = some (.int .i64 X.1) ∧ w'.cell? ⟨w5.heap.size, 1, none⟩ = some (.int .i64 X.2.1) ∧ w'.cell? ⟨w5.heap.size, 2, none⟩ = some (.slice xa_u n_u xc_u) ∧ w'.cell? ⟨w7.heap.size, 0, none⟩ = some (.int .i64 s.1) ∧ w'.cell? ⟨w7.heap.size, 1, none⟩ = some (.int .i64 s.2.1) ∧ w'.cell? ⟨w7.heap.size, 2, none⟩ = some (.slice xa_s n_s xc_s) ∧ w'.cell? ⟨w9.heap.size, 0, none⟩ = some (.int .i64 Y.1) ∧ w'.cell? ⟨w9.heap.size, 1, none⟩ = some (.int .i64 Y.2.1) ∧ w'.cell? ⟨w9.heap.size, 2, none⟩ = some (.slice xa_y n_y xc_y) ∧ w'.cell? ⟨w11.heap.size, 0, none⟩ = some (.int .i64 Y.1) ∧ w'.cell? ⟨w11.heap.size, 1, none⟩ = some (.int .i64 Y.2.1) ∧ w'.cell? ⟨w11.heap.size, 2, none⟩ = some (.slice xa_z n_z xc_z) ∧ w'.cell? ⟨w13.heap.size, 0, none⟩ = some (.int .i64 a.1) ∧ w'.cell? ⟨w13.heap.size, 1, none⟩ = some (.int .i64 a.2.1) ∧ w'.cell? ⟨w13.heap.size, 2, none⟩ = some (.slice xa_a n_a xc_a) ∧ w'.cell? ⟨w13.heap.size + 1, 0, none⟩ = some (.int .i64 b.1) ∧ w'.cell? ⟨w13.heap.size + 1, 1, none⟩ = some (.int .i64 b.2.1) ∧ w'.cell? ⟨w13.heap.size + 1, 2, none⟩ = some (.slice xa_b n_b xc_b) ∧ w'.cell? ⟨w16.heap.size, 0, none⟩ = some (.int .i64 f.1) ∧ w'.cell? ⟨w16.heap.size, 1, none⟩ = some (.int .i64 f.2.1) ∧ w'.cell? ⟨w16.heap.size, 2, none⟩ = some (.slice xa_f n_f xc_f) from ⟨(hb.cell (p := ⟨w1.heap.size, 0, none⟩) mb_l).trans cell_l0, (hb.cell (p := ⟨w1.heap.size, 1, none⟩) mb_l).trans cell_l1, (hb.cell (p := ⟨w1.heap.size, 2, none⟩) mb_l).trans cell_l2, (hb.cell (p := ⟨w3.heap.size, 0, none⟩) mb_x).trans cell_x0, (hb.cell (p := ⟨w3.heap.size, 1, none⟩) mb_x).trans cell_x1, (hb.cell (p := ⟨w3.heap.size, 2, none⟩) mb_x).trans cell_x2, (hb.cell (p := ⟨w5.heap.size, 0, none⟩) mb_u).trans cell_u0, (hb.cell (p := ⟨w5.heap.size, 1, none⟩) mb_u).trans cell_u1, (hb.cell (p := ⟨w5.heap.size, 2, none⟩) mb_u).trans cell_u2, (hb.cell (p := ⟨w7.heap.size, 0, none⟩) mb_s).trans cell_s0, (hb.cell (p := ⟨w7.heap.size, 1, none⟩) mb_s).trans cell_s1, (hb.cell (p := ⟨w7.heap.size, 2, none⟩) mb_s).trans cell_s2, (hb.cell (p := ⟨w9.heap.size, 0, none⟩) mb_y).trans cell_y0, (hb.cell (p := ⟨w9.heap.size, 1, none⟩) mb_y).trans cell_y1, (hb.cell (p := ⟨w9.heap.size, 2, none⟩) mb_y).trans cell_y2, (hb.cell (p := ⟨w11.heap.size, 0, none⟩) mb_z).trans cell_z0, (hb.cell (p := ⟨w11.heap.size, 1, none⟩) mb_z).trans cell_z1, (hb.cell (p := ⟨w11.heap.size, 2, none⟩) mb_z).trans cell_z2, (hb.cell (p := ⟨w13.heap.size, 0, none⟩) mb_a).trans cell_a0, (hb.cell (p := ⟨w13.heap.size, 1, none⟩) mb_a).trans cell_a1, (hb.cell (p := ⟨w13.heap.size, 2, none⟩) mb_a).trans cell_a2, (hb.cell (p := ⟨w13.heap.size + 1, 0, none⟩) mb_b).trans cell_b0, (hb.cell (p := ⟨w13.heap.size + 1, 1, none⟩) mb_b).trans cell_b1, (hb.cell (p := ⟨w13.heap.size + 1, 2, none⟩) mb_b).trans cell_b2, (hb.cell (p := ⟨w16.heap.size, 0, none⟩) mb_f).trans cell_f0, (hb.cell (p := ⟨w16.heap.size, 1, none⟩) mb_f).trans cell_f1, (hb.cell (p := ⟨w16.heap.size, 2, none⟩) mb_f).trans cell_f2⟩))
      have hS0 := HSS.out _ (Below.refl _ _)
      have B1 := (Below.refl w17.heap.size w17).drew
      have hSd := HSS.out _ B1
      go_region_held3 (fun w' => w'.cell? ⟨w1.heap.size, 0, none⟩ = some (.int .i64 l.1) ∧ w'.cell? ⟨w1.heap.size, 1, none⟩ = some (.int .i64 l.2.1) ∧ w'.cell? ⟨w1.heap.size, 2, none⟩ = some (.slice xa_l n_l xc_l) ∧ w'.cell? ⟨w3.heap.size, 0, none⟩ = some (.int .i64 X.1) ∧ w'.cell? ⟨w3.heap.size, 1, none⟩ = some (.int .i64 X.2.1) ∧ w'.cell? ⟨w3.heap.size, 2, none⟩ = some (.slice xa_x n_x xc_x) ∧ w'.cell? ⟨w5.heap.size, 0, none⟩ = some (.int .i64 X.1) ∧ w'.cell? ⟨w5.heap.size, 1, none⟩ = some (.int .i64 X.2.1) ∧ w'.cell? ⟨w5.heap.size, 2, none⟩ = some (.slice xa_u n_u xc_u) ∧ w'.cell? ⟨w7.heap.size, 0, none⟩ = some (.int .i64 s.1) ∧ w'.cell? ⟨w7.heap.size, 1, none⟩ = some (.int .i64 s.2.1) ∧ w'.cell? ⟨w7.heap.size, 2, none⟩ = some (.slice xa_s n_s xc_s) ∧ w'.cell? ⟨w9.heap.size, 0, none⟩ = some (.int .i64 Y.1) ∧ w'.cell? ⟨w9.heap.size, 1, none⟩ = some (.int .i64 Y.2.1) ∧ w'.cell? ⟨w9.heap.size, 2, none⟩ = some (.slice xa_y n_y xc_y) ∧ w'.cell? ⟨w11.heap.size, 0, none⟩ = some (.int .i64 Y.1) ∧ w'.cell? ⟨w11.heap.size, 1, none⟩ = some (.int .i64 Y.2.1) ∧ w'.cell? ⟨w11.heap.size, 2, none⟩ = some (.slice xa_z n_z xc_z) ∧ w'.cell? ⟨w13.heap.size, 0, none⟩ = some (.int .i64 a.1) ∧ w'.cell? ⟨w13.heap.size, 1, none⟩ = some (.int .i64 a.2.1) ∧ w'.cell? ⟨w13.heap.size, 2, none⟩ = some (.slice xa_a n_a xc_a) ∧ w'.cell? ⟨w13.heap.size + 1, 0, none⟩ = some (.int .i64 b.1) ∧ w'.cell? ⟨w13.heap.size + 1, 1, none⟩ = some (.int .i64 b.2.1) ∧ w'.cell? ⟨w13.heap.size + 1, 2, none⟩ = some (.slice xa_b n_b xc_b) ∧ w'.cell? ⟨w16.heap.size, 0, none⟩ = some (.int .i64 f.1) ∧ w'.cell? ⟨w16.heap.size, 1, none⟩ = some (.int .i64 f.2.1) ∧ w'.cell? ⟨w16.heap.size, 2, none⟩ = some (.slice xa_f n_f xc_f))
        (first | with_reducible exact hS12 | with_reducible exact hS11 | with_reducible exact hS10 | with_reducible exact hS9 | with_reducible exact hS8 | with_reducible exact hS7 | with_reducible exact hS6 | with_reducible exact hS5 | with_reducible exact hS4 | with_reducible exact hS3 | with_reducible exact hS2 | with_reducible exact hSd | with_reducible exact hS0 | go_keep)
        ((first
          | (go_at_call 14; (first | (have HQ := C1.out _ B1; (with_reducible refine HQ.mono ?_); clear HQ; rintro e u1 ⟨rfl, q1⟩; have B2 := B1.trans (q1.mono B1.size); have hS2 := HSS.out _ B2) | (have HQ := C2.out _ B2; (with_reducible refine HQ.mono ?_); clear HQ; rintro e u2 ⟨rfl, q2⟩; have B3 := B2.trans (q2.mono B2.size); have hS3 := HSS.out _ B3)))
          | (go_at_call 15; (have HQ := C3.out _ B3; (with_reducible refine HQ.mono ?_); clear HQ; rintro e u3 ⟨rfl, q3⟩; have B4 := B3.trans (q3.mono B3.size); have hS4 := HSS.out _ B4))
          | (go_at_call 16; (have HQ := C4.out _ B4; (with_reducible refine HQ.mono ?_); clear HQ; rintro e u4 ⟨rfl, q4⟩; have B5 := B4.trans (q4.mono B4.size); have hS5 := HSS.out _ B5))
          | (go_at_call 18; (have HQ := C5.out _ B5; (with_reducible refine HQ.mono ?_); clear HQ; rintro e u5 ⟨r5, rfl, n5, q5⟩; have B6 := B5.trans (q5.mono B5.size); have hS6 := HSS.out _ B6))
          | (go_at_call 19; (have HQ := C6.out _ B6; (with_reducible refine HQ.mono ?_); clear HQ; rintro e u6 ⟨r6, rfl, n6, q6⟩; have B7 := B6.trans (q6.mono B6.size); have hS7 := HSS.out _ B7))
          | (go_at_call 17; (have HQ := C7.out _ _ _ (StrsR.frame _ _ _ _ (New.strs n5) q6) (New.strs n6); (with_reducible refine HQ.mono ?_); clear HQ; rintro e u7 ⟨rfl, q7⟩; have B8 := B7.trans (q7.mono B7.size); have hS8 := HSS.out _ B8))
          | (go_at_call 20; (have HQ := C8.out _ B8; (with_reducible refine HQ.mono ?_); clear HQ; rintro e u8 ⟨rfl, q8⟩; have B9 := B8.trans (q8.mono B8.size); have hS9 := HSS.out _ B9))
          | (go_at_call 21; (have HQ := C9.out _ B9; (with_reducible refine HQ.mono ?_); clear HQ; rintro e u9 ⟨rfl, q9⟩; have B10 := B9.trans (q9.mono B9.size); have hS10 := HSS.out _ B10))
          | (go_at_call 22; (have HQ := C10.out _ B10; (with_reducible refine HQ.mono ?_); clear HQ; rintro e u10 ⟨rfl, q10⟩; have B11 := B10.trans (q10.mono B10.size); have hS11 := HSS.out _ B11))
          | (go_at_call 23; (have HQ := C11.out _ B11; (with_reducible refine HQ.mono ?_); clear HQ; rintro e u11 ⟨rfl, q11⟩; have B12 := B11.trans (q11.mono B11.size); have hS12 := HSS.out _ B12))
          | fail))
      replace Hl := Lib.hid (LabR.frame _ _ _ _ Hl.out B12)
      replace Hx := Lib.hid (LabR.frame _ _ _ _ Hx.out B12)
      replace Hu := Lib.hid (LabR.frame _ _ _ _ Hu.out B12)
      replace Hs := Lib.hid (LabR.frame _ _ _ _ Hs.out B12)
      replace Hy := Lib.hid (LabR.frame _ _ _ _ Hy.out B12)
      replace Hz := Lib.hid (LabR.frame _ _ _ _ Hz.out B12)
      replace Ha := Lib.hid (LabR.frame _ _ _ _ Ha.out B12)
      replace Hb := Lib.hid (LabR.frame _ _ _ _ Hb.out B12)
      replace Hf := Lib.hid (LabR.frame _ _ _ _ Hf.out B12)
      replace cell_l0 := (B12.cell (p := ⟨w1.heap.size, 0, none⟩) mb_l).trans cell_l0
      replace cell_l1 := (B12.cell (p := ⟨w1.heap.size, 1, none⟩) mb_l).trans cell_l1
      replace cell_l2 := (B12.cell (p := ⟨w1.heap.size, 2, none⟩) mb_l).trans cell_l2
      replace mb_l := Nat.lt_of_lt_of_le mb_l B12.size
      replace cell_x0 := (B12.cell (p := ⟨w3.heap.size, 0, none⟩) mb_x).trans cell_x0
      replace cell_x1 := (B12.cell (p := ⟨w3.heap.size, 1, none⟩) mb_x).trans cell_x1
      replace cell_x2 := (B12.cell (p := ⟨w3.heap.size, 2, none⟩) mb_x).trans cell_x2
      replace mb_x := Nat.lt_of_lt_of_le mb_x B12.size
      replace cell_u0 := (B12.cell (p := ⟨w5.heap.size, 0, none⟩) mb_u).trans cell_u0
      replace cell_u1 := (B12.cell (p := ⟨w5.heap.size, 1, none⟩) mb_u).trans cell_u1
      replace cell_u2 := (B12.cell (p := ⟨w5.heap.size, 2, none⟩) mb_u).trans cell_u2
      replace mb_u := Nat.lt_of_lt_of_le mb_u B12.size
      replace cell_s0 := (B12.cell (p := ⟨w7.heap.size, 0, none⟩) mb_s).trans cell_s0
      replace cell_s1 := (B12.cell (p := ⟨w7.heap.size, 1, none⟩) mb_s).trans cell_s1
      replace cell_s2 := (B12.cell (p := ⟨w7.heap.size, 2, none⟩) mb_s).trans cell_s2
      replace mb_s := Nat.lt_of_lt_of_le mb_s B12.size
      replace cell_y0 := (B12.cell (p := ⟨w9.heap.size, 0, none⟩) mb_y).trans cell_y0
      replace cell_y1 := (B12.cell (p := ⟨w9.heap.size, 1, none⟩) mb_y).trans cell_y1
      replace cell_y2 := (B12.cell (p := ⟨w9.heap.size, 2, none⟩) mb_y).trans cell_y2
      replace mb_y := Nat.lt_of_lt_of_le mb_y B12.size
      replace cell_z0 := (B12.cell (p := ⟨w11.heap.size, 0, none⟩) mb_z).trans cell_z0
      replace cell_z1 := (B12.cell (p := ⟨w11.heap.size, 1, none⟩) mb_z).trans cell_z1
      replace cell_z2 := (B12.cell (p := ⟨w11.heap.size, 2, none⟩) mb_z).trans cell_z2
      replace mb_z := Nat.lt_of_lt_of_le mb_z B12.size
      replace cell_a0 := (B12.cell (p := ⟨w13.heap.size, 0, none⟩) mb_a).trans cell_a0
      replace cell_a1 := (B12.cell (p := ⟨w13.heap.size, 1, none⟩) mb_a).trans cell_a1
      replace cell_a2 := (B12.cell (p := ⟨w13.heap.size, 2, none⟩) mb_a).trans cell_a2
      replace mb_a := Nat.lt_of_lt_of_le mb_a B12.size
      replace cell_b0 := (B12.cell (p := ⟨w13.heap.size + 1, 0, none⟩) mb_b).trans cell_b0
      replace cell_b1 := (B12.cell (p := ⟨w13.heap.size + 1, 1, none⟩) mb_b).trans cell_b1
      replace cell_b2 := (B12.cell (p := ⟨w13.heap.size + 1, 2, none⟩) mb_b).trans cell_b2
      replace mb_b := Nat.lt_of_lt_of_le mb_b B12.size
      replace cell_f0 := (B12.cell (p := ⟨w16.heap.size, 0, none⟩) mb_f).trans cell_f0
      replace cell_f1 := (B12.cell (p := ⟨w16.heap.size, 1, none⟩) mb_f).trans cell_f1
      replace cell_f2 := (B12.cell (p := ⟨w16.heap.size, 2, none⟩) mb_f).trans cell_f2
      replace mb_f := Nat.lt_of_lt_of_le mb_f B12.size
      replace HB := Lib.hid (HB.out.trans (B12.mono HB.out.size))
      go_wp2_with fail
      go_meet
      case rel => exact ⟨rfl, HB, Hl, cell_l0, cell_l1, cell_l2, mb_l, Hx, cell_x0, cell_x1, cell_x2, mb_x, Hs, cell_s0, cell_s1, cell_s2, mb_s, Hy, cell_y0, cell_y1, cell_y2, mb_y, Ha, cell_a0, cell_a1, cell_a2, mb_a, Hb, cell_b0, cell_b1, cell_b2, mb_b⟩
  case rest =>
    as_aux_lemma =>
      clear Hl
      clear Hx
      clear Hu
      clear Hs
      clear Hy
      clear Hz
      clear Ha
      clear Hb
      clear Hf
      clear cell_l0 cell_l1 cell_l2 mb_l
      clear cell_x0 cell_x1 cell_x2 mb_x
      clear cell_u0 cell_u1 cell_u2 mb_u
      clear cell_s0 cell_s1 cell_s2 mb_s
      clear cell_y0 cell_y1 cell_y2 mb_y
      clear cell_z0 cell_z1 cell_z2 mb_z
      clear cell_a0 cell_a1 cell_a2 mb_a
      clear cell_b0 cell_b1 cell_b2 mb_b
      clear cell_f0 cell_f1 cell_f2 mb_f
      clear HB
      obtain ⟨rfl, HB, Hl, cell_l0, cell_l1, cell_l2, mb_l, Hx, cell_x0, cell_x1, cell_x2, mb_x, Hs, cell_s0, cell_s1, cell_s2, mb_s, Hy, cell_y0, cell_y1, cell_y2, mb_y, Ha, cell_a0, cell_a1, cell_a2, mb_a, Hb, cell_b0, cell_b1, cell_b2, mb_b⟩ := hcut
      obtain ⟨w18, rfl⟩ : ∃ x, x = wc := ⟨_, rfl⟩
      go_upto_if 115 with fail
      go_cut [] (fun wx => Hid (Below w.heap.size w wx) ∧ Hid (LabR wx (.agg #[.int .i64 s.1, .int .i64 s.2.1, .slice xa_s n_s xc_s]) s) ∧ wx.cell? ⟨w7.heap.size, 0, none⟩ = some (.int .i64 s.1) ∧ wx.cell? ⟨w7.heap.size, 1, none⟩ = some (.int .i64 s.2.1) ∧ wx.cell? ⟨w7.heap.size, 2, none⟩ = some (.slice xa_s n_s xc_s) ∧ w7.heap.size < wx.heap.size ∧ Hid (LabR wx (.agg #[.int .i64 Y.1, .int .i64 Y.2.1, .slice xa_y n_y xc_y]) Y) ∧ wx.cell? ⟨w9.heap.size, 0, none⟩ = some (.int .i64 Y.1) ∧ wx.cell? ⟨w9.heap.size, 1, none⟩ = some (.int .i64 Y.2.1) ∧ wx.cell? ⟨w9.heap.size, 2, none⟩ = some (.slice xa_y n_y xc_y) ∧ w9.heap.size < wx.heap.size ∧ Hid (LabR wx (.agg #[.int .i64 a.1, .int .i64 a.2.1, .slice xa_a n_a xc_a]) a) ∧ wx.cell? ⟨w13.heap.size, 0, none⟩ = some (.int .i64 a.1) ∧ wx.cell? ⟨w13.heap.size, 1, none⟩ = some (.int .i64 a.2.1) ∧ wx.cell? ⟨w13.heap.size, 2, none⟩ = some (.slice xa_a n_a xc_a) ∧ w13.heap.size < wx.heap.size ∧ Hid (LabR wx (.agg #[.int .i64 b.1, .int .i64 b.2.1, .slice xa_b n_b xc_b]) b) ∧ wx.cell? ⟨w13.heap.size + 1, 0, none⟩ = some (.int .i64 b.1) ∧ wx.cell? ⟨w13.heap.size + 1, 1, none⟩ = some (.int .i64 b.2.1) ∧ wx.cell? ⟨w13.heap.size + 1, 2, none⟩ = some (.slice xa_b n_b xc_b) ∧ w13.heap.size + 1 < wx.heap.size)
      case first =>
        as_aux_lemma =>
          cases ok with
          | false =>
            go_wp2_with fail
            go_meet
            case rel => exact ⟨HB, Hs, cell_s0, cell_s1, cell_s2, mb_s, Hy, cell_y0, cell_y1, cell_y2, mb_y, Ha, cell_a0, cell_a1, cell_a2, mb_a, Hb, cell_b0, cell_b1, cell_b2, mb_b⟩
          | true =>
            have HJ1 := Lib.hid (show resolvM X = true from by rw [H_X.out]; exact rsl_resolv H_ok.out.symm)
            have HJ2 := Lib.hid (show readSameM X (trimV l) = true from by rw [H_X.out]; exact rsl_reads H_ok.out.symm)
            obtain ⟨T, h_T⟩ : ∃ bb_, bb_ = trimV l := ⟨_, rfl⟩
            have H_T := Lib.hid h_T
            clear h_T
            rw [← H_T.out] at HJ2
            have HQ := Lib.hid (spec_TrimLabels_c Hl.out)
            rw [← H_T.out] at HQ
            go_wp2_with fail
            (with_reducible refine HQ.out.mono ?_)
            clear HQ
            rintro e w19 ⟨vt, rfl, hn, hb⟩
            replace Hl := Lib.hid (LabR.frame _ _ _ _ Hl.out hb)
            replace Hx := Lib.hid (LabR.frame _ _ _ _ Hx.out hb)
            replace Hs := Lib.hid (LabR.frame _ _ _ _ Hs.out hb)
            replace Hy := Lib.hid (LabR.frame _ _ _ _ Hy.out hb)
            replace Ha := Lib.hid (LabR.frame _ _ _ _ Ha.out hb)
            replace Hb := Lib.hid (LabR.frame _ _ _ _ Hb.out hb)
            replace cell_l0 := (hb.cell (p := ⟨w1.heap.size, 0, none⟩) mb_l).trans cell_l0
            replace cell_l1 := (hb.cell (p := ⟨w1.heap.size, 1, none⟩) mb_l).trans cell_l1
            replace cell_l2 := (hb.cell (p := ⟨w1.heap.size, 2, none⟩) mb_l).trans cell_l2
            replace mb_l := Nat.lt_of_lt_of_le mb_l hb.size
            replace cell_x0 := (hb.cell (p := ⟨w3.heap.size, 0, none⟩) mb_x).trans cell_x0
            replace cell_x1 := (hb.cell (p := ⟨w3.heap.size, 1, none⟩) mb_x).trans cell_x1
            replace cell_x2 := (hb.cell (p := ⟨w3.heap.size, 2, none⟩) mb_x).trans cell_x2
            replace mb_x := Nat.lt_of_lt_of_le mb_x hb.size
            replace cell_s0 := (hb.cell (p := ⟨w7.heap.size, 0, none⟩) mb_s).trans cell_s0
            replace cell_s1 := (hb.cell (p := ⟨w7.heap.size, 1, none⟩) mb_s).trans cell_s1
            replace cell_s2 := (hb.cell (p := ⟨w7.heap.size, 2, none⟩) mb_s).trans cell_s2
            replace mb_s := Nat.lt_of_lt_of_le mb_s hb.size
            replace cell_y0 := (hb.cell (p := ⟨w9.heap.size, 0, none⟩) mb_y).trans cell_y0
            replace cell_y1 := (hb.cell (p := ⟨w9.heap.size, 1, none⟩) mb_y).trans cell_y1
            replace cell_y2 := (hb.cell (p := ⟨w9.heap.size, 2, none⟩) mb_y).trans cell_y2
            replace mb_y := Nat.lt_of_lt_of_le mb_y hb.size
            replace cell_a0 := (hb.cell (p := ⟨w13.heap.size, 0, none⟩) mb_a).trans cell_a0
            replace cell_a1 := (hb.cell (p := ⟨w13.heap.size, 1, none⟩) mb_a).trans cell_a1
            replace cell_a2 := (hb.cell (p := ⟨w13.heap.size, 2, none⟩) mb_a).trans cell_a2
            replace mb_a := Nat.lt_of_lt_of_le mb_a hb.size
            replace cell_b0 := (hb.cell (p := ⟨w13.heap.size + 1, 0, none⟩) mb_b).trans cell_b0
            replace cell_b1 := (hb.cell (p := ⟨w13.heap.size + 1, 1, none⟩) mb_b).trans cell_b1
            replace cell_b2 := (hb.cell (p := ⟨w13.heap.size + 1, 2, none⟩) mb_b).trans cell_b2
            replace mb_b := Nat.lt_of_lt_of_le mb_b hb.size
            replace HB := Lib.hid (HB.out.trans (hb.mono HB.out.size))
            have Ht := Lib.hid (New.lab hn)
            obtain ⟨_, hv, -, xa_t, xc_t, hv2, -⟩ := Ht.out
            subst hv2
            subst hv
            generalize hn_t : T.2.2.length = n_t at Ht ⊢
            have Hn_t := Lib.hid hn_t
            clear hn_t
            clear hn hb
            obtain ⟨w20, eb_t, hb, cell_t0, cell_t1, cell_t2, mb_t⟩ := boxA3_ex w19 26 (.int .i64 T.1) (.int .i64 T.2.1) (.slice xa_t n_t xc_t)
            replace Hl := Lib.hid (LabR.frame _ _ _ _ Hl.out hb)
            replace Hx := Lib.hid (LabR.frame _ _ _ _ Hx.out hb)
            replace Hs := Lib.hid (LabR.frame _ _ _ _ Hs.out hb)
            replace Hy := Lib.hid (LabR.frame _ _ _ _ Hy.out hb)
            replace Ha := Lib.hid (LabR.frame _ _ _ _ Ha.out hb)
            replace Hb := Lib.hid (LabR.frame _ _ _ _ Hb.out hb)
            replace Ht := Lib.hid (LabR.frame _ _ _ _ Ht.out hb)
            replace cell_l0 := (hb.cell (p := ⟨w1.heap.size, 0, none⟩) mb_l).trans cell_l0
            replace cell_l1 := (hb.cell (p := ⟨w1.heap.size, 1, none⟩) mb_l).trans cell_l1
            replace cell_l2 := (hb.cell (p := ⟨w1.heap.size, 2, none⟩) mb_l).trans cell_l2
            replace mb_l := Nat.lt_of_lt_of_le mb_l hb.size
            replace cell_x0 := (hb.cell (p := ⟨w3.heap.size, 0, none⟩) mb_x).trans cell_x0
            replace cell_x1 := (hb.cell (p := ⟨w3.heap.size, 1, none⟩) mb_x).trans cell_x1
            replace cell_x2 := (hb.cell (p := ⟨w3.heap.size, 2, none⟩) mb_x).trans cell_x2
            replace mb_x := Nat.lt_of_lt_of_le mb_x hb.size
            replace cell_s0 := (hb.cell (p := ⟨w7.heap.size, 0, none⟩) mb_s).trans cell_s0
            replace cell_s1 := (hb.cell (p := ⟨w7.heap.size, 1, none⟩) mb_s).trans cell_s1
            replace cell_s2 := (hb.cell (p := ⟨w7.heap.size, 2, none⟩) mb_s).trans cell_s2
            replace mb_s := Nat.lt_of_lt_of_le mb_s hb.size
            replace cell_y0 := (hb.cell (p := ⟨w9.heap.size, 0, none⟩) mb_y).trans cell_y0
            replace cell_y1 := (hb.cell (p := ⟨w9.heap.size, 1, none⟩) mb_y).trans cell_y1
            replace cell_y2 := (hb.cell (p := ⟨w9.heap.size, 2, none⟩) mb_y).trans cell_y2
            replace mb_y := Nat.lt_of_lt_of_le mb_y hb.size
            replace cell_a0 := (hb.cell (p := ⟨w13.heap.size, 0, none⟩) mb_a).trans cell_a0
            replace cell_a1 := (hb.cell (p := ⟨w13.heap.size, 1, none⟩) mb_a).trans cell_a1
            replace cell_a2 := (hb.cell (p := ⟨w13.heap.size, 2, none⟩) mb_a).trans cell_a2
            replace mb_a := Nat.lt_of_lt_of_le mb_a hb.size
            replace cell_b0 := (hb.cell (p := ⟨w13.heap.size + 1, 0, none⟩) mb_b).trans cell_b0
            replace cell_b1 := (hb.cell (p := ⟨w13.heap.size + 1, 1, none⟩) mb_b).trans cell_b1
            replace cell_b2 := (hb.cell (p := ⟨w13.heap.size + 1, 2, none⟩) mb_b).trans cell_b2
            replace mb_b := Nat.lt_of_lt_of_le mb_b hb.size
            replace HB := Lib.hid (HB.out.trans (hb.mono HB.out.size))
            clear hb
            have HQ := Lib.hid (impl_IsResolving_c Hx.out)
            rw [HJ1.out] at HQ
            go_wp2_with fail
            (with_reducible refine HQ.out.mono ?_)
            clear HQ
            rintro e w21 ⟨rfl, hb⟩
            replace Hl := Lib.hid (LabR.frame _ _ _ _ Hl.out hb)
            replace Hx := Lib.hid (LabR.frame _ _ _ _ Hx.out hb)
            replace Hs := Lib.hid (LabR.frame _ _ _ _ Hs.out hb)
            replace Hy := Lib.hid (LabR.frame _ _ _ _ Hy.out hb)
            replace Ha := Lib.hid (LabR.frame _ _ _ _ Ha.out hb)
            replace Hb := Lib.hid (LabR.frame _ _ _ _ Hb.out hb)
            replace Ht := Lib.hid (LabR.frame _ _ _ _ Ht.out hb)
            replace cell_l0 := (hb.cell (p := ⟨w1.heap.size, 0, none⟩) mb_l).trans cell_l0
            replace cell_l1 := (hb.cell (p := ⟨w1.heap.size, 1, none⟩) mb_l).trans cell_l1
            replace cell_l2 := (hb.cell (p := ⟨w1.heap.size, 2, none⟩) mb_l).trans cell_l2
            replace mb_l := Nat.lt_of_lt_of_le mb_l hb.size
            replace cell_x0 := (hb.cell (p := ⟨w3.heap.size, 0, none⟩) mb_x).trans cell_x0
            replace cell_x1 := (hb.cell (p := ⟨w3.heap.size, 1, none⟩) mb_x).trans cell_x1
            replace cell_x2 := (hb.cell (p := ⟨w3.heap.size, 2, none⟩) mb_x).trans cell_x2
            replace mb_x := Nat.lt_of_lt_of_le mb_x hb.size
            replace cell_s0 := (hb.cell (p := ⟨w7.heap.size, 0, none⟩) mb_s).trans cell_s0
            replace cell_s1 := (hb.cell (p := ⟨w7.heap.size, 1, none⟩) mb_s).trans cell_s1
            replace cell_s2 := (hb.cell (p := ⟨w7.heap.size, 2, none⟩) mb_s).trans cell_s2
            replace mb_s := Nat.lt_of_lt_of_le mb_s hb.size
            replace cell_y0 := (hb.cell (p := ⟨w9.heap.size, 0, none⟩) mb_y).trans cell_y0
            replace cell_y1 := (hb.cell (p := ⟨w9.heap.size, 1, none⟩) mb_y).trans cell_y1
            replace cell_y2 := (hb.cell (p := ⟨w9.heap.size, 2, none⟩) mb_y).trans cell_y2
            replace mb_y := Nat.lt_of_lt_of_le mb_y hb.size
            replace cell_a0 := (hb.cell (p := ⟨w13.heap.size, 0, none⟩) mb_a).trans cell_a0
            replace cell_a1 := (hb.cell (p := ⟨w13.heap.size, 1, none⟩) mb_a).trans cell_a1
            replace cell_a2 := (hb.cell (p := ⟨w13.heap.size, 2, none⟩) mb_a).trans cell_a2
            replace mb_a := Nat.lt_of_lt_of_le mb_a hb.size
            replace cell_b0 := (hb.cell (p := ⟨w13.heap.size + 1, 0, none⟩) mb_b).trans cell_b0
            replace cell_b1 := (hb.cell (p := ⟨w13.heap.size + 1, 1, none⟩) mb_b).trans cell_b1
            replace cell_b2 := (hb.cell (p := ⟨w13.heap.size + 1, 2, none⟩) mb_b).trans cell_b2
            replace mb_b := Nat.lt_of_lt_of_le mb_b hb.size
            replace cell_t0 := (hb.cell (p := ⟨w19.heap.size, 0, none⟩) mb_t).trans cell_t0
            replace cell_t1 := (hb.cell (p := ⟨w19.heap.size, 1, none⟩) mb_t).trans cell_t1
            replace cell_t2 := (hb.cell (p := ⟨w19.heap.size, 2, none⟩) mb_t).trans cell_t2
            replace mb_t := Nat.lt_of_lt_of_le mb_t hb.size
            replace HB := Lib.hid (HB.out.trans (hb.mono HB.out.size))
            clear hb
            clear eb_t
            have HQ := Lib.hid (impl_ReadSame_c Hx.out Ht.out)
            rw [HJ2.out] at HQ
            go_wp2_with fail
            (with_reducible refine HQ.out.mono ?_)
            clear HQ
            rintro e w22 ⟨rfl, hb⟩
            replace Hl := Lib.hid (LabR.frame _ _ _ _ Hl.out hb)
            replace Hx := Lib.hid (LabR.frame _ _ _ _ Hx.out hb)
            replace Hs := Lib.hid (LabR.frame _ _ _ _ Hs.out hb)
            replace Hy := Lib.hid (LabR.frame _ _ _ _ Hy.out hb)
            replace Ha := Lib.hid (LabR.frame _ _ _ _ Ha.out hb)
            replace Hb := Lib.hid (LabR.frame _ _ _ _ Hb.out hb)
            replace Ht := Lib.hid (LabR.frame _ _ _ _ Ht.out hb)
            replace cell_l0 := (hb.cell (p := ⟨w1.heap.size, 0, none⟩) mb_l).trans cell_l0
            replace cell_l1 := (hb.cell (p := ⟨w1.heap.size, 1, none⟩) mb_l).trans cell_l1
            replace cell_l2 := (hb.cell (p := ⟨w1.heap.size, 2, none⟩) mb_l).trans cell_l2
            replace mb_l := Nat.lt_of_lt_of_le mb_l hb.size
            replace cell_x0 := (hb.cell (p := ⟨w3.heap.size, 0, none⟩) mb_x).trans cell_x0
            replace cell_x1 := (hb.cell (p := ⟨w3.heap.size, 1, none⟩) mb_x).trans cell_x1
            replace cell_x2 := (hb.cell (p := ⟨w3.heap.size, 2, none⟩) mb_x).trans cell_x2
            replace mb_x := Nat.lt_of_lt_of_le mb_x hb.size
            replace cell_s0 := (hb.cell (p := ⟨w7.heap.size, 0, none⟩) mb_s).trans cell_s0
            replace cell_s1 := (hb.cell (p := ⟨w7.heap.size, 1, none⟩) mb_s).trans cell_s1
            replace cell_s2 := (hb.cell (p := ⟨w7.heap.size, 2, none⟩) mb_s).trans cell_s2
            replace mb_s := Nat.lt_of_lt_of_le mb_s hb.size
            replace cell_y0 := (hb.cell (p := ⟨w9.heap.size, 0, none⟩) mb_y).trans cell_y0
            replace cell_y1 := (hb.cell (p := ⟨w9.heap.size, 1, none⟩) mb_y).trans cell_y1
            replace cell_y2 := (hb.cell (p := ⟨w9.heap.size, 2, none⟩) mb_y).trans cell_y2
            replace mb_y := Nat.lt_of_lt_of_le mb_y hb.size
            replace cell_a0 := (hb.cell (p := ⟨w13.heap.size, 0, none⟩) mb_a).trans cell_a0
            replace cell_a1 := (hb.cell (p := ⟨w13.heap.size, 1, none⟩) mb_a).trans cell_a1
            replace cell_a2 := (hb.cell (p := ⟨w13.heap.size, 2, none⟩) mb_a).trans cell_a2
            replace mb_a := Nat.lt_of_lt_of_le mb_a hb.size
            replace cell_b0 := (hb.cell (p := ⟨w13.heap.size + 1, 0, none⟩) mb_b).trans cell_b0
            replace cell_b1 := (hb.cell (p := ⟨w13.heap.size + 1, 1, none⟩) mb_b).trans cell_b1
            replace cell_b2 := (hb.cell (p := ⟨w13.heap.size + 1, 2, none⟩) mb_b).trans cell_b2
            replace mb_b := Nat.lt_of_lt_of_le mb_b hb.size
            replace cell_t0 := (hb.cell (p := ⟨w19.heap.size, 0, none⟩) mb_t).trans cell_t0
            replace cell_t1 := (hb.cell (p := ⟨w19.heap.size, 1, none⟩) mb_t).trans cell_t1
            replace cell_t2 := (hb.cell (p := ⟨w19.heap.size, 2, none⟩) mb_t).trans cell_t2
            replace mb_t := Nat.lt_of_lt_of_le mb_t hb.size
            replace HB := Lib.hid (HB.out.trans (hb.mono HB.out.size))
            clear hb
            go_wp2_with fail
            go_meet
            case rel => exact ⟨HB, Hs, cell_s0, cell_s1, cell_s2, mb_s, Hy, cell_y0, cell_y1, cell_y2, mb_y, Ha, cell_a0, cell_a1, cell_a2, mb_a, Hb, cell_b0, cell_b1, cell_b2, mb_b⟩
      case rest =>
        as_aux_lemma =>
          clear Hl
          clear Hx
          clear Hs
          clear Hy
          clear Ha
          clear Hb
          clear cell_l0 cell_l1 cell_l2 mb_l
          clear cell_x0 cell_x1 cell_x2 mb_x
          clear cell_s0 cell_s1 cell_s2 mb_s
          clear cell_y0 cell_y1 cell_y2 mb_y
          clear cell_a0 cell_a1 cell_a2 mb_a
          clear cell_b0 cell_b1 cell_b2 mb_b
          clear HB
          obtain ⟨HB, Hs, cell_s0, cell_s1, cell_s2, mb_s, Hy, cell_y0, cell_y1, cell_y2, mb_y, Ha, cell_a0, cell_a1, cell_a2, mb_a, Hb, cell_b0, cell_b1, cell_b2, mb_b⟩ := hcut
          obtain ⟨w23, rfl⟩ : ∃ x, x = wc := ⟨_, rfl⟩
          have HQ := Lib.hid (impl_ReadSame_c Ha.out Hb.out)
          rw [← H_q1.out] at HQ
          go_wp2_with fail
          (with_reducible refine HQ.out.mono ?_)
          clear HQ
          rintro e w24 ⟨rfl, hb⟩
          replace Hs := Lib.hid (LabR.frame _ _ _ _ Hs.out hb)
          replace Hy := Lib.hid (LabR.frame _ _ _ _ Hy.out hb)
          replace Ha := Lib.hid (LabR.frame _ _ _ _ Ha.out hb)
          replace Hb := Lib.hid (LabR.frame _ _ _ _ Hb.out hb)
          replace cell_s0 := (hb.cell (p := ⟨w7.heap.size, 0, none⟩) mb_s).trans cell_s0
          replace cell_s1 := (hb.cell (p := ⟨w7.heap.size, 1, none⟩) mb_s).trans cell_s1
          replace cell_s2 := (hb.cell (p := ⟨w7.heap.size, 2, none⟩) mb_s).trans cell_s2
          replace mb_s := Nat.lt_of_lt_of_le mb_s hb.size
          replace cell_y0 := (hb.cell (p := ⟨w9.heap.size, 0, none⟩) mb_y).trans cell_y0
          replace cell_y1 := (hb.cell (p := ⟨w9.heap.size, 1, none⟩) mb_y).trans cell_y1
          replace cell_y2 := (hb.cell (p := ⟨w9.heap.size, 2, none⟩) mb_y).trans cell_y2
          replace mb_y := Nat.lt_of_lt_of_le mb_y hb.size
          replace cell_a0 := (hb.cell (p := ⟨w13.heap.size, 0, none⟩) mb_a).trans cell_a0
          replace cell_a1 := (hb.cell (p := ⟨w13.heap.size, 1, none⟩) mb_a).trans cell_a1
          replace cell_a2 := (hb.cell (p := ⟨w13.heap.size, 2, none⟩) mb_a).trans cell_a2
          replace mb_a := Nat.lt_of_lt_of_le mb_a hb.size
          replace cell_b0 := (hb.cell (p := ⟨w13.heap.size + 1, 0, none⟩) mb_b).trans cell_b0
          replace cell_b1 := (hb.cell (p := ⟨w13.heap.size + 1, 1, none⟩) mb_b).trans cell_b1
          replace cell_b2 := (hb.cell (p := ⟨w13.heap.size + 1, 2, none⟩) mb_b).trans cell_b2
          replace mb_b := Nat.lt_of_lt_of_le mb_b hb.size
          replace HB := Lib.hid (HB.out.trans (hb.mono HB.out.size))
          clear hb
          go_upto_if 132 with fail
          go_cut [] (fun wx => Hid (Below w.heap.size w wx) ∧ Hid (LabR wx (.agg #[.int .i64 s.1, .int .i64 s.2.1, .slice xa_s n_s xc_s]) s) ∧ wx.cell? ⟨w7.heap.size, 0, none⟩ = some (.int .i64 s.1) ∧ wx.cell? ⟨w7.heap.size, 1, none⟩ = some (.int .i64 s.2.1) ∧ wx.cell? ⟨w7.heap.size, 2, none⟩ = some (.slice xa_s n_s xc_s) ∧ w7.heap.size < wx.heap.size ∧ Hid (LabR wx (.agg #[.int .i64 Y.1, .int .i64 Y.2.1, .slice xa_y n_y xc_y]) Y) ∧ wx.cell? ⟨w9.heap.size, 0, none⟩ = some (.int .i64 Y.1) ∧ wx.cell? ⟨w9.heap.size, 1, none⟩ = some (.int .i64 Y.2.1) ∧ wx.cell? ⟨w9.heap.size, 2, none⟩ = some (.slice xa_y n_y xc_y) ∧ w9.heap.size < wx.heap.size)
          case first =>
            as_aux_lemma =>
              cases q1 with
              | false =>
                go_wp2_with fail
                go_meet
                case rel => exact ⟨HB, Hs, cell_s0, cell_s1, cell_s2, mb_s, Hy, cell_y0, cell_y1, cell_y2, mb_y⟩
              | true =>
                have HSW := Lib.hid (fun (i : Nat) (hi : i ≤ 6) => same_words H_q1.out.symm (n := i) hi)
                go_wp2
                go_loopg [20] 6 (fun g iv wr => ∃ i : Nat, iv = .int .i64 i ∧ i + g = 6 ∧ Hid (Below w24.heap.size w24 wr))
                case atStart => exact ⟨0, rfl, by omega, Lib.hid (Below.refl _ _)⟩
                case round =>
                  obtain ⟨i, rfl, hi, HBl⟩ := hrel
                  obtain ⟨w25, rfl⟩ : ∃ x, x = wr := ⟨_, rfl⟩
                  have hbl := HBl.out
                  replace Hs := Lib.hid (LabR.frame _ _ _ _ Hs.out hbl)
                  replace Hy := Lib.hid (LabR.frame _ _ _ _ Hy.out hbl)
                  replace Ha := Lib.hid (LabR.frame _ _ _ _ Ha.out hbl)
                  replace Hb := Lib.hid (LabR.frame _ _ _ _ Hb.out hbl)
                  replace cell_s0 := (hbl.cell (p := ⟨w7.heap.size, 0, none⟩) mb_s).trans cell_s0
                  replace cell_s1 := (hbl.cell (p := ⟨w7.heap.size, 1, none⟩) mb_s).trans cell_s1
                  replace cell_s2 := (hbl.cell (p := ⟨w7.heap.size, 2, none⟩) mb_s).trans cell_s2
                  replace mb_s := Nat.lt_of_lt_of_le mb_s hbl.size
                  replace cell_y0 := (hbl.cell (p := ⟨w9.heap.size, 0, none⟩) mb_y).trans cell_y0
                  replace cell_y1 := (hbl.cell (p := ⟨w9.heap.size, 1, none⟩) mb_y).trans cell_y1
                  replace cell_y2 := (hbl.cell (p := ⟨w9.heap.size, 2, none⟩) mb_y).trans cell_y2
                  replace mb_y := Nat.lt_of_lt_of_le mb_y hbl.size
                  replace cell_a0 := (hbl.cell (p := ⟨w13.heap.size, 0, none⟩) mb_a).trans cell_a0
                  replace cell_a1 := (hbl.cell (p := ⟨w13.heap.size, 1, none⟩) mb_a).trans cell_a1
                  replace cell_a2 := (hbl.cell (p := ⟨w13.heap.size, 2, none⟩) mb_a).trans cell_a2
                  replace mb_a := Nat.lt_of_lt_of_le mb_a hbl.size
                  replace cell_b0 := (hbl.cell (p := ⟨w13.heap.size + 1, 0, none⟩) mb_b).trans cell_b0
                  replace cell_b1 := (hbl.cell (p := ⟨w13.heap.size + 1, 1, none⟩) mb_b).trans cell_b1
                  replace cell_b2 := (hbl.cell (p := ⟨w13.heap.size + 1, 2, none⟩) mb_b).trans cell_b2
                  replace mb_b := Nat.lt_of_lt_of_le mb_b hbl.size
                  replace HB := Lib.hid (HB.out.trans (hbl.mono HB.out.size))
                  clear hbl
                  by_cases hiN : i ≤ 5
                  · have hiNi : (i : Int) ≤ 5 := by omega
                    obtain ⟨g, rfl⟩ : ∃ x, gk = x + 1 := ⟨gk - 1, by omega⟩
                    obtain ⟨R, hR⟩ : ∃ R, R = rdwM a i := ⟨_, rfl⟩
                    have HR := Lib.hid hR
                    have HR2 := Lib.hid (show R = rdwM b i from by rw [hR]; exact HSW.out i (by omega))
                    clear hR
                    have C1 := Lib.hid (fun (w' : World) (hb : Below w25.heap.size w25 w') => spec_ReadWords_c (nn := (i : Int)) (LabR.frame _ _ _ _ Ha.out hb) (show I64 (i : Int) from by unfold I64; omega))
                    rw [← HR.out] at C1
                    have C2 := Lib.hid (fun (w' : World) (hb : Below w25.heap.size w25 w') => spec_ReadWords_c (nn := (i : Int)) (LabR.frame _ _ _ _ Hb.out hb) (show I64 (i : Int) from by unfold I64; omega))
                    rw [← HR2.out] at C2
                    have C3 := Lib.hid (fun (w' : World) (v1 v2 : Value) (h1 : StrsR w' v1 R) (h2 : StrsR w' v2 R) => sameTexts_b h1 h2)
                    go_wp2
                    have HSS := Lib.hid (fun (w' : World) (hb : Below w25.heap.size w25 w') => (show w'.cell? ⟨w13.heap.size, 0, none⟩ = some (.int .i64 a.1) ∧ w'.cell? ⟨w13.heap.size, 1, none⟩ = some (.int .i64 a.2.1) ∧ w'.cell? ⟨w13.heap.size, 2, none⟩ = some (.slice xa_a n_a xc_a) ∧ w'.cell? ⟨w13.heap.size + 1, 0, none⟩ = some (.int .i64 b.1) ∧ w'.cell? ⟨w13.heap.size + 1, 1, none⟩ = some (.int .i64 b.2.1) ∧ w'.cell? ⟨w13.heap.size + 1, 2, none⟩ = some (.slice xa_b n_b xc_b) from ⟨(hb.cell (p := ⟨w13.heap.size, 0, none⟩) mb_a).trans cell_a0, (hb.cell (p := ⟨w13.heap.size, 1, none⟩) mb_a).trans cell_a1, (hb.cell (p := ⟨w13.heap.size, 2, none⟩) mb_a).trans cell_a2, (hb.cell (p := ⟨w13.heap.size + 1, 0, none⟩) mb_b).trans cell_b0, (hb.cell (p := ⟨w13.heap.size + 1, 1, none⟩) mb_b).trans cell_b1, (hb.cell (p := ⟨w13.heap.size + 1, 2, none⟩) mb_b).trans cell_b2⟩))
                    have hS0 := HSS.out _ (Below.refl _ _)
                    have B1 := (Below.refl w25.heap.size w25).drew
                    have hSd := HSS.out _ B1
                    go_region_held3 (fun w' => w'.cell? ⟨w13.heap.size, 0, none⟩ = some (.int .i64 a.1) ∧ w'.cell? ⟨w13.heap.size, 1, none⟩ = some (.int .i64 a.2.1) ∧ w'.cell? ⟨w13.heap.size, 2, none⟩ = some (.slice xa_a n_a xc_a) ∧ w'.cell? ⟨w13.heap.size + 1, 0, none⟩ = some (.int .i64 b.1) ∧ w'.cell? ⟨w13.heap.size + 1, 1, none⟩ = some (.int .i64 b.2.1) ∧ w'.cell? ⟨w13.heap.size + 1, 2, none⟩ = some (.slice xa_b n_b xc_b))
                      (first | with_reducible exact hS4 | with_reducible exact hS3 | with_reducible exact hS2 | with_reducible exact hSd | with_reducible exact hS0 | go_keep)
                      ((first
                        | (go_at_call 25; (first | (have HQ := C1.out _ B1; (with_reducible refine HQ.mono ?_); clear HQ; rintro e u1 ⟨r1, rfl, n1, q1⟩; have B2 := B1.trans (q1.mono B1.size); have hS2 := HSS.out _ B2) | (have HQ := C2.out _ B2; (with_reducible refine HQ.mono ?_); clear HQ; rintro e u2 ⟨r2, rfl, n2, q2⟩; have B3 := B2.trans (q2.mono B2.size); have hS3 := HSS.out _ B3)))
                        | (go_at_call 17; (have HQ := C3.out _ _ _ (StrsR.frame _ _ _ _ (New.strs n1) q2) (New.strs n2); (with_reducible refine HQ.mono ?_); clear HQ; rintro e u3 ⟨rfl, q3⟩; have B4 := B3.trans (q3.mono B3.size); have hS4 := HSS.out _ B4))
                        | fail))
                    have HBz := Lib.hid (HBl.out.trans (B4.mono HBl.out.size))
                    go_wp2
                    go_roundg g
                    case measure => omega
                    case rel => exact ⟨i + 1, by go_num, by omega, HBz⟩
                  · have hiNi : ¬ ((i : Int) ≤ 5) := by omega
                    clear HBl
                    go_wp2_with fail
                    go_meet
                    case rel => exact ⟨HB, Hs, cell_s0, cell_s1, cell_s2, mb_s, Hy, cell_y0, cell_y1, cell_y2, mb_y⟩
          case rest =>
            as_aux_lemma =>
              clear Hs
              clear Hy
              clear Ha
              clear Hb
              clear cell_s0 cell_s1 cell_s2 mb_s
              clear cell_y0 cell_y1 cell_y2 mb_y
              clear cell_a0 cell_a1 cell_a2 mb_a
              clear cell_b0 cell_b1 cell_b2 mb_b
              clear HB
              obtain ⟨HB, Hs, cell_s0, cell_s1, cell_s2, mb_s, Hy, cell_y0, cell_y1, cell_y2, mb_y⟩ := hcut
              obtain ⟨w26, rfl⟩ : ∃ x, x = wc := ⟨_, rfl⟩
              cases one with
              | false =>
                have HQ := Lib.hid (spec_IsResolving_c Hs.out)
                rw [← H_one.out] at HQ
                go_wp2_with fail
                (with_reducible refine HQ.out.mono ?_)
                clear HQ
                rintro e w27 ⟨rfl, hb⟩
                replace Hs := Lib.hid (LabR.frame _ _ _ _ Hs.out hb)
                replace Hy := Lib.hid (LabR.frame _ _ _ _ Hy.out hb)
                replace cell_s0 := (hb.cell (p := ⟨w7.heap.size, 0, none⟩) mb_s).trans cell_s0
                replace cell_s1 := (hb.cell (p := ⟨w7.heap.size, 1, none⟩) mb_s).trans cell_s1
                replace cell_s2 := (hb.cell (p := ⟨w7.heap.size, 2, none⟩) mb_s).trans cell_s2
                replace mb_s := Nat.lt_of_lt_of_le mb_s hb.size
                replace cell_y0 := (hb.cell (p := ⟨w9.heap.size, 0, none⟩) mb_y).trans cell_y0
                replace cell_y1 := (hb.cell (p := ⟨w9.heap.size, 1, none⟩) mb_y).trans cell_y1
                replace cell_y2 := (hb.cell (p := ⟨w9.heap.size, 2, none⟩) mb_y).trans cell_y2
                replace mb_y := Nat.lt_of_lt_of_le mb_y hb.size
                replace HB := Lib.hid (HB.out.trans (hb.mono HB.out.size))
                clear hb
                go_wp2
                go_ret
                exact ⟨rfl, HB.out⟩
              | true =>
                have HY1 := Lib.hid (show smV Y = Y from by rw [H_Y.out]; exact sm_again H_one.out.symm)
                have HY2 := Lib.hid (show resolvM Y = true from by rw [H_Y.out]; exact sm_resolv H_one.out.symm)
                have HY3 := Lib.hid (show readSameM Y s = true from by rw [H_Y.out]; exact sm_reads H_one.out.symm)
                have HY4 := Lib.hid (show redM Y = true from by unfold redM; rw [HY1.out, HY2.out]; simp)
                have HY5 := Lib.hid (show redM s = (Y.2.1 == s.2.1) from by unfold redM; rw [← H_one.out, ← H_Y.out]; exact (Bool.true_and _).trans (by rw [Bool.eq_iff_iff]; simp))
                have HQ := Lib.hid (impl_SmallestLabels_c Hy.out)
                rw [HY1.out] at HQ
                rw [HY2.out] at HQ
                go_wp2_with fail
                (with_reducible refine HQ.out.mono ?_)
                clear HQ
                rintro e w28 ⟨vg, rfl, hn, hb⟩
                replace Hs := Lib.hid (LabR.frame _ _ _ _ Hs.out hb)
                replace Hy := Lib.hid (LabR.frame _ _ _ _ Hy.out hb)
                replace cell_s0 := (hb.cell (p := ⟨w7.heap.size, 0, none⟩) mb_s).trans cell_s0
                replace cell_s1 := (hb.cell (p := ⟨w7.heap.size, 1, none⟩) mb_s).trans cell_s1
                replace cell_s2 := (hb.cell (p := ⟨w7.heap.size, 2, none⟩) mb_s).trans cell_s2
                replace mb_s := Nat.lt_of_lt_of_le mb_s hb.size
                replace cell_y0 := (hb.cell (p := ⟨w9.heap.size, 0, none⟩) mb_y).trans cell_y0
                replace cell_y1 := (hb.cell (p := ⟨w9.heap.size, 1, none⟩) mb_y).trans cell_y1
                replace cell_y2 := (hb.cell (p := ⟨w9.heap.size, 2, none⟩) mb_y).trans cell_y2
                replace mb_y := Nat.lt_of_lt_of_le mb_y hb.size
                replace HB := Lib.hid (HB.out.trans (hb.mono HB.out.size))
                have Hg := Lib.hid (New.lab hn)
                obtain ⟨_, hv, -, xa_g, xc_g, hv2, -⟩ := Hg.out
                subst hv2
                subst hv
                generalize hn_g : Y.2.2.length = n_g at Hg ⊢
                have Hn_g := Lib.hid hn_g
                clear hn_g
                clear hn hb
                obtain ⟨w29, eb_g, hb, cell_g0, cell_g1, cell_g2, mb_g⟩ := boxA3_ex w28 26 (.int .i64 Y.1) (.int .i64 Y.2.1) (.slice xa_g n_g xc_g)
                replace Hs := Lib.hid (LabR.frame _ _ _ _ Hs.out hb)
                replace Hy := Lib.hid (LabR.frame _ _ _ _ Hy.out hb)
                replace Hg := Lib.hid (LabR.frame _ _ _ _ Hg.out hb)
                replace cell_s0 := (hb.cell (p := ⟨w7.heap.size, 0, none⟩) mb_s).trans cell_s0
                replace cell_s1 := (hb.cell (p := ⟨w7.heap.size, 1, none⟩) mb_s).trans cell_s1
                replace cell_s2 := (hb.cell (p := ⟨w7.heap.size, 2, none⟩) mb_s).trans cell_s2
                replace mb_s := Nat.lt_of_lt_of_le mb_s hb.size
                replace cell_y0 := (hb.cell (p := ⟨w9.heap.size, 0, none⟩) mb_y).trans cell_y0
                replace cell_y1 := (hb.cell (p := ⟨w9.heap.size, 1, none⟩) mb_y).trans cell_y1
                replace cell_y2 := (hb.cell (p := ⟨w9.heap.size, 2, none⟩) mb_y).trans cell_y2
                replace mb_y := Nat.lt_of_lt_of_le mb_y hb.size
                replace HB := Lib.hid (HB.out.trans (hb.mono HB.out.size))
                clear hb
                have C1 := Lib.hid (fun (w' : World) (hb : Below w29.heap.size w29 w') => impl_ReadSame_c (LabR.frame _ _ _ _ Hy.out hb) (LabR.frame _ _ _ _ Hs.out hb))
                rw [HY3.out] at C1
                have C2 := Lib.hid (fun (w' : World) (hb : Below w29.heap.size w29 w') => impl_IsReduced_c (LabR.frame _ _ _ _ Hy.out hb))
                rw [HY4.out] at C2
                have C3 := Lib.hid (fun (w' : World) (hb : Below w29.heap.size w29 w') => sameLabels_same (LabR.frame _ _ _ _ Hg.out hb) (LabR.frame _ _ _ _ Hy.out hb))
                have C4 := Lib.hid (fun (w' : World) (hb : Below w29.heap.size w29 w') => impl_IsReduced_c (LabR.frame _ _ _ _ Hs.out hb))
                rw [HY5.out] at C4
                have te : ((Y.2.1 == s.2.1) == (Y.2.1 == s.2.1)) = true := by cases (Y.2.1 == s.2.1) <;> rfl
                go_upto_region 26 with fail
                clear eb_g
                have HSS := Lib.hid (fun (w' : World) (hb : Below w29.heap.size w29 w') => (show w'.cell? ⟨w7.heap.size, 0, none⟩ = some (.int .i64 s.1) ∧ w'.cell? ⟨w7.heap.size, 1, none⟩ = some (.int .i64 s.2.1) ∧ w'.cell? ⟨w7.heap.size, 2, none⟩ = some (.slice xa_s n_s xc_s) ∧ w'.cell? ⟨w9.heap.size, 0, none⟩ = some (.int .i64 Y.1) ∧ w'.cell? ⟨w9.heap.size, 1, none⟩ = some (.int .i64 Y.2.1) ∧ w'.cell? ⟨w9.heap.size, 2, none⟩ = some (.slice xa_y n_y xc_y) ∧ w'.cell? ⟨w28.heap.size, 0, none⟩ = some (.int .i64 Y.1) ∧ w'.cell? ⟨w28.heap.size, 1, none⟩ = some (.int .i64 Y.2.1) ∧ w'.cell? ⟨w28.heap.size, 2, none⟩ = some (.slice xa_g n_g xc_g) from ⟨(hb.cell (p := ⟨w7.heap.size, 0, none⟩) mb_s).trans cell_s0, (hb.cell (p := ⟨w7.heap.size, 1, none⟩) mb_s).trans cell_s1, (hb.cell (p := ⟨w7.heap.size, 2, none⟩) mb_s).trans cell_s2, (hb.cell (p := ⟨w9.heap.size, 0, none⟩) mb_y).trans cell_y0, (hb.cell (p := ⟨w9.heap.size, 1, none⟩) mb_y).trans cell_y1, (hb.cell (p := ⟨w9.heap.size, 2, none⟩) mb_y).trans cell_y2, (hb.cell (p := ⟨w28.heap.size, 0, none⟩) mb_g).trans cell_g0, (hb.cell (p := ⟨w28.heap.size, 1, none⟩) mb_g).trans cell_g1, (hb.cell (p := ⟨w28.heap.size, 2, none⟩) mb_g).trans cell_g2⟩))
                have hS0 := HSS.out _ (Below.refl _ _)
                have B1 := (Below.refl w29.heap.size w29).drew
                have hSd := HSS.out _ B1
                go_region_held3 (fun w' => w'.cell? ⟨w7.heap.size, 0, none⟩ = some (.int .i64 s.1) ∧ w'.cell? ⟨w7.heap.size, 1, none⟩ = some (.int .i64 s.2.1) ∧ w'.cell? ⟨w7.heap.size, 2, none⟩ = some (.slice xa_s n_s xc_s) ∧ w'.cell? ⟨w9.heap.size, 0, none⟩ = some (.int .i64 Y.1) ∧ w'.cell? ⟨w9.heap.size, 1, none⟩ = some (.int .i64 Y.2.1) ∧ w'.cell? ⟨w9.heap.size, 2, none⟩ = some (.slice xa_y n_y xc_y) ∧ w'.cell? ⟨w28.heap.size, 0, none⟩ = some (.int .i64 Y.1) ∧ w'.cell? ⟨w28.heap.size, 1, none⟩ = some (.int .i64 Y.2.1) ∧ w'.cell? ⟨w28.heap.size, 2, none⟩ = some (.slice xa_g n_g xc_g))
                  (first | with_reducible exact hS5 | with_reducible exact hS4 | with_reducible exact hS3 | with_reducible exact hS2 | with_reducible exact hSd | with_reducible exact hS0 | go_keep)
                  ((first
                    | (go_at_call 15; (have HQ := C1.out _ B1; (with_reducible refine HQ.mono ?_); clear HQ; rintro e u1 ⟨rfl, q1⟩; have B2 := B1.trans (q1.mono B1.size); have hS2 := HSS.out _ B2))
                    | (go_at_call 22; (first | (have HQ := C2.out _ B2; (with_reducible refine HQ.mono ?_); clear HQ; rintro e u2 ⟨rfl, q2⟩; have B3 := B2.trans (q2.mono B2.size); have hS3 := HSS.out _ B3) | (have HQ := C4.out _ B4; (with_reducible refine HQ.mono ?_); clear HQ; rintro e u4 ⟨rfl, q4⟩; have B5 := B4.trans (q4.mono B4.size); have hS5 := HSS.out _ B5)))
                    | (go_at_call 14; (have HQ := C3.out _ B3; (with_reducible refine HQ.mono ?_); clear HQ; rintro e u3 ⟨rfl, q3⟩; have B4 := B3.trans (q3.mono B3.size); have hS4 := HSS.out _ B4))
                    | fail))
                have HB2 := Lib.hid (HB.out.trans (B5.mono HB.out.size))
                go_wp2
                go_ret
                exact ⟨rfl, HB2.out⟩
end Go.Proofs.Ytcilgihmaaobeaa
end
