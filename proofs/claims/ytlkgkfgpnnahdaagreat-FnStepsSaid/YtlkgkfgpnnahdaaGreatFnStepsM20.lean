/-
  Texts of this claim joined: laws for its walks, contracts of the functions that the law reaches, and the theorem that the program's answer is the reference's for all arguments.
-/
import Derived.Test.YtlkgkfgpnnahdaaGreatFnStepsM1
import Derived.Test.YtlkgkfgpnnahdaaGreatFnStepsM13
import Derived.Test.YtlkgkfgpnnahdaaGreatFnStepsM14
import Derived.Test.YtlkgkfgpnnahdaaGreatFnStepsM15
import Derived.Test.YtlkgkfgpnnahdaaGreatFnStepsM16
import Derived.Test.YtlkgkfgpnnahdaaGreatFnStepsM18
import Derived.Test.YtlkgkfgpnnahdaaGreatFnStepsM19
import Derived.Test.YtlkgkfgpnnahdaaGreatFnStepsM17
import Derived.Test.YtlkgkfgpnnahdaaGreatFnStepsM12
import Derived.Test.YtlkgkfgpnnahdaaGreatFnStepsM5
import Derived.Deep.RegionHeld3
import Derived.Deep.DeepCutAuto
import Derived.Test.YtlkgkfgpnnahdaaGreatRows
import Derived.Test.YtlkgkfgpnnahdaaGreatFnStepsM2
import Derived.WalkKit
import Derived.ProofKit
import Derived.OpenShut
import Derived.ShutString
import Derived.ChangeOld
import Derived.Below
import Derived.Lib.SmallJoins
section
/-
  The law FnSteps, walked over the contracts of both sides.
-/
namespace Go.Proofs.YtlkgkfgpnnahdaaGreat
open Go.RowKit Go.Deep Go.Sd
set_option linter.unusedSimpArgs false
theorem isSmall_b {w : World} {v : Value} {m : List (List Int)} (h : Tab w v m) : Calls Tryz.prog 25 #[v] w fun e w' => e = .returned (.bool (smallM m)) ∧ Below w.heap.size w w' :=
  (spec_IsSmall_c h).mono fun _ _ h => ⟨h.1, by rw [h.2]; exact Below.refl _ _⟩
theorem isSmall_q {w : World} {v : Value} {m : List (List Int)} (h : Tab w v m) : Calls Tryz.prog 25 #[v] w (Reads w (.bool (smallM m))) :=
  (spec_IsSmall_c h).mono fun _ _ h => ⟨h.1, by rw [h.2]; exact Drawn.refl _⟩
theorem sameLists_b {w : World} {v1 v2 : Value} {xs ys : List (List Int)} (h1 : Tab w v1 xs) (h2 : Tab w v2 ys) : Calls Tryz.prog 24 #[v1, v2] w fun e w' => e = .returned (.bool (decide (xs = ys))) ∧ Below w.heap.size w w' :=
  (sameLists_c h1 h2).mono fun _ _ h => ⟨h.1, h.2.below _⟩
set_option linter.unusedVariables false in
set_option maxHeartbeats 8000000 in
set_option maxRecDepth 100000 in
theorem law_FnSteps {w : World} {v0 : Value} {a0 : List Int} (t0 : BytR w v0 a0) (b0 : True) :
    Calls Tryz.prog 3 #[v0] w fun e w' => e = .returned (.bool true) ∧ Below w.heap.size w w' := by
  have hlen := t0.len
  have HD := Lib.hid t0
  obtain ⟨va, vc, rfl, -⟩ := t0.cellsB
  obtain ⟨n0, hn0⟩ : ∃ n, n = a0.length := ⟨_, rfl⟩
  rw [← hn0] at HD hlen ⊢
  have HBig := Lib.hid (big_c (w := w) (a := va) (c := vc) hlen)
  clear t0 b0 hn0 hlen
  by_cases hbig : 1048576 < n0
  · rw [decide_eq_true hbig] at HBig
    clear HD
    go_enter Tryz.func3, Tryz.ntmps3
    go_wp2_with fail
    (with_reducible refine HBig.out.mono ?_)
    rintro e w9 ⟨rfl, hw9⟩
    rw [← hw9]
    clear hw9 w9
    go_wp2
    go_ret
    exact ⟨rfl, Below.refl _ _⟩
  rw [decide_eq_false hbig] at HBig
  clear hbig
  have HB := Lib.hid (Below.refl w.heap.size w)
  go_enter Tryz.func3, Tryz.ntmps3
  go_wp2_with fail
  (with_reducible refine HBig.out.mono ?_)
  rintro e w9 ⟨rfl, hw9⟩
  rw [← hw9]
  clear hw9 w9 HBig
  have HQ := Lib.hid (DrawIsStep_c HD.out)
  go_wp2_with fail
  (with_reducible refine HQ.out.mono ?_)
  clear HQ
  rintro e w1 ⟨va', vb', vx', rfl, ⟨a, b, x, v1, v2, fa, fb, hvx, f1, f2, hsz⟩, hb⟩
  replace HD := Lib.hid (BytR.frame _ _ _ _ HD.out hb)
  replace HB := Lib.hid (HB.out.trans (hb.mono HB.out.size))
  have Ha := Lib.hid fa.tab
  have Hb := Lib.hid fb.tab
  have Hx := Lib.hid (show StepR _ vx' x from ⟨v1, v2, hvx, f1.tab, f2.tab⟩)
  have HSx := Lib.hid hsz
  clear hvx f1 f2 fa fb hb hsz v1 v2
  obtain ⟨x1_x, x2_x, x3_x, x4_x, x5_x, x6_x, hv⟩ := Hx.out.slices
  subst hv
  obtain ⟨sa_a, sc_a, hv, -⟩ := Ha.out.shape
  subst hv
  obtain ⟨sa_b, sc_b, hv, -⟩ := Hb.out.shape
  subst hv
  generalize hna : (a).length = na at Ha ⊢
  have Hna := Lib.hid hna
  clear hna
  generalize hnb : (b).length = nb at Hb ⊢
  have Hnb := Lib.hid hnb
  clear hnb
  obtain ⟨w2, eb_x, hb, cell_x0, cell_x1, mb_x⟩ := boxA_ex w1 26 (.slice x1_x x2_x x3_x) (.slice x4_x x5_x x6_x)
  replace HD := Lib.hid (BytR.frame _ _ _ _ HD.out hb)
  replace Ha := Lib.hid (Tab.frame _ _ _ _ Ha.out hb)
  replace Hb := Lib.hid (Tab.frame _ _ _ _ Hb.out hb)
  replace Hx := Lib.hid (StepR.frame _ _ _ _ Hx.out hb)
  replace HB := Lib.hid (HB.out.trans (hb.mono HB.out.size))
  clear hb
  have HQ := Lib.hid (DrawFindStep_c HD.out)
  go_wp2_with fail
  (with_reducible refine HQ.out.mono ?_)
  clear HQ
  rintro e w3 ⟨vc', vd', rfl, ⟨c, d, -, fc, fd⟩, hb⟩
  replace HD := Lib.hid (BytR.frame _ _ _ _ HD.out hb)
  replace Ha := Lib.hid (Tab.frame _ _ _ _ Ha.out hb)
  replace Hb := Lib.hid (Tab.frame _ _ _ _ Hb.out hb)
  replace Hx := Lib.hid (StepR.frame _ _ _ _ Hx.out hb)
  replace cell_x0 := (hb.cell (p := ⟨w1.heap.size, 0, none⟩) mb_x).trans cell_x0
  replace cell_x1 := (hb.cell (p := ⟨w1.heap.size, 1, none⟩) mb_x).trans cell_x1
  replace mb_x := Nat.lt_of_lt_of_le mb_x hb.size
  replace HB := Lib.hid (HB.out.trans (hb.mono HB.out.size))
  clear eb_x
  have Hc := Lib.hid fc.tab
  have Hd := Lib.hid fd.tab
  obtain ⟨sa_c, sc_c, hv, -⟩ := Hc.out.shape
  subst hv
  obtain ⟨sa_d, sc_d, hv, -⟩ := Hd.out.shape
  subst hv
  clear fc fd hb
  generalize hnc : (c).length = nc at Hc ⊢
  have Hnc := Lib.hid hnc
  clear hnc
  generalize hnd : (d).length = nd at Hd ⊢
  have Hnd := Lib.hid hnd
  clear hnd
  obtain ⟨ok4, h_ok4⟩ : ∃ bb_, bb_ = (findV c d).isSome := ⟨_, rfl⟩
  have H_ok4 := Lib.hid h_ok4
  clear h_ok4
  have tn_ok4 : (ok4 != ok4) = false := by cases ok4 <;> rfl
  have HQ := Lib.hid (impl_FindStep_c Hc.out Hd.out)
  rw [← H_ok4.out] at HQ
  go_wp2_with fail
  (with_reducible refine HQ.out.mono ?_)
  clear HQ
  rintro e w4 ⟨vy, rfl, hn, hb⟩
  replace HD := Lib.hid (BytR.frame _ _ _ _ HD.out hb)
  replace Ha := Lib.hid (Tab.frame _ _ _ _ Ha.out hb)
  replace Hb := Lib.hid (Tab.frame _ _ _ _ Hb.out hb)
  replace Hx := Lib.hid (StepR.frame _ _ _ _ Hx.out hb)
  replace Hc := Lib.hid (Tab.frame _ _ _ _ Hc.out hb)
  replace Hd := Lib.hid (Tab.frame _ _ _ _ Hd.out hb)
  replace cell_x0 := (hb.cell (p := ⟨w1.heap.size, 0, none⟩) mb_x).trans cell_x0
  replace cell_x1 := (hb.cell (p := ⟨w1.heap.size, 1, none⟩) mb_x).trans cell_x1
  replace mb_x := Nat.lt_of_lt_of_le mb_x hb.size
  replace HB := Lib.hid (HB.out.trans (hb.mono HB.out.size))
  have Hy := Lib.hid (New.stp hn)
  obtain ⟨x1_y, x2_y, x3_y, x4_y, x5_y, x6_y, hv⟩ := Hy.out.slices
  subst hv
  clear hn hb
  obtain ⟨w5, eb_y, hb, cell_y0, cell_y1, mb_y⟩ := boxA_ex w4 26 (.slice x1_y x2_y x3_y) (.slice x4_y x5_y x6_y)
  replace HD := Lib.hid (BytR.frame _ _ _ _ HD.out hb)
  replace Ha := Lib.hid (Tab.frame _ _ _ _ Ha.out hb)
  replace Hb := Lib.hid (Tab.frame _ _ _ _ Hb.out hb)
  replace Hx := Lib.hid (StepR.frame _ _ _ _ Hx.out hb)
  replace Hc := Lib.hid (Tab.frame _ _ _ _ Hc.out hb)
  replace Hd := Lib.hid (Tab.frame _ _ _ _ Hd.out hb)
  replace Hy := Lib.hid (StepR.frame _ _ _ _ Hy.out hb)
  replace cell_x0 := (hb.cell (p := ⟨w1.heap.size, 0, none⟩) mb_x).trans cell_x0
  replace cell_x1 := (hb.cell (p := ⟨w1.heap.size, 1, none⟩) mb_x).trans cell_x1
  replace mb_x := Nat.lt_of_lt_of_le mb_x hb.size
  replace HB := Lib.hid (HB.out.trans (hb.mono HB.out.size))
  clear hb
  have HQ := Lib.hid (spec_FindStep_c Hc.out Hd.out)
  rw [← H_ok4.out] at HQ
  go_wp2_with fail
  (with_reducible refine HQ.out.mono ?_)
  clear HQ
  rintro e w6 ⟨vq, rfl, hn, hb⟩
  replace HD := Lib.hid (BytR.frame _ _ _ _ HD.out hb)
  replace Ha := Lib.hid (Tab.frame _ _ _ _ Ha.out hb)
  replace Hb := Lib.hid (Tab.frame _ _ _ _ Hb.out hb)
  replace Hx := Lib.hid (StepR.frame _ _ _ _ Hx.out hb)
  replace Hc := Lib.hid (Tab.frame _ _ _ _ Hc.out hb)
  replace Hd := Lib.hid (Tab.frame _ _ _ _ Hd.out hb)
  replace Hy := Lib.hid (StepR.frame _ _ _ _ Hy.out hb)
  replace cell_x0 := (hb.cell (p := ⟨w1.heap.size, 0, none⟩) mb_x).trans cell_x0
  replace cell_x1 := (hb.cell (p := ⟨w1.heap.size, 1, none⟩) mb_x).trans cell_x1
  replace mb_x := Nat.lt_of_lt_of_le mb_x hb.size
  replace cell_y0 := (hb.cell (p := ⟨w4.heap.size, 0, none⟩) mb_y).trans cell_y0
  replace cell_y1 := (hb.cell (p := ⟨w4.heap.size, 1, none⟩) mb_y).trans cell_y1
  replace mb_y := Nat.lt_of_lt_of_le mb_y hb.size
  replace HB := Lib.hid (HB.out.trans (hb.mono HB.out.size))
  clear eb_y
  have Hq := Lib.hid (New.stp hn)
  obtain ⟨x1_q, x2_q, x3_q, x4_q, x5_q, x6_q, hv⟩ := Hq.out.slices
  subst hv
  clear hn hb
  obtain ⟨w7, eb_q, hb, cell_q0, cell_q1, mb_q⟩ := boxA_ex w6 26 (.slice x1_q x2_q x3_q) (.slice x4_q x5_q x6_q)
  replace HD := Lib.hid (BytR.frame _ _ _ _ HD.out hb)
  replace Ha := Lib.hid (Tab.frame _ _ _ _ Ha.out hb)
  replace Hb := Lib.hid (Tab.frame _ _ _ _ Hb.out hb)
  replace Hx := Lib.hid (StepR.frame _ _ _ _ Hx.out hb)
  replace Hc := Lib.hid (Tab.frame _ _ _ _ Hc.out hb)
  replace Hd := Lib.hid (Tab.frame _ _ _ _ Hd.out hb)
  replace Hy := Lib.hid (StepR.frame _ _ _ _ Hy.out hb)
  replace Hq := Lib.hid (StepR.frame _ _ _ _ Hq.out hb)
  replace cell_x0 := (hb.cell (p := ⟨w1.heap.size, 0, none⟩) mb_x).trans cell_x0
  replace cell_x1 := (hb.cell (p := ⟨w1.heap.size, 1, none⟩) mb_x).trans cell_x1
  replace mb_x := Nat.lt_of_lt_of_le mb_x hb.size
  replace cell_y0 := (hb.cell (p := ⟨w4.heap.size, 0, none⟩) mb_y).trans cell_y0
  replace cell_y1 := (hb.cell (p := ⟨w4.heap.size, 1, none⟩) mb_y).trans cell_y1
  replace mb_y := Nat.lt_of_lt_of_le mb_y hb.size
  replace HB := Lib.hid (HB.out.trans (hb.mono HB.out.size))
  clear hb
  have HQ := Lib.hid (DrawIsChain_c HD.out)
  go_wp2_with fail
  (with_reducible refine HQ.out.mono ?_)
  clear HQ
  rintro e w8 ⟨vm', vz', rfl, ⟨ms, zs, -, tms, tzs⟩, hb⟩
  replace HD := Lib.hid (BytR.frame _ _ _ _ HD.out hb)
  replace Ha := Lib.hid (Tab.frame _ _ _ _ Ha.out hb)
  replace Hb := Lib.hid (Tab.frame _ _ _ _ Hb.out hb)
  replace Hx := Lib.hid (StepR.frame _ _ _ _ Hx.out hb)
  replace Hc := Lib.hid (Tab.frame _ _ _ _ Hc.out hb)
  replace Hd := Lib.hid (Tab.frame _ _ _ _ Hd.out hb)
  replace Hy := Lib.hid (StepR.frame _ _ _ _ Hy.out hb)
  replace Hq := Lib.hid (StepR.frame _ _ _ _ Hq.out hb)
  replace cell_x0 := (hb.cell (p := ⟨w1.heap.size, 0, none⟩) mb_x).trans cell_x0
  replace cell_x1 := (hb.cell (p := ⟨w1.heap.size, 1, none⟩) mb_x).trans cell_x1
  replace mb_x := Nat.lt_of_lt_of_le mb_x hb.size
  replace cell_y0 := (hb.cell (p := ⟨w4.heap.size, 0, none⟩) mb_y).trans cell_y0
  replace cell_y1 := (hb.cell (p := ⟨w4.heap.size, 1, none⟩) mb_y).trans cell_y1
  replace mb_y := Nat.lt_of_lt_of_le mb_y hb.size
  replace cell_q0 := (hb.cell (p := ⟨w6.heap.size, 0, none⟩) mb_q).trans cell_q0
  replace cell_q1 := (hb.cell (p := ⟨w6.heap.size, 1, none⟩) mb_q).trans cell_q1
  replace mb_q := Nat.lt_of_lt_of_le mb_q hb.size
  replace HB := Lib.hid (HB.out.trans (hb.mono HB.out.size))
  clear eb_q
  have Hms := Lib.hid tms
  have Hzs := Lib.hid tzs
  obtain ⟨sa_ms, sc_ms, hv, -⟩ := Hms.out.shape
  subst hv
  obtain ⟨-, sa_zs, sc_zs, hv, -⟩ := tzs
  subst hv
  clear tms hb
  generalize hnms : (ms).length = nms at Hms ⊢
  have Hnms := Lib.hid hnms
  clear hnms
  generalize hnzs : (zs).length = nzs at Hzs ⊢
  have Hnzs := Lib.hid hnzs
  clear hnzs
  have HQ := Lib.hid (DrawTurnStep_c HD.out)
  go_wp2_with fail
  (with_reducible refine HQ.out.mono ?_)
  clear HQ
  rintro e w9 ⟨vt', rfl, t, tt, hst, hb⟩
  replace HD := Lib.hid (BytR.frame _ _ _ _ HD.out hb)
  replace Ha := Lib.hid (Tab.frame _ _ _ _ Ha.out hb)
  replace Hb := Lib.hid (Tab.frame _ _ _ _ Hb.out hb)
  replace Hx := Lib.hid (StepR.frame _ _ _ _ Hx.out hb)
  replace Hc := Lib.hid (Tab.frame _ _ _ _ Hc.out hb)
  replace Hd := Lib.hid (Tab.frame _ _ _ _ Hd.out hb)
  replace Hy := Lib.hid (StepR.frame _ _ _ _ Hy.out hb)
  replace Hq := Lib.hid (StepR.frame _ _ _ _ Hq.out hb)
  replace Hms := Lib.hid (Tabs.frame _ _ _ _ Hms.out hb)
  replace Hzs := Lib.hid (StpsR.frame _ _ _ _ Hzs.out hb)
  replace cell_x0 := (hb.cell (p := ⟨w1.heap.size, 0, none⟩) mb_x).trans cell_x0
  replace cell_x1 := (hb.cell (p := ⟨w1.heap.size, 1, none⟩) mb_x).trans cell_x1
  replace mb_x := Nat.lt_of_lt_of_le mb_x hb.size
  replace cell_y0 := (hb.cell (p := ⟨w4.heap.size, 0, none⟩) mb_y).trans cell_y0
  replace cell_y1 := (hb.cell (p := ⟨w4.heap.size, 1, none⟩) mb_y).trans cell_y1
  replace mb_y := Nat.lt_of_lt_of_le mb_y hb.size
  replace cell_q0 := (hb.cell (p := ⟨w6.heap.size, 0, none⟩) mb_q).trans cell_q0
  replace cell_q1 := (hb.cell (p := ⟨w6.heap.size, 1, none⟩) mb_q).trans cell_q1
  replace mb_q := Nat.lt_of_lt_of_le mb_q hb.size
  replace HB := Lib.hid (HB.out.trans (hb.mono HB.out.size))
  have Ht := Lib.hid tt
  have HSt := Lib.hid hst
  clear tt hst hb
  obtain ⟨x1_t, x2_t, x3_t, x4_t, x5_t, x6_t, hv⟩ := Ht.out.slices
  subst hv
  obtain ⟨w10, eb_t, hb, cell_t0, cell_t1, mb_t⟩ := boxA_ex w9 26 (.slice x1_t x2_t x3_t) (.slice x4_t x5_t x6_t)
  replace HD := Lib.hid (BytR.frame _ _ _ _ HD.out hb)
  replace Ha := Lib.hid (Tab.frame _ _ _ _ Ha.out hb)
  replace Hb := Lib.hid (Tab.frame _ _ _ _ Hb.out hb)
  replace Hx := Lib.hid (StepR.frame _ _ _ _ Hx.out hb)
  replace Hc := Lib.hid (Tab.frame _ _ _ _ Hc.out hb)
  replace Hd := Lib.hid (Tab.frame _ _ _ _ Hd.out hb)
  replace Hy := Lib.hid (StepR.frame _ _ _ _ Hy.out hb)
  replace Hq := Lib.hid (StepR.frame _ _ _ _ Hq.out hb)
  replace Hms := Lib.hid (Tabs.frame _ _ _ _ Hms.out hb)
  replace Hzs := Lib.hid (StpsR.frame _ _ _ _ Hzs.out hb)
  replace Ht := Lib.hid (StepR.frame _ _ _ _ Ht.out hb)
  replace cell_x0 := (hb.cell (p := ⟨w1.heap.size, 0, none⟩) mb_x).trans cell_x0
  replace cell_x1 := (hb.cell (p := ⟨w1.heap.size, 1, none⟩) mb_x).trans cell_x1
  replace mb_x := Nat.lt_of_lt_of_le mb_x hb.size
  replace cell_y0 := (hb.cell (p := ⟨w4.heap.size, 0, none⟩) mb_y).trans cell_y0
  replace cell_y1 := (hb.cell (p := ⟨w4.heap.size, 1, none⟩) mb_y).trans cell_y1
  replace mb_y := Nat.lt_of_lt_of_le mb_y hb.size
  replace cell_q0 := (hb.cell (p := ⟨w6.heap.size, 0, none⟩) mb_q).trans cell_q0
  replace cell_q1 := (hb.cell (p := ⟨w6.heap.size, 1, none⟩) mb_q).trans cell_q1
  replace mb_q := Nat.lt_of_lt_of_le mb_q hb.size
  replace HB := Lib.hid (HB.out.trans (hb.mono HB.out.size))
  clear hb
  have HQ := Lib.hid (DrawStepsFrom_c HD.out)
  go_wp2_with fail
  (with_reducible refine HQ.out.mono ?_)
  clear HQ
  rintro e w11 ⟨vm', rfl, m, tm, hb⟩
  replace HD := Lib.hid (BytR.frame _ _ _ _ HD.out hb)
  replace Ha := Lib.hid (Tab.frame _ _ _ _ Ha.out hb)
  replace Hb := Lib.hid (Tab.frame _ _ _ _ Hb.out hb)
  replace Hx := Lib.hid (StepR.frame _ _ _ _ Hx.out hb)
  replace Hc := Lib.hid (Tab.frame _ _ _ _ Hc.out hb)
  replace Hd := Lib.hid (Tab.frame _ _ _ _ Hd.out hb)
  replace Hy := Lib.hid (StepR.frame _ _ _ _ Hy.out hb)
  replace Hq := Lib.hid (StepR.frame _ _ _ _ Hq.out hb)
  replace Hms := Lib.hid (Tabs.frame _ _ _ _ Hms.out hb)
  replace Hzs := Lib.hid (StpsR.frame _ _ _ _ Hzs.out hb)
  replace Ht := Lib.hid (StepR.frame _ _ _ _ Ht.out hb)
  replace cell_x0 := (hb.cell (p := ⟨w1.heap.size, 0, none⟩) mb_x).trans cell_x0
  replace cell_x1 := (hb.cell (p := ⟨w1.heap.size, 1, none⟩) mb_x).trans cell_x1
  replace mb_x := Nat.lt_of_lt_of_le mb_x hb.size
  replace cell_y0 := (hb.cell (p := ⟨w4.heap.size, 0, none⟩) mb_y).trans cell_y0
  replace cell_y1 := (hb.cell (p := ⟨w4.heap.size, 1, none⟩) mb_y).trans cell_y1
  replace mb_y := Nat.lt_of_lt_of_le mb_y hb.size
  replace cell_q0 := (hb.cell (p := ⟨w6.heap.size, 0, none⟩) mb_q).trans cell_q0
  replace cell_q1 := (hb.cell (p := ⟨w6.heap.size, 1, none⟩) mb_q).trans cell_q1
  replace mb_q := Nat.lt_of_lt_of_le mb_q hb.size
  replace cell_t0 := (hb.cell (p := ⟨w9.heap.size, 0, none⟩) mb_t).trans cell_t0
  replace cell_t1 := (hb.cell (p := ⟨w9.heap.size, 1, none⟩) mb_t).trans cell_t1
  replace mb_t := Nat.lt_of_lt_of_le mb_t hb.size
  replace HB := Lib.hid (HB.out.trans (hb.mono HB.out.size))
  clear eb_t
  have Hm := Lib.hid tm
  clear tm hb
  obtain ⟨sa_m, sc_m, hv, -⟩ := Hm.out.shape
  subst hv
  generalize hnm : (m).length = nm at Hm ⊢
  have Hnm := Lib.hid hnm
  clear hnm
  obtain ⟨Ls, hLs⟩ : ∃ l, l = stepsV m := ⟨_, rfl⟩
  have HLs := Lib.hid hLs
  clear hLs
  have HQ := Lib.hid (impl_StepsFrom_c Hm.out)
  rw [← HLs.out] at HQ
  go_wp2_with fail
  (with_reducible refine HQ.out.mono ?_)
  clear HQ
  rintro e w12 ⟨vnr, rfl, hn, hb⟩
  replace HD := Lib.hid (BytR.frame _ _ _ _ HD.out hb)
  replace Ha := Lib.hid (Tab.frame _ _ _ _ Ha.out hb)
  replace Hb := Lib.hid (Tab.frame _ _ _ _ Hb.out hb)
  replace Hx := Lib.hid (StepR.frame _ _ _ _ Hx.out hb)
  replace Hc := Lib.hid (Tab.frame _ _ _ _ Hc.out hb)
  replace Hd := Lib.hid (Tab.frame _ _ _ _ Hd.out hb)
  replace Hy := Lib.hid (StepR.frame _ _ _ _ Hy.out hb)
  replace Hq := Lib.hid (StepR.frame _ _ _ _ Hq.out hb)
  replace Hms := Lib.hid (Tabs.frame _ _ _ _ Hms.out hb)
  replace Hzs := Lib.hid (StpsR.frame _ _ _ _ Hzs.out hb)
  replace Ht := Lib.hid (StepR.frame _ _ _ _ Ht.out hb)
  replace Hm := Lib.hid (Tab.frame _ _ _ _ Hm.out hb)
  replace cell_x0 := (hb.cell (p := ⟨w1.heap.size, 0, none⟩) mb_x).trans cell_x0
  replace cell_x1 := (hb.cell (p := ⟨w1.heap.size, 1, none⟩) mb_x).trans cell_x1
  replace mb_x := Nat.lt_of_lt_of_le mb_x hb.size
  replace cell_y0 := (hb.cell (p := ⟨w4.heap.size, 0, none⟩) mb_y).trans cell_y0
  replace cell_y1 := (hb.cell (p := ⟨w4.heap.size, 1, none⟩) mb_y).trans cell_y1
  replace mb_y := Nat.lt_of_lt_of_le mb_y hb.size
  replace cell_q0 := (hb.cell (p := ⟨w6.heap.size, 0, none⟩) mb_q).trans cell_q0
  replace cell_q1 := (hb.cell (p := ⟨w6.heap.size, 1, none⟩) mb_q).trans cell_q1
  replace mb_q := Nat.lt_of_lt_of_le mb_q hb.size
  replace cell_t0 := (hb.cell (p := ⟨w9.heap.size, 0, none⟩) mb_t).trans cell_t0
  replace cell_t1 := (hb.cell (p := ⟨w9.heap.size, 1, none⟩) mb_t).trans cell_t1
  replace mb_t := Nat.lt_of_lt_of_le mb_t hb.size
  replace HB := Lib.hid (HB.out.trans (hb.mono HB.out.size))
  have Hnr := Lib.hid hn.tabs
  clear hn hb
  obtain ⟨sa_nr, sc_nr, hv, -⟩ := Hnr.out.shape
  subst hv
  generalize hN : (Ls).length = N at Hnr ⊢
  have HN := Lib.hid hN
  clear hN
  have HQ := Lib.hid (spec_StepsFrom_c Hm.out)
  rw [← HLs.out] at HQ
  go_wp2_with fail
  (with_reducible refine HQ.out.mono ?_)
  clear HQ
  rintro e w13 ⟨vfr, rfl, hn, hb⟩
  replace HD := Lib.hid (BytR.frame _ _ _ _ HD.out hb)
  replace Ha := Lib.hid (Tab.frame _ _ _ _ Ha.out hb)
  replace Hb := Lib.hid (Tab.frame _ _ _ _ Hb.out hb)
  replace Hx := Lib.hid (StepR.frame _ _ _ _ Hx.out hb)
  replace Hc := Lib.hid (Tab.frame _ _ _ _ Hc.out hb)
  replace Hd := Lib.hid (Tab.frame _ _ _ _ Hd.out hb)
  replace Hy := Lib.hid (StepR.frame _ _ _ _ Hy.out hb)
  replace Hq := Lib.hid (StepR.frame _ _ _ _ Hq.out hb)
  replace Hms := Lib.hid (Tabs.frame _ _ _ _ Hms.out hb)
  replace Hzs := Lib.hid (StpsR.frame _ _ _ _ Hzs.out hb)
  replace Ht := Lib.hid (StepR.frame _ _ _ _ Ht.out hb)
  replace Hm := Lib.hid (Tab.frame _ _ _ _ Hm.out hb)
  replace Hnr := Lib.hid (Tabs.frame _ _ _ _ Hnr.out hb)
  replace cell_x0 := (hb.cell (p := ⟨w1.heap.size, 0, none⟩) mb_x).trans cell_x0
  replace cell_x1 := (hb.cell (p := ⟨w1.heap.size, 1, none⟩) mb_x).trans cell_x1
  replace mb_x := Nat.lt_of_lt_of_le mb_x hb.size
  replace cell_y0 := (hb.cell (p := ⟨w4.heap.size, 0, none⟩) mb_y).trans cell_y0
  replace cell_y1 := (hb.cell (p := ⟨w4.heap.size, 1, none⟩) mb_y).trans cell_y1
  replace mb_y := Nat.lt_of_lt_of_le mb_y hb.size
  replace cell_q0 := (hb.cell (p := ⟨w6.heap.size, 0, none⟩) mb_q).trans cell_q0
  replace cell_q1 := (hb.cell (p := ⟨w6.heap.size, 1, none⟩) mb_q).trans cell_q1
  replace mb_q := Nat.lt_of_lt_of_le mb_q hb.size
  replace cell_t0 := (hb.cell (p := ⟨w9.heap.size, 0, none⟩) mb_t).trans cell_t0
  replace cell_t1 := (hb.cell (p := ⟨w9.heap.size, 1, none⟩) mb_t).trans cell_t1
  replace mb_t := Nat.lt_of_lt_of_le mb_t hb.size
  replace HB := Lib.hid (HB.out.trans (hb.mono HB.out.size))
  have Hfr := Lib.hid hn.tabs
  clear hn hb
  obtain ⟨sa_fr, sc_fr, hv, -⟩ := Hfr.out.shape
  subst hv
  rw [HN.out] at Hfr ⊢
  have HQ := Lib.hid (DrawAreLinked_c HD.out)
  go_wp2_with fail
  (with_reducible refine HQ.out.mono ?_)
  clear HQ
  rintro e w14 ⟨ve', vf', rfl, ⟨e', f', te, tf⟩, hb⟩
  replace HD := Lib.hid (BytR.frame _ _ _ _ HD.out hb)
  replace Ha := Lib.hid (Tab.frame _ _ _ _ Ha.out hb)
  replace Hb := Lib.hid (Tab.frame _ _ _ _ Hb.out hb)
  replace Hx := Lib.hid (StepR.frame _ _ _ _ Hx.out hb)
  replace Hc := Lib.hid (Tab.frame _ _ _ _ Hc.out hb)
  replace Hd := Lib.hid (Tab.frame _ _ _ _ Hd.out hb)
  replace Hy := Lib.hid (StepR.frame _ _ _ _ Hy.out hb)
  replace Hq := Lib.hid (StepR.frame _ _ _ _ Hq.out hb)
  replace Hms := Lib.hid (Tabs.frame _ _ _ _ Hms.out hb)
  replace Hzs := Lib.hid (StpsR.frame _ _ _ _ Hzs.out hb)
  replace Ht := Lib.hid (StepR.frame _ _ _ _ Ht.out hb)
  replace Hm := Lib.hid (Tab.frame _ _ _ _ Hm.out hb)
  replace Hnr := Lib.hid (Tabs.frame _ _ _ _ Hnr.out hb)
  replace Hfr := Lib.hid (Tabs.frame _ _ _ _ Hfr.out hb)
  replace cell_x0 := (hb.cell (p := ⟨w1.heap.size, 0, none⟩) mb_x).trans cell_x0
  replace cell_x1 := (hb.cell (p := ⟨w1.heap.size, 1, none⟩) mb_x).trans cell_x1
  replace mb_x := Nat.lt_of_lt_of_le mb_x hb.size
  replace cell_y0 := (hb.cell (p := ⟨w4.heap.size, 0, none⟩) mb_y).trans cell_y0
  replace cell_y1 := (hb.cell (p := ⟨w4.heap.size, 1, none⟩) mb_y).trans cell_y1
  replace mb_y := Nat.lt_of_lt_of_le mb_y hb.size
  replace cell_q0 := (hb.cell (p := ⟨w6.heap.size, 0, none⟩) mb_q).trans cell_q0
  replace cell_q1 := (hb.cell (p := ⟨w6.heap.size, 1, none⟩) mb_q).trans cell_q1
  replace mb_q := Nat.lt_of_lt_of_le mb_q hb.size
  replace cell_t0 := (hb.cell (p := ⟨w9.heap.size, 0, none⟩) mb_t).trans cell_t0
  replace cell_t1 := (hb.cell (p := ⟨w9.heap.size, 1, none⟩) mb_t).trans cell_t1
  replace mb_t := Nat.lt_of_lt_of_le mb_t hb.size
  replace HB := Lib.hid (HB.out.trans (hb.mono HB.out.size))
  have He := Lib.hid te
  have Hf := Lib.hid tf
  obtain ⟨sa_e, sc_e, hv, -⟩ := He.out.shape
  subst hv
  obtain ⟨sa_f, sc_f, hv, -⟩ := Hf.out.shape
  subst hv
  clear te tf hb
  generalize hne : (e').length = ne at He ⊢
  have Hne := Lib.hid hne
  clear hne
  generalize hnf : (f').length = nf at Hf ⊢
  have Hnf := Lib.hid hnf
  clear hnf
  clear HD
  obtain ⟨L, h_L⟩ : ∃ bb_, bb_ = stepM a b x := ⟨_, rfl⟩
  have H_L := Lib.hid h_L
  clear h_L
  have tn_L : (L != L) = false := by cases L <;> rfl
  obtain ⟨ch, h_ch⟩ : ∃ bb_, bb_ = chainM ms zs := ⟨_, rfl⟩
  have H_ch := Lib.hid h_ch
  clear h_ch
  have tn_ch : (ch != ch) = false := by cases ch <;> rfl
  obtain ⟨li, h_li⟩ : ∃ bb_, bb_ = linkM e' f' := ⟨_, rfl⟩
  have H_li := Lib.hid h_li
  clear h_li
  have tn_li : (li != li) = false := by cases li <;> rfl
  have tn_N : ((N : Int) != (N : Int)) = false := by simp
  go_upto_region 13 with fail
  go_cut [116] (fun sB wx => sB = .bool false ∧ Hid (Below w.heap.size w wx) ∧ Hid (Tab wx (.slice sa_a na sc_a) (a)) ∧ Hid (Tab wx (.slice sa_b nb sc_b) (b)) ∧ Hid (StepR wx (.agg #[.slice x1_x x2_x x3_x, .slice x4_x x5_x x6_x]) (x)) ∧ wx.cell? ⟨w1.heap.size, 0, none⟩ = some (.slice x1_x x2_x x3_x) ∧ wx.cell? ⟨w1.heap.size, 1, none⟩ = some (.slice x4_x x5_x x6_x) ∧ w1.heap.size < wx.heap.size ∧ Hid (Tab wx (.slice sa_c nc sc_c) (c)) ∧ Hid (Tab wx (.slice sa_d nd sc_d) (d)) ∧ Hid (StepR wx (.agg #[.slice x1_y x2_y x3_y, .slice x4_y x5_y x6_y]) (found (findV c d))) ∧ wx.cell? ⟨w4.heap.size, 0, none⟩ = some (.slice x1_y x2_y x3_y) ∧ wx.cell? ⟨w4.heap.size, 1, none⟩ = some (.slice x4_y x5_y x6_y) ∧ w4.heap.size < wx.heap.size ∧ Hid (Tab wx (.slice sa_m nm sc_m) (m)) ∧ Hid (Tabs wx (.slice sa_nr N sc_nr) (Ls)) ∧ Hid (Tabs wx (.slice sa_fr N sc_fr) (Ls)) ∧ Hid (Tab wx (.slice sa_e ne sc_e) (e')) ∧ Hid (Tab wx (.slice sa_f nf sc_f) (f')))
  case first =>
    as_aux_lemma =>
      have C1 := Lib.hid (fun (w' : World) (hb : Below w14.heap.size w14 w') => impl_IsStep_c (Tab.frame _ _ _ _ Ha.out hb) (Tab.frame _ _ _ _ Hb.out hb) (StepR.frame _ _ _ _ Hx.out hb))
      rw [← H_L.out] at C1
      have C2 := Lib.hid (fun (w' : World) (hb : Below w14.heap.size w14 w') => spec_IsStep_c (Tab.frame _ _ _ _ Ha.out hb) (Tab.frame _ _ _ _ Hb.out hb) (StepR.frame _ _ _ _ Hx.out hb))
      rw [← H_L.out] at C2
      have C3 := Lib.hid (fun (w' : World) (hb : Below w14.heap.size w14 w') => sameStep_c (StepR.frame _ _ _ _ Hy.out hb) (StepR.frame _ _ _ _ Hq.out hb))
      rw [decide_eq_true (rfl : found (findV c d) = found (findV c d))] at C3
      have C4 := Lib.hid (fun (w' : World) (hb : Below w14.heap.size w14 w') => impl_IsChain_c (Tabs.frame _ _ _ _ Hms.out hb) (StpsR.frame _ _ _ _ Hzs.out hb))
      rw [← H_ch.out] at C4
      have C5 := Lib.hid (fun (w' : World) (hb : Below w14.heap.size w14 w') => spec_IsChain_c (Tabs.frame _ _ _ _ Hms.out hb) (StpsR.frame _ _ _ _ Hzs.out hb))
      rw [← H_ch.out] at C5
      have C6 := Lib.hid (fun (w' : World) (hb : Below w14.heap.size w14 w') => impl_TurnStep_c (StepR.frame _ _ _ _ Ht.out hb) HSt.out)
      have C7 := Lib.hid (fun (w' : World) (hb : Below w14.heap.size w14 w') => spec_TurnStep_c (StepR.frame _ _ _ _ Ht.out hb) HSt.out)
      have C9 := Lib.hid (fun (w' : World) (hb : Below w14.heap.size w14 w') => impl_AreLinked_c (Tab.frame _ _ _ _ He.out hb) (Tab.frame _ _ _ _ Hf.out hb))
      rw [← H_li.out] at C9
      have C10 := Lib.hid (fun (w' : World) (hb : Below w14.heap.size w14 w') => spec_AreLinked_c (Tab.frame _ _ _ _ He.out hb) (Tab.frame _ _ _ _ Hf.out hb))
      rw [← H_li.out] at C10
      have C8 := Lib.hid (fun (w' : World) (v1 v2 : Value) (h1 : StepR w' v1 (t.2, t.1)) (h2 : StepR w' v2 (t.2, t.1)) => sameStep_c h1 h2)
      rw [decide_eq_true (rfl : (t.2, t.1) = (t.2, t.1))] at C8
      have HSS := Lib.hid (fun (w' : World) (hb : Below w14.heap.size w14 w') => (show w'.cell? ⟨w1.heap.size, 0, none⟩ = some (.slice x1_x x2_x x3_x) ∧ w'.cell? ⟨w1.heap.size, 1, none⟩ = some (.slice x4_x x5_x x6_x) ∧ w'.cell? ⟨w4.heap.size, 0, none⟩ = some (.slice x1_y x2_y x3_y) ∧ w'.cell? ⟨w4.heap.size, 1, none⟩ = some (.slice x4_y x5_y x6_y) ∧ w'.cell? ⟨w6.heap.size, 0, none⟩ = some (.slice x1_q x2_q x3_q) ∧ w'.cell? ⟨w6.heap.size, 1, none⟩ = some (.slice x4_q x5_q x6_q) ∧ w'.cell? ⟨w9.heap.size, 0, none⟩ = some (.slice x1_t x2_t x3_t) ∧ w'.cell? ⟨w9.heap.size, 1, none⟩ = some (.slice x4_t x5_t x6_t) from ⟨(hb.cell (p := ⟨w1.heap.size, 0, none⟩) mb_x).trans cell_x0, (hb.cell (p := ⟨w1.heap.size, 1, none⟩) mb_x).trans cell_x1, (hb.cell (p := ⟨w4.heap.size, 0, none⟩) mb_y).trans cell_y0, (hb.cell (p := ⟨w4.heap.size, 1, none⟩) mb_y).trans cell_y1, (hb.cell (p := ⟨w6.heap.size, 0, none⟩) mb_q).trans cell_q0, (hb.cell (p := ⟨w6.heap.size, 1, none⟩) mb_q).trans cell_q1, (hb.cell (p := ⟨w9.heap.size, 0, none⟩) mb_t).trans cell_t0, (hb.cell (p := ⟨w9.heap.size, 1, none⟩) mb_t).trans cell_t1⟩))
      have hS0 := HSS.out _ (Below.refl _ _)
      have B1 := (Below.refl w14.heap.size w14).drew
      have hSd := HSS.out _ B1
      go_region_held3 (fun w' => w'.cell? ⟨w1.heap.size, 0, none⟩ = some (.slice x1_x x2_x x3_x) ∧ w'.cell? ⟨w1.heap.size, 1, none⟩ = some (.slice x4_x x5_x x6_x) ∧ w'.cell? ⟨w4.heap.size, 0, none⟩ = some (.slice x1_y x2_y x3_y) ∧ w'.cell? ⟨w4.heap.size, 1, none⟩ = some (.slice x4_y x5_y x6_y) ∧ w'.cell? ⟨w6.heap.size, 0, none⟩ = some (.slice x1_q x2_q x3_q) ∧ w'.cell? ⟨w6.heap.size, 1, none⟩ = some (.slice x4_q x5_q x6_q) ∧ w'.cell? ⟨w9.heap.size, 0, none⟩ = some (.slice x1_t x2_t x3_t) ∧ w'.cell? ⟨w9.heap.size, 1, none⟩ = some (.slice x4_t x5_t x6_t))
        (first | with_reducible exact hS11 | with_reducible exact hS10 | with_reducible exact hS9 | with_reducible exact hS8 | with_reducible exact hS7 | with_reducible exact hS6 | with_reducible exact hS5 | with_reducible exact hS4 | with_reducible exact hS3 | with_reducible exact hS2 | with_reducible exact hSd | with_reducible exact hS0 | go_keep)
        ((first
          | (go_at_call 15; (have HQ := C1.out _ B1; (with_reducible refine HQ.mono ?_); clear HQ; rintro e u1 ⟨rfl, q1⟩; have B2 := B1.trans (q1.mono B1.size); have hS2 := HSS.out _ B2))
          | (go_at_call 16; (have HQ := C2.out _ B2; (with_reducible refine HQ.mono ?_); clear HQ; rintro e u2 ⟨rfl, q2⟩; have B3 := B2.trans (q2.mono B2.size); have hS3 := HSS.out _ B3))
          | (go_at_call 17; (first | (have HQ := C3.out _ B3; (with_reducible refine HQ.mono ?_); clear HQ; rintro e u3 ⟨rfl, q3⟩; have B4 := B3.trans (q3.mono B3.size); have hS4 := HSS.out _ B4) | (have HQ := C8.out _ _ _ (StepR.frame _ _ _ _ (New.stp n6) q7) (New.stp n7); (with_reducible refine HQ.mono ?_); clear HQ; rintro e u8 ⟨rfl, q8⟩; have B9 := B8.trans (q8.mono B8.size); have hS9 := HSS.out _ B9)))
          | (go_at_call 18; (have HQ := C4.out _ B4; (with_reducible refine HQ.mono ?_); clear HQ; rintro e u4 ⟨rfl, q4⟩; have B5 := B4.trans (q4.mono B4.size); have hS5 := HSS.out _ B5))
          | (go_at_call 19; (have HQ := C5.out _ B5; (with_reducible refine HQ.mono ?_); clear HQ; rintro e u5 ⟨rfl, q5⟩; have B6 := B5.trans (q5.mono B5.size); have hS6 := HSS.out _ B6))
          | (go_at_call 20; (have HQ := C6.out _ B6; (with_reducible refine HQ.mono ?_); clear HQ; rintro e u6 ⟨r6, rfl, n6, q6⟩; have B7 := B6.trans (q6.mono B6.size); have hS7 := HSS.out _ B7))
          | (go_at_call 21; (have HQ := C7.out _ B7; (with_reducible refine HQ.mono ?_); clear HQ; rintro e u7 ⟨r7, rfl, n7, q7⟩; have B8 := B7.trans (q7.mono B7.size); have hS8 := HSS.out _ B8))
          | (go_at_call 22; (have HQ := C9.out _ B9; (with_reducible refine HQ.mono ?_); clear HQ; rintro e u9 ⟨rfl, q9⟩; have B10 := B9.trans (q9.mono B9.size); have hS10 := HSS.out _ B10))
          | (go_at_call 23; (have HQ := C10.out _ B10; (with_reducible refine HQ.mono ?_); clear HQ; rintro e u10 ⟨rfl, q10⟩; have B11 := B10.trans (q10.mono B10.size); have hS11 := HSS.out _ B11))
          | fail))
      replace Ha := Lib.hid (Tab.frame _ _ _ _ Ha.out B11)
      replace Hb := Lib.hid (Tab.frame _ _ _ _ Hb.out B11)
      replace Hx := Lib.hid (StepR.frame _ _ _ _ Hx.out B11)
      replace Hc := Lib.hid (Tab.frame _ _ _ _ Hc.out B11)
      replace Hd := Lib.hid (Tab.frame _ _ _ _ Hd.out B11)
      replace Hy := Lib.hid (StepR.frame _ _ _ _ Hy.out B11)
      replace Hq := Lib.hid (StepR.frame _ _ _ _ Hq.out B11)
      replace Hms := Lib.hid (Tabs.frame _ _ _ _ Hms.out B11)
      replace Hzs := Lib.hid (StpsR.frame _ _ _ _ Hzs.out B11)
      replace Ht := Lib.hid (StepR.frame _ _ _ _ Ht.out B11)
      replace Hm := Lib.hid (Tab.frame _ _ _ _ Hm.out B11)
      replace Hnr := Lib.hid (Tabs.frame _ _ _ _ Hnr.out B11)
      replace Hfr := Lib.hid (Tabs.frame _ _ _ _ Hfr.out B11)
      replace He := Lib.hid (Tab.frame _ _ _ _ He.out B11)
      replace Hf := Lib.hid (Tab.frame _ _ _ _ Hf.out B11)
      replace cell_x0 := (B11.cell (p := ⟨w1.heap.size, 0, none⟩) mb_x).trans cell_x0
      replace cell_x1 := (B11.cell (p := ⟨w1.heap.size, 1, none⟩) mb_x).trans cell_x1
      replace mb_x := Nat.lt_of_lt_of_le mb_x B11.size
      replace cell_y0 := (B11.cell (p := ⟨w4.heap.size, 0, none⟩) mb_y).trans cell_y0
      replace cell_y1 := (B11.cell (p := ⟨w4.heap.size, 1, none⟩) mb_y).trans cell_y1
      replace mb_y := Nat.lt_of_lt_of_le mb_y B11.size
      replace cell_q0 := (B11.cell (p := ⟨w6.heap.size, 0, none⟩) mb_q).trans cell_q0
      replace cell_q1 := (B11.cell (p := ⟨w6.heap.size, 1, none⟩) mb_q).trans cell_q1
      replace mb_q := Nat.lt_of_lt_of_le mb_q B11.size
      replace cell_t0 := (B11.cell (p := ⟨w9.heap.size, 0, none⟩) mb_t).trans cell_t0
      replace cell_t1 := (B11.cell (p := ⟨w9.heap.size, 1, none⟩) mb_t).trans cell_t1
      replace mb_t := Nat.lt_of_lt_of_le mb_t B11.size
      replace HB := Lib.hid (HB.out.trans (B11.mono HB.out.size))
      go_wp2_with fail
      go_meet
      case rel => exact ⟨rfl, HB, Ha, Hb, Hx, cell_x0, cell_x1, mb_x, Hc, Hd, Hy, cell_y0, cell_y1, mb_y, Hm, Hnr, Hfr, He, Hf⟩
  case rest =>
    as_aux_lemma =>
      clear Ha
      clear Hb
      clear Hx
      clear Hc
      clear Hd
      clear Hy
      clear Hq
      clear Hms
      clear Hzs
      clear Ht
      clear Hm
      clear Hnr
      clear Hfr
      clear He
      clear Hf
      clear cell_x0 cell_x1 mb_x
      clear cell_y0 cell_y1 mb_y
      clear cell_q0 cell_q1 mb_q
      clear cell_t0 cell_t1 mb_t
      clear HB
      obtain ⟨rfl, HB, Ha, Hb, Hx, cell_x0, cell_x1, mb_x, Hc, Hd, Hy, cell_y0, cell_y1, mb_y, Hm, Hnr, Hfr, He, Hf⟩ := hcut
      obtain ⟨w15, rfl⟩ : ∃ x, x = wc := ⟨_, rfl⟩
      obtain ⟨s3, h_s3⟩ : ∃ bb_, bb_ = smallM m := ⟨_, rfl⟩
      have H_s3 := Lib.hid h_s3
      clear h_s3
      go_wp2
      go_loopg [20] N (fun g iv wr => ∃ i : Nat, iv = .int .i64 i ∧ i + g = N ∧ Hid (Below w15.heap.size w15 wr))
      case atStart => exact ⟨0, rfl, by omega, Lib.hid (Below.refl _ _)⟩
      case round =>
        obtain ⟨i, rfl, hi, HBl⟩ := hrel
        obtain ⟨w16, rfl⟩ : ∃ x, x = wr := ⟨_, rfl⟩
        have hbl := HBl.out
        replace Ha := Lib.hid (Tab.frame _ _ _ _ Ha.out hbl)
        replace Hb := Lib.hid (Tab.frame _ _ _ _ Hb.out hbl)
        replace Hx := Lib.hid (StepR.frame _ _ _ _ Hx.out hbl)
        replace Hc := Lib.hid (Tab.frame _ _ _ _ Hc.out hbl)
        replace Hd := Lib.hid (Tab.frame _ _ _ _ Hd.out hbl)
        replace Hy := Lib.hid (StepR.frame _ _ _ _ Hy.out hbl)
        replace Hm := Lib.hid (Tab.frame _ _ _ _ Hm.out hbl)
        replace Hnr := Lib.hid (Tabs.frame _ _ _ _ Hnr.out hbl)
        replace Hfr := Lib.hid (Tabs.frame _ _ _ _ Hfr.out hbl)
        replace He := Lib.hid (Tab.frame _ _ _ _ He.out hbl)
        replace Hf := Lib.hid (Tab.frame _ _ _ _ Hf.out hbl)
        replace cell_x0 := (hbl.cell (p := ⟨w1.heap.size, 0, none⟩) mb_x).trans cell_x0
        replace cell_x1 := (hbl.cell (p := ⟨w1.heap.size, 1, none⟩) mb_x).trans cell_x1
        replace mb_x := Nat.lt_of_lt_of_le mb_x hbl.size
        replace cell_y0 := (hbl.cell (p := ⟨w4.heap.size, 0, none⟩) mb_y).trans cell_y0
        replace cell_y1 := (hbl.cell (p := ⟨w4.heap.size, 1, none⟩) mb_y).trans cell_y1
        replace mb_y := Nat.lt_of_lt_of_le mb_y hbl.size
        replace HB := Lib.hid (HB.out.trans (hbl.mono HB.out.size))
        clear hbl
        by_cases hiN : i < N
        · have hiNi : (i : Int) < (N : Int) := by omega
          have hi0 : (0 : Int) ≤ (i : Int) := by omega
          have hNb : N ≤ 9223372036854775807 := by have := Hnr.out.len; rw [HN.out] at this; exact this
          obtain ⟨g, rfl⟩ : ∃ x, gk = x + 1 := ⟨gk - 1, by omega⟩
          obtain ⟨mi, hmi, -⟩ := at_lt (xs := Ls) (k := i) (by rw [HN.out]; exact hiN)
          have HJ0 := Lib.hid (fun (hs : smallM m = true) => steps_law1 hs (x := mi) (by rw [← HLs.out]; exact List.mem_of_getElem? hmi))
          obtain ⟨lb, lo, lc, q0, q0c, hv, hlb, g0, T0⟩ := Tabs.tabAt Hnr.out hmi
          rw [HN.out] at hv
          simp only [Value.slice.injEq] at hv
          obtain ⟨rfl, -, rfl⟩ := hv
          obtain ⟨kb, ko, kc, q1, q1c, hv, hkb, g1, T1⟩ := Tabs.tabAt Hfr.out hmi
          rw [HN.out] at hv
          simp only [Value.slice.injEq] at hv
          obtain ⟨rfl, -, rfl⟩ := hv
          have Hni := Lib.hid T0
          have Hfi := Lib.hid T1
          clear T0 T1 hmi
          generalize hnmi : mi.length = nmi at g0 g1 Hni Hfi
          have Hnmi := Lib.hid hnmi
          clear hnmi
          have K1 := Lib.hid (fun (w' : World) (hb : Below w16.heap.size w16 w') => sameLists_b (Tab.frame _ _ _ _ Hni.out hb) (Tab.frame _ _ _ _ Hfi.out hb))
          rw [decide_eq_true (rfl : mi = mi)] at K1
          have K2 := Lib.hid (fun (w' : World) (hb : Below w16.heap.size w16 w') => isSmall_b (Tab.frame _ _ _ _ Hm.out hb))
          rw [← H_s3.out] at K2
          cases s3 with
          | false =>
            have Q1 := Lib.hid (fun n => Reads.quiet (sameLists_c (Hni.out.dn n) (Hfi.out.dn n)))
            rw [decide_eq_true (rfl : mi = mi)] at Q1
            have Q2 := Lib.hid (fun n => Reads.quiet (isSmall_q (Hm.out.dn n)))
            rw [← H_s3.out] at Q2
            go_wp2
            go_quiet ((first | (go_at_call 24; exact Q1.out _) | (go_at_call 25; exact Q2.out _)))
            go_wp2
            go_roundg g
            case measure => omega
            case rel => exact ⟨i + 1, by go_num, by omega, Lib.hid (HBl.out.trans (below_drewN (Below.refl _ _) _))⟩
          | true =>
            have HJ := Lib.hid (HJ0.out H_s3.out.symm)
            have K3 := Lib.hid (fun (w' : World) (hb : Below w16.heap.size w16 w') => spec_SameAway_c (Tab.frame _ _ _ _ Hm.out hb) (Tab.frame _ _ _ _ Hni.out hb))
            rw [HJ.out] at K3
            go_wp2
            have HSS := Lib.hid (fun (w' : World) (hb : Below w16.heap.size w16 w') => (show w'.cell? ⟨lb, lo + i, none⟩ = some (.slice q0 nmi q0c) ∧ w'.cell? ⟨kb, ko + i, none⟩ = some (.slice q1 nmi q1c) from ⟨(hb.cell (p := ⟨lb, lo + i, none⟩) hlb).trans g0, (hb.cell (p := ⟨kb, ko + i, none⟩) hkb).trans g1⟩))
            have hS0 := HSS.out _ (Below.refl _ _)
            have B1 := (Below.refl w16.heap.size w16).drew
            have hSd := HSS.out _ B1
            go_region_held3 (fun w' => w'.cell? ⟨lb, lo + i, none⟩ = some (.slice q0 nmi q0c) ∧ w'.cell? ⟨kb, ko + i, none⟩ = some (.slice q1 nmi q1c))
              (first | with_reducible exact hS4 | with_reducible exact hS3 | with_reducible exact hS2 | with_reducible exact hSd | with_reducible exact hS0 | go_keep)
              ((first
                | (go_at_call 24; (have HQ := K1.out _ B1; (with_reducible refine HQ.mono ?_); clear HQ; rintro e u1 ⟨rfl, q1⟩; have B2 := B1.trans (q1.mono B1.size); have hS2 := HSS.out _ B2))
                | (go_at_call 25; (have HQ := K2.out _ B2; (with_reducible refine HQ.mono ?_); clear HQ; rintro e u2 ⟨rfl, q2⟩; have B3 := B2.trans (q2.mono B2.size); have hS3 := HSS.out _ B3))
                | (go_at_call 26; (have HQ := K3.out _ B3; (with_reducible refine HQ.mono ?_); clear HQ; rintro e u3 ⟨rfl, q3⟩; have B4 := B3.trans (q3.mono B3.size); have hS4 := HSS.out _ B4))
                | fail))
            have HBz := Lib.hid (HBl.out.trans (B4.mono HBl.out.size))
            go_wp2
            go_roundg g
            case measure => omega
            case rel => exact ⟨i + 1, by go_num, by omega, HBz⟩
        · have hiNi : ¬ ((i : Int) < (N : Int)) := by omega
          clear HBl
          go_upto_region 20 with fail
          go_cut [167] (fun sB wx => sB = .bool false ∧ Hid (Below w.heap.size w wx) ∧ Hid (Tab wx (.slice sa_a na sc_a) (a)) ∧ Hid (Tab wx (.slice sa_b nb sc_b) (b)) ∧ Hid (StepR wx (.agg #[.slice x1_x x2_x x3_x, .slice x4_x x5_x x6_x]) (x)) ∧ wx.cell? ⟨w1.heap.size, 0, none⟩ = some (.slice x1_x x2_x x3_x) ∧ wx.cell? ⟨w1.heap.size, 1, none⟩ = some (.slice x4_x x5_x x6_x) ∧ w1.heap.size < wx.heap.size ∧ Hid (Tab wx (.slice sa_e ne sc_e) (e')) ∧ Hid (Tab wx (.slice sa_f nf sc_f) (f')))
          case first =>
            as_aux_lemma =>
              cases ok4 with
              | false =>
                go_wp2_with fail
                go_meet
                case rel => exact ⟨rfl, HB, Ha, Hb, Hx, cell_x0, cell_x1, mb_x, He, Hf⟩
              | true =>
                obtain ⟨yv, hyv⟩ : ∃ yv, findV c d = some yv := by
                  cases e : findV c d with
                  | none => have := H_ok4.out; rw [e] at this; cases this
                  | some yv => exact ⟨yv, rfl⟩
                have HJ := Lib.hid (show stepM c d (found (findV c d)) = true from by rw [hyv]; exact findV_holds hyv)
                clear hyv
                have HQ := Lib.hid (impl_IsStep_c Hc.out Hd.out Hy.out)
                rw [HJ.out] at HQ
                go_wp2_with fail
                (with_reducible refine HQ.out.mono ?_)
                clear HQ
                rintro e w17 ⟨rfl, hb⟩
                replace Ha := Lib.hid (Tab.frame _ _ _ _ Ha.out hb)
                replace Hb := Lib.hid (Tab.frame _ _ _ _ Hb.out hb)
                replace Hx := Lib.hid (StepR.frame _ _ _ _ Hx.out hb)
                replace Hc := Lib.hid (Tab.frame _ _ _ _ Hc.out hb)
                replace Hd := Lib.hid (Tab.frame _ _ _ _ Hd.out hb)
                replace Hy := Lib.hid (StepR.frame _ _ _ _ Hy.out hb)
                replace Hm := Lib.hid (Tab.frame _ _ _ _ Hm.out hb)
                replace Hnr := Lib.hid (Tabs.frame _ _ _ _ Hnr.out hb)
                replace Hfr := Lib.hid (Tabs.frame _ _ _ _ Hfr.out hb)
                replace He := Lib.hid (Tab.frame _ _ _ _ He.out hb)
                replace Hf := Lib.hid (Tab.frame _ _ _ _ Hf.out hb)
                replace cell_x0 := (hb.cell (p := ⟨w1.heap.size, 0, none⟩) mb_x).trans cell_x0
                replace cell_x1 := (hb.cell (p := ⟨w1.heap.size, 1, none⟩) mb_x).trans cell_x1
                replace mb_x := Nat.lt_of_lt_of_le mb_x hb.size
                replace cell_y0 := (hb.cell (p := ⟨w4.heap.size, 0, none⟩) mb_y).trans cell_y0
                replace cell_y1 := (hb.cell (p := ⟨w4.heap.size, 1, none⟩) mb_y).trans cell_y1
                replace mb_y := Nat.lt_of_lt_of_le mb_y hb.size
                replace HB := Lib.hid (HB.out.trans (hb.mono HB.out.size))
                clear hb
                obtain ⟨s1, h_s1⟩ : ∃ bb_, bb_ = smallM c := ⟨_, rfl⟩
                have H_s1 := Lib.hid h_s1
                clear h_s1
                obtain ⟨s2, h_s2⟩ : ∃ bb_, bb_ = smallM d := ⟨_, rfl⟩
                have H_s2 := Lib.hid h_s2
                clear h_s2
                cases s1 with
                | false =>
                  have HQ := Lib.hid (spec_IsSmall_c Hc.out)
                  rw [← H_s1.out] at HQ
                  go_wp2_with fail
                  (with_reducible refine HQ.out.mono ?_)
                  clear HQ
                  rintro e w9 ⟨rfl, hw9⟩
                  rw [hw9]
                  clear hw9 w9
                  go_wp2_with fail
                  go_meet
                  case rel => exact ⟨rfl, HB, Ha, Hb, Hx, cell_x0, cell_x1, mb_x, He, Hf⟩
                | true =>
                  have HQ := Lib.hid (spec_IsSmall_c Hc.out)
                  rw [← H_s1.out] at HQ
                  go_wp2_with fail
                  (with_reducible refine HQ.out.mono ?_)
                  clear HQ
                  rintro e w9 ⟨rfl, hw9⟩
                  rw [hw9]
                  clear hw9 w9
                  cases s2 with
                  | false =>
                    have HQ := Lib.hid (spec_IsSmall_c Hd.out)
                    rw [← H_s2.out] at HQ
                    go_wp2_with fail
                    (with_reducible refine HQ.out.mono ?_)
                    clear HQ
                    rintro e w9 ⟨rfl, hw9⟩
                    rw [hw9]
                    clear hw9 w9
                    go_wp2_with fail
                    go_meet
                    case rel => exact ⟨rfl, HB, Ha, Hb, Hx, cell_x0, cell_x1, mb_x, He, Hf⟩
                  | true =>
                    have HQ := Lib.hid (spec_IsSmall_c Hd.out)
                    rw [← H_s2.out] at HQ
                    go_wp2_with fail
                    (with_reducible refine HQ.out.mono ?_)
                    clear HQ
                    rintro e w9 ⟨rfl, hw9⟩
                    rw [hw9]
                    clear hw9 w9
                    have HJ2 := Lib.hid (steps_law3 HJ.out H_s1.out.symm H_s2.out.symm)
                    have HQ := Lib.hid (spec_SameAway_c Hc.out Hd.out)
                    rw [HJ2.out] at HQ
                    go_wp2_with fail
                    (with_reducible refine HQ.out.mono ?_)
                    clear HQ
                    rintro e w18 ⟨rfl, hb⟩
                    replace Ha := Lib.hid (Tab.frame _ _ _ _ Ha.out hb)
                    replace Hb := Lib.hid (Tab.frame _ _ _ _ Hb.out hb)
                    replace Hx := Lib.hid (StepR.frame _ _ _ _ Hx.out hb)
                    replace Hc := Lib.hid (Tab.frame _ _ _ _ Hc.out hb)
                    replace Hd := Lib.hid (Tab.frame _ _ _ _ Hd.out hb)
                    replace Hy := Lib.hid (StepR.frame _ _ _ _ Hy.out hb)
                    replace Hm := Lib.hid (Tab.frame _ _ _ _ Hm.out hb)
                    replace Hnr := Lib.hid (Tabs.frame _ _ _ _ Hnr.out hb)
                    replace Hfr := Lib.hid (Tabs.frame _ _ _ _ Hfr.out hb)
                    replace He := Lib.hid (Tab.frame _ _ _ _ He.out hb)
                    replace Hf := Lib.hid (Tab.frame _ _ _ _ Hf.out hb)
                    replace cell_x0 := (hb.cell (p := ⟨w1.heap.size, 0, none⟩) mb_x).trans cell_x0
                    replace cell_x1 := (hb.cell (p := ⟨w1.heap.size, 1, none⟩) mb_x).trans cell_x1
                    replace mb_x := Nat.lt_of_lt_of_le mb_x hb.size
                    replace cell_y0 := (hb.cell (p := ⟨w4.heap.size, 0, none⟩) mb_y).trans cell_y0
                    replace cell_y1 := (hb.cell (p := ⟨w4.heap.size, 1, none⟩) mb_y).trans cell_y1
                    replace mb_y := Nat.lt_of_lt_of_le mb_y hb.size
                    replace HB := Lib.hid (HB.out.trans (hb.mono HB.out.size))
                    clear hb
                    go_wp2_with fail
                    go_meet
                    case rel => exact ⟨rfl, HB, Ha, Hb, Hx, cell_x0, cell_x1, mb_x, He, Hf⟩
          case rest =>
            as_aux_lemma =>
              clear Ha
              clear Hb
              clear Hx
              clear Hc
              clear Hd
              clear Hy
              clear Hm
              clear Hnr
              clear Hfr
              clear He
              clear Hf
              clear cell_x0 cell_x1 mb_x
              clear cell_y0 cell_y1 mb_y
              clear HB
              obtain ⟨rfl, HB, Ha, Hb, Hx, cell_x0, cell_x1, mb_x, He, Hf⟩ := hcut
              obtain ⟨w19, rfl⟩ : ∃ x, x = wc := ⟨_, rfl⟩
              go_upto_region 22 with fail
              go_cut [193] (fun sB wx => sB = .bool false ∧ Hid (Below w.heap.size w wx) ∧ Hid (Tab wx (.slice sa_a na sc_a) (a)) ∧ Hid (Tab wx (.slice sa_b nb sc_b) (b)) ∧ Hid (StepR wx (.agg #[.slice x1_x x2_x x3_x, .slice x4_x x5_x x6_x]) (x)) ∧ wx.cell? ⟨w1.heap.size, 0, none⟩ = some (.slice x1_x x2_x x3_x) ∧ wx.cell? ⟨w1.heap.size, 1, none⟩ = some (.slice x4_x x5_x x6_x) ∧ w1.heap.size < wx.heap.size)
              case first =>
                as_aux_lemma =>
                  have HQ := Lib.hid (impl_AreLinked_c He.out Hf.out)
                  rw [← H_li.out] at HQ
                  go_wp2_with fail
                  (with_reducible refine HQ.out.mono ?_)
                  clear HQ
                  rintro e w20 ⟨rfl, hb⟩
                  replace Ha := Lib.hid (Tab.frame _ _ _ _ Ha.out hb)
                  replace Hb := Lib.hid (Tab.frame _ _ _ _ Hb.out hb)
                  replace Hx := Lib.hid (StepR.frame _ _ _ _ Hx.out hb)
                  replace He := Lib.hid (Tab.frame _ _ _ _ He.out hb)
                  replace Hf := Lib.hid (Tab.frame _ _ _ _ Hf.out hb)
                  replace cell_x0 := (hb.cell (p := ⟨w1.heap.size, 0, none⟩) mb_x).trans cell_x0
                  replace cell_x1 := (hb.cell (p := ⟨w1.heap.size, 1, none⟩) mb_x).trans cell_x1
                  replace mb_x := Nat.lt_of_lt_of_le mb_x hb.size
                  replace HB := Lib.hid (HB.out.trans (hb.mono HB.out.size))
                  clear hb
                  have HQ := Lib.hid (impl_AreLinked_c Hf.out He.out)
                  rw [linkM_symm] at HQ
                  rw [← H_li.out] at HQ
                  go_wp2_with fail
                  (with_reducible refine HQ.out.mono ?_)
                  clear HQ
                  rintro e w21 ⟨rfl, hb⟩
                  replace Ha := Lib.hid (Tab.frame _ _ _ _ Ha.out hb)
                  replace Hb := Lib.hid (Tab.frame _ _ _ _ Hb.out hb)
                  replace Hx := Lib.hid (StepR.frame _ _ _ _ Hx.out hb)
                  replace He := Lib.hid (Tab.frame _ _ _ _ He.out hb)
                  replace Hf := Lib.hid (Tab.frame _ _ _ _ Hf.out hb)
                  replace cell_x0 := (hb.cell (p := ⟨w1.heap.size, 0, none⟩) mb_x).trans cell_x0
                  replace cell_x1 := (hb.cell (p := ⟨w1.heap.size, 1, none⟩) mb_x).trans cell_x1
                  replace mb_x := Nat.lt_of_lt_of_le mb_x hb.size
                  replace HB := Lib.hid (HB.out.trans (hb.mono HB.out.size))
                  clear hb
                  cases li with
                  | false =>
                    have HQ := Lib.hid (impl_AreLinked_c He.out Hf.out)
                    rw [← H_li.out] at HQ
                    go_wp2_with fail
                    (with_reducible refine HQ.out.mono ?_)
                    clear HQ
                    rintro e w22 ⟨rfl, hb⟩
                    replace Ha := Lib.hid (Tab.frame _ _ _ _ Ha.out hb)
                    replace Hb := Lib.hid (Tab.frame _ _ _ _ Hb.out hb)
                    replace Hx := Lib.hid (StepR.frame _ _ _ _ Hx.out hb)
                    replace He := Lib.hid (Tab.frame _ _ _ _ He.out hb)
                    replace Hf := Lib.hid (Tab.frame _ _ _ _ Hf.out hb)
                    replace cell_x0 := (hb.cell (p := ⟨w1.heap.size, 0, none⟩) mb_x).trans cell_x0
                    replace cell_x1 := (hb.cell (p := ⟨w1.heap.size, 1, none⟩) mb_x).trans cell_x1
                    replace mb_x := Nat.lt_of_lt_of_le mb_x hb.size
                    replace HB := Lib.hid (HB.out.trans (hb.mono HB.out.size))
                    clear hb
                    go_wp2_with fail
                    go_meet
                    case rel => exact ⟨rfl, HB, Ha, Hb, Hx, cell_x0, cell_x1, mb_x⟩
                  | true =>
                    have HQ := Lib.hid (impl_AreLinked_c He.out Hf.out)
                    rw [← H_li.out] at HQ
                    go_wp2_with fail
                    (with_reducible refine HQ.out.mono ?_)
                    clear HQ
                    rintro e w23 ⟨rfl, hb⟩
                    replace Ha := Lib.hid (Tab.frame _ _ _ _ Ha.out hb)
                    replace Hb := Lib.hid (Tab.frame _ _ _ _ Hb.out hb)
                    replace Hx := Lib.hid (StepR.frame _ _ _ _ Hx.out hb)
                    replace He := Lib.hid (Tab.frame _ _ _ _ He.out hb)
                    replace Hf := Lib.hid (Tab.frame _ _ _ _ Hf.out hb)
                    replace cell_x0 := (hb.cell (p := ⟨w1.heap.size, 0, none⟩) mb_x).trans cell_x0
                    replace cell_x1 := (hb.cell (p := ⟨w1.heap.size, 1, none⟩) mb_x).trans cell_x1
                    replace mb_x := Nat.lt_of_lt_of_le mb_x hb.size
                    replace HB := Lib.hid (HB.out.trans (hb.mono HB.out.size))
                    clear hb
                    obtain ⟨s1, h_s1⟩ : ∃ bb_, bb_ = smallM e' := ⟨_, rfl⟩
                    have H_s1 := Lib.hid h_s1
                    clear h_s1
                    obtain ⟨s2, h_s2⟩ : ∃ bb_, bb_ = smallM f' := ⟨_, rfl⟩
                    have H_s2 := Lib.hid h_s2
                    clear h_s2
                    cases s1 with
                    | false =>
                      have HQ := Lib.hid (spec_IsSmall_c He.out)
                      rw [← H_s1.out] at HQ
                      go_wp2_with fail
                      (with_reducible refine HQ.out.mono ?_)
                      clear HQ
                      rintro e w9 ⟨rfl, hw9⟩
                      rw [hw9]
                      clear hw9 w9
                      go_wp2_with fail
                      go_meet
                      case rel => exact ⟨rfl, HB, Ha, Hb, Hx, cell_x0, cell_x1, mb_x⟩
                    | true =>
                      have HQ := Lib.hid (spec_IsSmall_c He.out)
                      rw [← H_s1.out] at HQ
                      go_wp2_with fail
                      (with_reducible refine HQ.out.mono ?_)
                      clear HQ
                      rintro e w9 ⟨rfl, hw9⟩
                      rw [hw9]
                      clear hw9 w9
                      cases s2 with
                      | false =>
                        have HQ := Lib.hid (spec_IsSmall_c Hf.out)
                        rw [← H_s2.out] at HQ
                        go_wp2_with fail
                        (with_reducible refine HQ.out.mono ?_)
                        clear HQ
                        rintro e w9 ⟨rfl, hw9⟩
                        rw [hw9]
                        clear hw9 w9
                        go_wp2_with fail
                        go_meet
                        case rel => exact ⟨rfl, HB, Ha, Hb, Hx, cell_x0, cell_x1, mb_x⟩
                      | true =>
                        have HQ := Lib.hid (spec_IsSmall_c Hf.out)
                        rw [← H_s2.out] at HQ
                        go_wp2_with fail
                        (with_reducible refine HQ.out.mono ?_)
                        clear HQ
                        rintro e w9 ⟨rfl, hw9⟩
                        rw [hw9]
                        clear hw9 w9
                        have HJ2 := Lib.hid (steps_law2 H_li.out.symm H_s1.out.symm H_s2.out.symm)
                        have HQ := Lib.hid (spec_SameAway_c He.out Hf.out)
                        rw [HJ2.out] at HQ
                        go_wp2_with fail
                        (with_reducible refine HQ.out.mono ?_)
                        clear HQ
                        rintro e w24 ⟨rfl, hb⟩
                        replace Ha := Lib.hid (Tab.frame _ _ _ _ Ha.out hb)
                        replace Hb := Lib.hid (Tab.frame _ _ _ _ Hb.out hb)
                        replace Hx := Lib.hid (StepR.frame _ _ _ _ Hx.out hb)
                        replace He := Lib.hid (Tab.frame _ _ _ _ He.out hb)
                        replace Hf := Lib.hid (Tab.frame _ _ _ _ Hf.out hb)
                        replace cell_x0 := (hb.cell (p := ⟨w1.heap.size, 0, none⟩) mb_x).trans cell_x0
                        replace cell_x1 := (hb.cell (p := ⟨w1.heap.size, 1, none⟩) mb_x).trans cell_x1
                        replace mb_x := Nat.lt_of_lt_of_le mb_x hb.size
                        replace HB := Lib.hid (HB.out.trans (hb.mono HB.out.size))
                        clear hb
                        go_wp2_with fail
                        go_meet
                        case rel => exact ⟨rfl, HB, Ha, Hb, Hx, cell_x0, cell_x1, mb_x⟩
              case rest =>
                as_aux_lemma =>
                  clear Ha
                  clear Hb
                  clear Hx
                  clear He
                  clear Hf
                  clear cell_x0 cell_x1 mb_x
                  clear HB
                  obtain ⟨rfl, HB, Ha, Hb, Hx, cell_x0, cell_x1, mb_x⟩ := hcut
                  obtain ⟨w25, rfl⟩ : ∃ x, x = wc := ⟨_, rfl⟩
                  have te_L : (L == L) = true := by cases L <;> rfl
                  have C1 := Lib.hid (fun (w' : World) (hb : Below w25.heap.size w25 w') => impl_IsStep_c (Tab.frame _ _ _ _ Ha.out hb) (Tab.frame _ _ _ _ Hb.out hb) (StepR.frame _ _ _ _ Hx.out hb))
                  rw [← H_L.out] at C1
                  have C2 := Lib.hid (fun (w' : World) (hb : Below w25.heap.size w25 w') => impl_TurnStep_c (StepR.frame _ _ _ _ Hx.out hb) HSx.out)
                  have HTu := Lib.hid (show stepM b a (x.2, x.1) = L from by rw [← stepM_turn, H_L.out])
                  have C3 := Lib.hid (fun (w' : World) (hb : Below w25.heap.size w25 w') (v : Value) (h : StepR w' v (x.2, x.1)) => impl_IsStep_c (Tab.frame _ _ _ _ Hb.out hb) (Tab.frame _ _ _ _ Ha.out hb) h)
                  rw [HTu.out] at C3
                  go_upto_region 24 with fail
                  have HSS := Lib.hid (fun (w' : World) (hb : Below w25.heap.size w25 w') => (show w'.cell? ⟨w1.heap.size, 0, none⟩ = some (.slice x1_x x2_x x3_x) ∧ w'.cell? ⟨w1.heap.size, 1, none⟩ = some (.slice x4_x x5_x x6_x) from ⟨(hb.cell (p := ⟨w1.heap.size, 0, none⟩) mb_x).trans cell_x0, (hb.cell (p := ⟨w1.heap.size, 1, none⟩) mb_x).trans cell_x1⟩))
                  have hS0 := HSS.out _ (Below.refl _ _)
                  have B1 := (Below.refl w25.heap.size w25).drew
                  have hSd := HSS.out _ B1
                  go_region_held3 (fun w' => w'.cell? ⟨w1.heap.size, 0, none⟩ = some (.slice x1_x x2_x x3_x) ∧ w'.cell? ⟨w1.heap.size, 1, none⟩ = some (.slice x4_x x5_x x6_x))
                    (first | with_reducible exact hS4 | with_reducible exact hS3 | with_reducible exact hS2 | with_reducible exact hSd | with_reducible exact hS0 | go_keep)
                    ((first
                      | (go_at_call 15; (first | (have HQ := C1.out _ B1; (with_reducible refine HQ.mono ?_); clear HQ; rintro e u1 ⟨rfl, q1⟩; have B2 := B1.trans (q1.mono B1.size); have hS2 := HSS.out _ B2) | (have HQ := C3.out _ B3 _ (New.stp n2); (with_reducible refine HQ.mono ?_); clear HQ; rintro e u3 ⟨rfl, q3⟩; have B4 := B3.trans (q3.mono B3.size); have hS4 := HSS.out _ B4)))
                      | (go_at_call 20; (have HQ := C2.out _ B2; (with_reducible refine HQ.mono ?_); clear HQ; rintro e u2 ⟨r2, rfl, n2, q2⟩; have B3 := B2.trans (q2.mono B2.size); have hS3 := HSS.out _ B3))
                      | fail))
                  have HB2 := Lib.hid (HB.out.trans (B4.mono HB.out.size))
                  go_wp2
                  go_ret
                  exact ⟨rfl, HB2.out⟩
end Go.Proofs.YtlkgkfgpnnahdaaGreat
end

section
/-
  The law FnSteps holds for every list of bytes. No condition.
-/
namespace Go.Proofs.YtlkgkfgpnnahdaaGreat.fnSteps
open Go.ChangeShapes Go.WideShapes Go.ChangeAt Go.RowKit Go.Sd Go.Joins
open Go.ChangeMaps (open_string shut_string)
set_option linter.unusedVariables false
theorem own : ownKnob Tryz.prog.godebug = none := by kernel_rfl
theorem laidOut : laidOutB Tryz.prog = true := by kernel_rfl
set_option maxRecDepth 100000 in
theorem lifted (os : Os) (started : os.Started) (H : Type) (enc : TypeId × Value → H) :
    ReturnsInHanded {} Tryz.checked os 3 .any (Rows.fnStepsSpec.pre6 enc Tryz.prog Tryz.f3 Rows.fnStepsRow.domain false) (Rows.fnStepsSpec.post enc Tryz.prog Tryz.f3 false true false false) := by
  refine returnsInHanded_of_change (C := Tryz.checked) own started (by kernel_rfl) Tryz.func3
    (ChangeSpec.witness6 (enc := enc) (C := Tryz.checked) false ⟨#[], #[.slice none 0 0], []⟩ 8 (by kernel_rfl) (by kernel_rfl) (by kernel_rfl) (by kernel_rfl)) ?_
  intro W base args ds gs before hval0 hW hcnd _
  have hval : ∀ (j : Nat) t v, Tryz.f3.params[j]? = some t → args[j]? = some v → Value.okWide Tryz.prog W .any base t v := hval0
  have hW' := hW
  obtain ⟨p, q, hA0, hV, rfl, hfz, hnd⟩ := hW
  have hA : DataW.TrodAll enc Tryz.prog W 0 (fun _ => true) true Tryz.f3.params.toList args.toList ds p := hA0
  rw [Tryz.params3] at hA hval
  obtain ⟨v0, vs0, d0, ds0, p0, q0, hargs, rfl, rfl, h0, r0⟩ := trodAll_cons hA
  obtain ⟨rfl, rfl, rfl⟩ := trodAll_nil r0
  obtain rfl : args = #[v0] := by cases args; simp_all
  obtain ⟨rfl, rfl⟩ := trodVars_none hV
  have k0 := h0
  have lt0 : ∀ x ∈ p0, x.block < W.heap.size := by obtain ⟨m, hm⟩ := k0; exact DataW.trod_lt m _ _ _ hm
  obtain ⟨a0, t0, b0⟩ := open_Bytes Tryz.underlying22 Tryz.underlying5 (by kernel_rfl) (hval 0 22 v0 rfl rfl) h0
  clear hA0 hval0
  refine (law_FnSteps t0 b0).mono fun e W' ⟨he, bel⟩ => ?_
  subst he
  exact ⟨_, rfl, _, _, _, [], _, [], hW', trodAll_mk1 (shut_bool Tryz.underlying4 _), (trodAll_cons_mk (Below.trod laidOut (by kernel_rfl) (of_decide_eq_true (by kernel_rfl)) k0 bel lt0) trodAll_mk0), rfl, bel.frame _, fun h => by cases h⟩

theorem over : Rows.fnStepsRow.holds Tryz.pinned (OpenSpec.ofChange Rows.fnStepsSpec) :=
  OpenClaim.holds_of_wide 3 Tryz.f3 rfl rfl rfl rfl rfl rfl rfl ⟨rfl, rfl, rfl, rfl, rfl⟩ rfl rfl rfl rfl rfl (by kernel_rfl) Tryz.func3 (by kernel_rfl)
    (of_decide_eq_true (by kernel_rfl)) (by unfold Func.isWrapper; first | (rw [if_pos (by decide +kernel)]; kernel_rfl) | (rw [if_neg (by decide +kernel)]; exact ⟨rfl, rfl⟩))
    (fun os started H enc _ => lifted os started H enc)

theorem proved : Rows.FnStepsSaid := over
#print axioms proved
end Go.Proofs.YtlkgkfgpnnahdaaGreat.fnSteps
end
