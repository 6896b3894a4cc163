/-
  Texts of this claim joined: laws for its walks, contracts of the functions that the law reaches, and the theorem that the program's answer is the reference's for all arguments.
-/
import Derived.Test.YtlkgkfgpnnahdaaFnLagsM1
import Derived.Test.YtlkgkfgpnnahdaaFnLagsM14
import Derived.Test.YtlkgkfgpnnahdaaFnLagsM17
import Derived.Test.YtlkgkfgpnnahdaaFnLagsM19
import Derived.Test.YtlkgkfgpnnahdaaFnLagsM21
import Derived.Test.YtlkgkfgpnnahdaaFnLagsM13
import Derived.Test.YtlkgkfgpnnahdaaFnLagsM22
import Derived.Test.YtlkgkfgpnnahdaaFnLagsM6
import Derived.Test.YtlkgkfgpnnahdaaFnLagsM5
import Derived.Test.YtlkgkfgpnnahdaaFnLagsM12
import Derived.Deep.RegionHeld3
import Derived.Deep.DeepCutAuto
import Derived.Test.YtlkgkfgpnnahdaaRows
import Derived.Test.YtlkgkfgpnnahdaaFnLagsM2
import Derived.WalkKit
import Derived.ProofKit
import Derived.OpenShut
import Derived.ShutString
import Derived.ChangeOld
import Derived.Below
import Derived.Lib.SmallJoins
section
/-
  The law FnLags, walked over the contracts of both sides.
-/
namespace Go.Proofs.Ytlkgkfgpnnahdaa
open Go.RowKit Go.Deep Go.Sd
set_option linter.unusedSimpArgs false
set_option linter.unusedVariables false in
set_option maxHeartbeats 8000000 in
set_option maxRecDepth 100000 in
theorem law_FnLags {w : World} {v0 : Value} {a0 : List Int} (t0 : BytR w v0 a0) (b0 : True) :
    Calls Try.prog 4 #[v0] w fun e w' => e = .returned (.bool true) ∧ Below w.heap.size w w' := by
  have hlen := t0.len
  have HD := Lib.hid t0
  obtain ⟨va, vc, rfl, -⟩ := t0.cellsB
  obtain ⟨n0, hn0⟩ : ∃ n, n = a0.length := ⟨_, rfl⟩
  rw [← hn0] at HD hlen ⊢
  have HBig := Lib.hid (big_c (w := w) (a := va) (c := vc) hlen)
  clear t0 b0 hn0 hlen
  by_cases hbig : 1048576 < n0
  · rw [decide_eq_true hbig] at HBig
    clear HD
    go_enter Try.func4, Try.ntmps4
    go_wp2_with fail
    (with_reducible refine HBig.out.mono ?_)
    rintro e w9 ⟨rfl, hw9⟩
    rw [← hw9]
    clear hw9 w9
    go_wp2
    go_ret
    exact ⟨rfl, Below.refl _ _⟩
  rw [decide_eq_false hbig] at HBig
  clear hbig
  have HB := Lib.hid (Below.refl w.heap.size w)
  go_enter Try.func4, Try.ntmps4
  go_wp2_with fail
  (with_reducible refine HBig.out.mono ?_)
  rintro e w9 ⟨rfl, hw9⟩
  rw [← hw9]
  clear hw9 w9 HBig
  have HQ := Lib.hid (DrawIsLag_c HD.out)
  go_wp2_with fail
  (with_reducible refine HQ.out.mono ?_)
  clear HQ
  rintro e w1 ⟨va', vb', vx', n, rfl, ⟨a, b, x, ta, tb, tx⟩, hb⟩
  replace HD := Lib.hid (BytR.frame _ _ _ _ HD.out hb)
  replace HB := Lib.hid (HB.out.trans (hb.mono HB.out.size))
  have Ha := Lib.hid ta
  have Hb := Lib.hid tb
  have Hx := Lib.hid tx
  obtain ⟨x1_x, x2_x, x3_x, x4_x, x5_x, x6_x, hv⟩ := tx.slices
  subst hv
  obtain ⟨sa_a, sc_a, hv, -⟩ := Ha.out.shape
  subst hv
  obtain ⟨sa_b, sc_b, hv, -⟩ := Hb.out.shape
  subst hv
  clear ta tb tx hb
  generalize hna : (a).length = na at Ha ⊢
  have Hna := Lib.hid hna
  clear hna
  generalize hnb : (b).length = nb at Hb ⊢
  have Hnb := Lib.hid hnb
  clear hnb
  obtain ⟨w2, eb_x, hb, cell_x0, cell_x1, mb_x⟩ := boxA_ex w1 41 (.slice x1_x x2_x x3_x) (.slice x4_x x5_x x6_x)
  replace HD := Lib.hid (BytR.frame _ _ _ _ HD.out hb)
  replace Ha := Lib.hid (Tab.frame _ _ _ _ Ha.out hb)
  replace Hb := Lib.hid (Tab.frame _ _ _ _ Hb.out hb)
  replace Hx := Lib.hid (StepR.frame _ _ _ _ Hx.out hb)
  replace HB := Lib.hid (HB.out.trans (hb.mono HB.out.size))
  clear hb
  obtain ⟨L, h_L⟩ : ∃ bb_, bb_ = lagM a b x n := ⟨_, rfl⟩
  have H_L := Lib.hid h_L
  clear h_L
  have tn_L : (L != L) = false := by cases L <;> rfl
  have HQ := Lib.hid (impl_IsLag_c (n := n) Ha.out Hb.out Hx.out)
  rw [← H_L.out] at HQ
  go_wp2_with fail
  (with_reducible refine HQ.out.mono ?_)
  clear HQ
  rintro e w3 ⟨rfl, hb⟩
  replace HD := Lib.hid (BytR.frame _ _ _ _ HD.out hb)
  replace Ha := Lib.hid (Tab.frame _ _ _ _ Ha.out hb)
  replace Hb := Lib.hid (Tab.frame _ _ _ _ Hb.out hb)
  replace Hx := Lib.hid (StepR.frame _ _ _ _ Hx.out hb)
  replace cell_x0 := (hb.cell (p := ⟨w1.heap.size, 0, none⟩) mb_x).trans cell_x0
  replace cell_x1 := (hb.cell (p := ⟨w1.heap.size, 1, none⟩) mb_x).trans cell_x1
  replace mb_x := Nat.lt_of_lt_of_le mb_x hb.size
  replace HB := Lib.hid (HB.out.trans (hb.mono HB.out.size))
  clear hb
  clear eb_x
  have HQ := Lib.hid (DrawFindLag_c HD.out)
  go_wp2_with fail
  (with_reducible refine HQ.out.mono ?_)
  clear HQ
  rintro e w4 ⟨vc', vd', k, rfl, h64, ⟨c, d, -, fc, fd⟩, hb⟩
  replace HD := Lib.hid (BytR.frame _ _ _ _ HD.out hb)
  replace Ha := Lib.hid (Tab.frame _ _ _ _ Ha.out hb)
  replace Hb := Lib.hid (Tab.frame _ _ _ _ Hb.out hb)
  replace Hx := Lib.hid (StepR.frame _ _ _ _ Hx.out hb)
  replace cell_x0 := (hb.cell (p := ⟨w1.heap.size, 0, none⟩) mb_x).trans cell_x0
  replace cell_x1 := (hb.cell (p := ⟨w1.heap.size, 1, none⟩) mb_x).trans cell_x1
  replace mb_x := Nat.lt_of_lt_of_le mb_x hb.size
  replace HB := Lib.hid (HB.out.trans (hb.mono HB.out.size))
  have Hc := Lib.hid fc.tab
  have Hd := Lib.hid fd.tab
  have H64 := Lib.hid h64
  obtain ⟨sa_c, sc_c, hv, -⟩ := Hc.out.shape
  subst hv
  obtain ⟨sa_d, sc_d, hv, -⟩ := Hd.out.shape
  subst hv
  clear fc fd hb h64
  generalize hnc : (c).length = nc at Hc ⊢
  have Hnc := Lib.hid hnc
  clear hnc
  generalize hnd : (d).length = nd at Hd ⊢
  have Hnd := Lib.hid hnd
  clear hnd
  obtain ⟨ok4, h_ok4⟩ : ∃ bb_, bb_ = (lagF c d k).isSome := ⟨_, rfl⟩
  have H_ok4 := Lib.hid h_ok4
  clear h_ok4
  have tn_ok4 : (ok4 != ok4) = false := by cases ok4 <;> rfl
  have HQ := Lib.hid (impl_FindLag_c (n := k) Hc.out Hd.out H64.out)
  rw [← H_ok4.out] at HQ
  go_wp2_with fail
  (with_reducible refine HQ.out.mono ?_)
  clear HQ
  rintro e w5 ⟨vy, rfl, hn, hb⟩
  replace HD := Lib.hid (BytR.frame _ _ _ _ HD.out hb)
  replace Ha := Lib.hid (Tab.frame _ _ _ _ Ha.out hb)
  replace Hb := Lib.hid (Tab.frame _ _ _ _ Hb.out hb)
  replace Hx := Lib.hid (StepR.frame _ _ _ _ Hx.out hb)
  replace Hc := Lib.hid (Tab.frame _ _ _ _ Hc.out hb)
  replace Hd := Lib.hid (Tab.frame _ _ _ _ Hd.out hb)
  replace cell_x0 := (hb.cell (p := ⟨w1.heap.size, 0, none⟩) mb_x).trans cell_x0
  replace cell_x1 := (hb.cell (p := ⟨w1.heap.size, 1, none⟩) mb_x).trans cell_x1
  replace mb_x := Nat.lt_of_lt_of_le mb_x hb.size
  replace HB := Lib.hid (HB.out.trans (hb.mono HB.out.size))
  have Hy := Lib.hid (New.stp hn)
  obtain ⟨x1_y, x2_y, x3_y, x4_y, x5_y, x6_y, hv⟩ := (New.stp hn).slices
  subst hv
  clear hn hb
  obtain ⟨w6, eb_y, hb, cell_y0, cell_y1, mb_y⟩ := boxA_ex w5 41 (.slice x1_y x2_y x3_y) (.slice x4_y x5_y x6_y)
  replace HD := Lib.hid (BytR.frame _ _ _ _ HD.out hb)
  replace Ha := Lib.hid (Tab.frame _ _ _ _ Ha.out hb)
  replace Hb := Lib.hid (Tab.frame _ _ _ _ Hb.out hb)
  replace Hx := Lib.hid (StepR.frame _ _ _ _ Hx.out hb)
  replace Hc := Lib.hid (Tab.frame _ _ _ _ Hc.out hb)
  replace Hd := Lib.hid (Tab.frame _ _ _ _ Hd.out hb)
  replace Hy := Lib.hid (StepR.frame _ _ _ _ Hy.out hb)
  replace cell_x0 := (hb.cell (p := ⟨w1.heap.size, 0, none⟩) mb_x).trans cell_x0
  replace cell_x1 := (hb.cell (p := ⟨w1.heap.size, 1, none⟩) mb_x).trans cell_x1
  replace mb_x := Nat.lt_of_lt_of_le mb_x hb.size
  replace HB := Lib.hid (HB.out.trans (hb.mono HB.out.size))
  clear hb
  have HQ := Lib.hid (spec_FindLag_c (n := k) Hc.out Hd.out H64.out)
  rw [← H_ok4.out] at HQ
  go_wp2_with fail
  (with_reducible refine HQ.out.mono ?_)
  clear HQ
  rintro e w7 ⟨vq, rfl, hn, hb⟩
  replace HD := Lib.hid (BytR.frame _ _ _ _ HD.out hb)
  replace Ha := Lib.hid (Tab.frame _ _ _ _ Ha.out hb)
  replace Hb := Lib.hid (Tab.frame _ _ _ _ Hb.out hb)
  replace Hx := Lib.hid (StepR.frame _ _ _ _ Hx.out hb)
  replace Hc := Lib.hid (Tab.frame _ _ _ _ Hc.out hb)
  replace Hd := Lib.hid (Tab.frame _ _ _ _ Hd.out hb)
  replace Hy := Lib.hid (StepR.frame _ _ _ _ Hy.out hb)
  replace cell_x0 := (hb.cell (p := ⟨w1.heap.size, 0, none⟩) mb_x).trans cell_x0
  replace cell_x1 := (hb.cell (p := ⟨w1.heap.size, 1, none⟩) mb_x).trans cell_x1
  replace mb_x := Nat.lt_of_lt_of_le mb_x hb.size
  replace cell_y0 := (hb.cell (p := ⟨w5.heap.size, 0, none⟩) mb_y).trans cell_y0
  replace cell_y1 := (hb.cell (p := ⟨w5.heap.size, 1, none⟩) mb_y).trans cell_y1
  replace mb_y := Nat.lt_of_lt_of_le mb_y hb.size
  replace HB := Lib.hid (HB.out.trans (hb.mono HB.out.size))
  clear eb_y
  have Hq := Lib.hid (New.stp hn)
  obtain ⟨x1_q, x2_q, x3_q, x4_q, x5_q, x6_q, hv⟩ := (New.stp hn).slices
  subst hv
  clear hn hb
  obtain ⟨w8, eb_q, hb, cell_q0, cell_q1, mb_q⟩ := boxA_ex w7 41 (.slice x1_q x2_q x3_q) (.slice x4_q x5_q x6_q)
  replace HD := Lib.hid (BytR.frame _ _ _ _ HD.out hb)
  replace Ha := Lib.hid (Tab.frame _ _ _ _ Ha.out hb)
  replace Hb := Lib.hid (Tab.frame _ _ _ _ Hb.out hb)
  replace Hx := Lib.hid (StepR.frame _ _ _ _ Hx.out hb)
  replace Hc := Lib.hid (Tab.frame _ _ _ _ Hc.out hb)
  replace Hd := Lib.hid (Tab.frame _ _ _ _ Hd.out hb)
  replace Hy := Lib.hid (StepR.frame _ _ _ _ Hy.out hb)
  replace Hq := Lib.hid (StepR.frame _ _ _ _ Hq.out hb)
  replace cell_x0 := (hb.cell (p := ⟨w1.heap.size, 0, none⟩) mb_x).trans cell_x0
  replace cell_x1 := (hb.cell (p := ⟨w1.heap.size, 1, none⟩) mb_x).trans cell_x1
  replace mb_x := Nat.lt_of_lt_of_le mb_x hb.size
  replace cell_y0 := (hb.cell (p := ⟨w5.heap.size, 0, none⟩) mb_y).trans cell_y0
  replace cell_y1 := (hb.cell (p := ⟨w5.heap.size, 1, none⟩) mb_y).trans cell_y1
  replace mb_y := Nat.lt_of_lt_of_le mb_y hb.size
  replace HB := Lib.hid (HB.out.trans (hb.mono HB.out.size))
  clear hb
  have HQ := Lib.hid (DrawLagOfChain_c HD.out)
  go_wp2_with fail
  (with_reducible refine HQ.out.mono ?_)
  clear HQ
  rintro e w9 ⟨vm', vz', rfl, ⟨ms, zs, hbd, tms, tzs⟩, hb⟩
  replace HD := Lib.hid (BytR.frame _ _ _ _ HD.out hb)
  replace Ha := Lib.hid (Tab.frame _ _ _ _ Ha.out hb)
  replace Hb := Lib.hid (Tab.frame _ _ _ _ Hb.out hb)
  replace Hx := Lib.hid (StepR.frame _ _ _ _ Hx.out hb)
  replace Hc := Lib.hid (Tab.frame _ _ _ _ Hc.out hb)
  replace Hd := Lib.hid (Tab.frame _ _ _ _ Hd.out hb)
  replace Hy := Lib.hid (StepR.frame _ _ _ _ Hy.out hb)
  replace Hq := Lib.hid (StepR.frame _ _ _ _ Hq.out hb)
  replace cell_x0 := (hb.cell (p := ⟨w1.heap.size, 0, none⟩) mb_x).trans cell_x0
  replace cell_x1 := (hb.cell (p := ⟨w1.heap.size, 1, none⟩) mb_x).trans cell_x1
  replace mb_x := Nat.lt_of_lt_of_le mb_x hb.size
  replace cell_y0 := (hb.cell (p := ⟨w5.heap.size, 0, none⟩) mb_y).trans cell_y0
  replace cell_y1 := (hb.cell (p := ⟨w5.heap.size, 1, none⟩) mb_y).trans cell_y1
  replace mb_y := Nat.lt_of_lt_of_le mb_y hb.size
  replace cell_q0 := (hb.cell (p := ⟨w7.heap.size, 0, none⟩) mb_q).trans cell_q0
  replace cell_q1 := (hb.cell (p := ⟨w7.heap.size, 1, none⟩) mb_q).trans cell_q1
  replace mb_q := Nat.lt_of_lt_of_le mb_q hb.size
  replace HB := Lib.hid (HB.out.trans (hb.mono HB.out.size))
  clear eb_q
  have Hms := Lib.hid tms
  have Hzs := Lib.hid tzs
  have Hbd := Lib.hid hbd
  obtain ⟨sa_ms, sc_ms, hv, -⟩ := Hms.out.shape
  subst hv
  obtain ⟨-, sa_zs, sc_zs, hv, -⟩ := tzs
  subst hv
  clear tms hb hbd
  generalize hnms : (ms).length = nms at Hms ⊢
  have Hnms := Lib.hid hnms
  clear hnms
  generalize hnzs : (zs).length = nzs at Hzs ⊢
  have Hnzs := Lib.hid hnzs
  clear hnzs
  obtain ⟨ok5, h_ok5⟩ : ∃ bb_, bb_ = (lagC ms zs).isSome := ⟨_, rfl⟩
  have H_ok5 := Lib.hid h_ok5
  clear h_ok5
  have tn_ok5 : (ok5 != ok5) = false := by cases ok5 <;> rfl
  have HQ := Lib.hid (impl_LagOfChain_c Hms.out Hzs.out)
  rw [← H_ok5.out] at HQ
  go_wp2_with fail
  (with_reducible refine HQ.out.mono ?_)
  clear HQ
  rintro e w10 ⟨vy, rfl, hn, hb⟩
  replace HD := Lib.hid (BytR.frame _ _ _ _ HD.out hb)
  replace Ha := Lib.hid (Tab.frame _ _ _ _ Ha.out hb)
  replace Hb := Lib.hid (Tab.frame _ _ _ _ Hb.out hb)
  replace Hx := Lib.hid (StepR.frame _ _ _ _ Hx.out hb)
  replace Hc := Lib.hid (Tab.frame _ _ _ _ Hc.out hb)
  replace Hd := Lib.hid (Tab.frame _ _ _ _ Hd.out hb)
  replace Hy := Lib.hid (StepR.frame _ _ _ _ Hy.out hb)
  replace Hq := Lib.hid (StepR.frame _ _ _ _ Hq.out hb)
  replace Hms := Lib.hid (Tabs.frame _ _ _ _ Hms.out hb)
  replace Hzs := Lib.hid (StpsR.frame _ _ _ _ Hzs.out hb)
  replace cell_x0 := (hb.cell (p := ⟨w1.heap.size, 0, none⟩) mb_x).trans cell_x0
  replace cell_x1 := (hb.cell (p := ⟨w1.heap.size, 1, none⟩) mb_x).trans cell_x1
  replace mb_x := Nat.lt_of_lt_of_le mb_x hb.size
  replace cell_y0 := (hb.cell (p := ⟨w5.heap.size, 0, none⟩) mb_y).trans cell_y0
  replace cell_y1 := (hb.cell (p := ⟨w5.heap.size, 1, none⟩) mb_y).trans cell_y1
  replace mb_y := Nat.lt_of_lt_of_le mb_y hb.size
  replace cell_q0 := (hb.cell (p := ⟨w7.heap.size, 0, none⟩) mb_q).trans cell_q0
  replace cell_q1 := (hb.cell (p := ⟨w7.heap.size, 1, none⟩) mb_q).trans cell_q1
  replace mb_q := Nat.lt_of_lt_of_le mb_q hb.size
  replace HB := Lib.hid (HB.out.trans (hb.mono HB.out.size))
  have Hz := Lib.hid (New.stp hn)
  obtain ⟨x1_z, x2_z, x3_z, x4_z, x5_z, x6_z, hv⟩ := (New.stp hn).slices
  subst hv
  clear hn hb
  obtain ⟨w11, eb_z, hb, cell_z0, cell_z1, mb_z⟩ := boxA_ex w10 41 (.slice x1_z x2_z x3_z) (.slice x4_z x5_z x6_z)
  replace HD := Lib.hid (BytR.frame _ _ _ _ HD.out hb)
  replace Ha := Lib.hid (Tab.frame _ _ _ _ Ha.out hb)
  replace Hb := Lib.hid (Tab.frame _ _ _ _ Hb.out hb)
  replace Hx := Lib.hid (StepR.frame _ _ _ _ Hx.out hb)
  replace Hc := Lib.hid (Tab.frame _ _ _ _ Hc.out hb)
  replace Hd := Lib.hid (Tab.frame _ _ _ _ Hd.out hb)
  replace Hy := Lib.hid (StepR.frame _ _ _ _ Hy.out hb)
  replace Hq := Lib.hid (StepR.frame _ _ _ _ Hq.out hb)
  replace Hms := Lib.hid (Tabs.frame _ _ _ _ Hms.out hb)
  replace Hzs := Lib.hid (StpsR.frame _ _ _ _ Hzs.out hb)
  replace Hz := Lib.hid (StepR.frame _ _ _ _ Hz.out hb)
  replace cell_x0 := (hb.cell (p := ⟨w1.heap.size, 0, none⟩) mb_x).trans cell_x0
  replace cell_x1 := (hb.cell (p := ⟨w1.heap.size, 1, none⟩) mb_x).trans cell_x1
  replace mb_x := Nat.lt_of_lt_of_le mb_x hb.size
  replace cell_y0 := (hb.cell (p := ⟨w5.heap.size, 0, none⟩) mb_y).trans cell_y0
  replace cell_y1 := (hb.cell (p := ⟨w5.heap.size, 1, none⟩) mb_y).trans cell_y1
  replace mb_y := Nat.lt_of_lt_of_le mb_y hb.size
  replace cell_q0 := (hb.cell (p := ⟨w7.heap.size, 0, none⟩) mb_q).trans cell_q0
  replace cell_q1 := (hb.cell (p := ⟨w7.heap.size, 1, none⟩) mb_q).trans cell_q1
  replace mb_q := Nat.lt_of_lt_of_le mb_q hb.size
  replace HB := Lib.hid (HB.out.trans (hb.mono HB.out.size))
  clear hb
  have HQ := Lib.hid (spec_LagOfChain_c Hms.out Hzs.out)
  rw [← H_ok5.out] at HQ
  go_wp2_with fail
  (with_reducible refine HQ.out.mono ?_)
  clear HQ
  rintro e w12 ⟨vq, rfl, hn, hb⟩
  replace HD := Lib.hid (BytR.frame _ _ _ _ HD.out hb)
  replace Ha := Lib.hid (Tab.frame _ _ _ _ Ha.out hb)
  replace Hb := Lib.hid (Tab.frame _ _ _ _ Hb.out hb)
  replace Hx := Lib.hid (StepR.frame _ _ _ _ Hx.out hb)
  replace Hc := Lib.hid (Tab.frame _ _ _ _ Hc.out hb)
  replace Hd := Lib.hid (Tab.frame _ _ _ _ Hd.out hb)
  replace Hy := Lib.hid (StepR.frame _ _ _ _ Hy.out hb)
  replace Hq := Lib.hid (StepR.frame _ _ _ _ Hq.out hb)
  replace Hms := Lib.hid (Tabs.frame _ _ _ _ Hms.out hb)
  replace Hzs := Lib.hid (StpsR.frame _ _ _ _ Hzs.out hb)
  replace Hz := Lib.hid (StepR.frame _ _ _ _ Hz.out hb)
  replace cell_x0 := (hb.cell (p := ⟨w1.heap.size, 0, none⟩) mb_x).trans cell_x0
  replace cell_x1 := (hb.cell (p := ⟨w1.heap.size, 1, none⟩) mb_x).trans cell_x1
  replace mb_x := Nat.lt_of_lt_of_le mb_x hb.size
  replace cell_y0 := (hb.cell (p := ⟨w5.heap.size, 0, none⟩) mb_y).trans cell_y0
  replace cell_y1 := (hb.cell (p := ⟨w5.heap.size, 1, none⟩) mb_y).trans cell_y1
  replace mb_y := Nat.lt_of_lt_of_le mb_y hb.size
  replace cell_q0 := (hb.cell (p := ⟨w7.heap.size, 0, none⟩) mb_q).trans cell_q0
  replace cell_q1 := (hb.cell (p := ⟨w7.heap.size, 1, none⟩) mb_q).trans cell_q1
  replace mb_q := Nat.lt_of_lt_of_le mb_q hb.size
  replace cell_z0 := (hb.cell (p := ⟨w10.heap.size, 0, none⟩) mb_z).trans cell_z0
  replace cell_z1 := (hb.cell (p := ⟨w10.heap.size, 1, none⟩) mb_z).trans cell_z1
  replace mb_z := Nat.lt_of_lt_of_le mb_z hb.size
  replace HB := Lib.hid (HB.out.trans (hb.mono HB.out.size))
  clear eb_z
  have Ht := Lib.hid (New.stp hn)
  obtain ⟨x1_t, x2_t, x3_t, x4_t, x5_t, x6_t, hv⟩ := (New.stp hn).slices
  subst hv
  clear hn hb
  obtain ⟨w13, eb_t, hb, cell_t0, cell_t1, mb_t⟩ := boxA_ex w12 41 (.slice x1_t x2_t x3_t) (.slice x4_t x5_t x6_t)
  replace HD := Lib.hid (BytR.frame _ _ _ _ HD.out hb)
  replace Ha := Lib.hid (Tab.frame _ _ _ _ Ha.out hb)
  replace Hb := Lib.hid (Tab.frame _ _ _ _ Hb.out hb)
  replace Hx := Lib.hid (StepR.frame _ _ _ _ Hx.out hb)
  replace Hc := Lib.hid (Tab.frame _ _ _ _ Hc.out hb)
  replace Hd := Lib.hid (Tab.frame _ _ _ _ Hd.out hb)
  replace Hy := Lib.hid (StepR.frame _ _ _ _ Hy.out hb)
  replace Hq := Lib.hid (StepR.frame _ _ _ _ Hq.out hb)
  replace Hms := Lib.hid (Tabs.frame _ _ _ _ Hms.out hb)
  replace Hzs := Lib.hid (StpsR.frame _ _ _ _ Hzs.out hb)
  replace Hz := Lib.hid (StepR.frame _ _ _ _ Hz.out hb)
  replace Ht := Lib.hid (StepR.frame _ _ _ _ Ht.out hb)
  replace cell_x0 := (hb.cell (p := ⟨w1.heap.size, 0, none⟩) mb_x).trans cell_x0
  replace cell_x1 := (hb.cell (p := ⟨w1.heap.size, 1, none⟩) mb_x).trans cell_x1
  replace mb_x := Nat.lt_of_lt_of_le mb_x hb.size
  replace cell_y0 := (hb.cell (p := ⟨w5.heap.size, 0, none⟩) mb_y).trans cell_y0
  replace cell_y1 := (hb.cell (p := ⟨w5.heap.size, 1, none⟩) mb_y).trans cell_y1
  replace mb_y := Nat.lt_of_lt_of_le mb_y hb.size
  replace cell_q0 := (hb.cell (p := ⟨w7.heap.size, 0, none⟩) mb_q).trans cell_q0
  replace cell_q1 := (hb.cell (p := ⟨w7.heap.size, 1, none⟩) mb_q).trans cell_q1
  replace mb_q := Nat.lt_of_lt_of_le mb_q hb.size
  replace cell_z0 := (hb.cell (p := ⟨w10.heap.size, 0, none⟩) mb_z).trans cell_z0
  replace cell_z1 := (hb.cell (p := ⟨w10.heap.size, 1, none⟩) mb_z).trans cell_z1
  replace mb_z := Nat.lt_of_lt_of_le mb_z hb.size
  replace HB := Lib.hid (HB.out.trans (hb.mono HB.out.size))
  clear hb
  have HQ := Lib.hid (DrawSameAwayFromZero_c HD.out)
  go_wp2_with fail
  (with_reducible refine HQ.out.mono ?_)
  clear HQ
  rintro e w14 ⟨ve', vf', rfl, e', f', -, te, tf, hb⟩
  replace HD := Lib.hid (BytR.frame _ _ _ _ HD.out hb)
  replace Ha := Lib.hid (Tab.frame _ _ _ _ Ha.out hb)
  replace Hb := Lib.hid (Tab.frame _ _ _ _ Hb.out hb)
  replace Hx := Lib.hid (StepR.frame _ _ _ _ Hx.out hb)
  replace Hc := Lib.hid (Tab.frame _ _ _ _ Hc.out hb)
  replace Hd := Lib.hid (Tab.frame _ _ _ _ Hd.out hb)
  replace Hy := Lib.hid (StepR.frame _ _ _ _ Hy.out hb)
  replace Hq := Lib.hid (StepR.frame _ _ _ _ Hq.out hb)
  replace Hms := Lib.hid (Tabs.frame _ _ _ _ Hms.out hb)
  replace Hzs := Lib.hid (StpsR.frame _ _ _ _ Hzs.out hb)
  replace Hz := Lib.hid (StepR.frame _ _ _ _ Hz.out hb)
  replace Ht := Lib.hid (StepR.frame _ _ _ _ Ht.out hb)
  replace cell_x0 := (hb.cell (p := ⟨w1.heap.size, 0, none⟩) mb_x).trans cell_x0
  replace cell_x1 := (hb.cell (p := ⟨w1.heap.size, 1, none⟩) mb_x).trans cell_x1
  replace mb_x := Nat.lt_of_lt_of_le mb_x hb.size
  replace cell_y0 := (hb.cell (p := ⟨w5.heap.size, 0, none⟩) mb_y).trans cell_y0
  replace cell_y1 := (hb.cell (p := ⟨w5.heap.size, 1, none⟩) mb_y).trans cell_y1
  replace mb_y := Nat.lt_of_lt_of_le mb_y hb.size
  replace cell_q0 := (hb.cell (p := ⟨w7.heap.size, 0, none⟩) mb_q).trans cell_q0
  replace cell_q1 := (hb.cell (p := ⟨w7.heap.size, 1, none⟩) mb_q).trans cell_q1
  replace mb_q := Nat.lt_of_lt_of_le mb_q hb.size
  replace cell_z0 := (hb.cell (p := ⟨w10.heap.size, 0, none⟩) mb_z).trans cell_z0
  replace cell_z1 := (hb.cell (p := ⟨w10.heap.size, 1, none⟩) mb_z).trans cell_z1
  replace mb_z := Nat.lt_of_lt_of_le mb_z hb.size
  replace cell_t0 := (hb.cell (p := ⟨w12.heap.size, 0, none⟩) mb_t).trans cell_t0
  replace cell_t1 := (hb.cell (p := ⟨w12.heap.size, 1, none⟩) mb_t).trans cell_t1
  replace mb_t := Nat.lt_of_lt_of_le mb_t hb.size
  replace HB := Lib.hid (HB.out.trans (hb.mono HB.out.size))
  clear eb_t
  have He := Lib.hid te
  have Hf := Lib.hid tf
  obtain ⟨sa_e, sc_e, hv, -⟩ := He.out.shape
  subst hv
  obtain ⟨sa_f, sc_f, hv, -⟩ := Hf.out.shape
  subst hv
  clear te tf hb
  generalize hne : (e').length = ne at He ⊢
  have Hne := Lib.hid hne
  clear hne
  generalize hnf : (f').length = nf at Hf ⊢
  have Hnf := Lib.hid hnf
  clear hnf
  clear HD
  have HQ := Lib.hid (spec_IsLag_c (n := n) Ha.out Hb.out Hx.out)
  rw [← H_L.out] at HQ
  go_wp2_with fail
  (with_reducible refine HQ.out.mono ?_)
  clear HQ
  rintro e w15 ⟨rfl, hb⟩
  replace Ha := Lib.hid (Tab.frame _ _ _ _ Ha.out hb)
  replace Hb := Lib.hid (Tab.frame _ _ _ _ Hb.out hb)
  replace Hx := Lib.hid (StepR.frame _ _ _ _ Hx.out hb)
  replace Hc := Lib.hid (Tab.frame _ _ _ _ Hc.out hb)
  replace Hd := Lib.hid (Tab.frame _ _ _ _ Hd.out hb)
  replace Hy := Lib.hid (StepR.frame _ _ _ _ Hy.out hb)
  replace Hq := Lib.hid (StepR.frame _ _ _ _ Hq.out hb)
  replace Hms := Lib.hid (Tabs.frame _ _ _ _ Hms.out hb)
  replace Hzs := Lib.hid (StpsR.frame _ _ _ _ Hzs.out hb)
  replace Hz := Lib.hid (StepR.frame _ _ _ _ Hz.out hb)
  replace Ht := Lib.hid (StepR.frame _ _ _ _ Ht.out hb)
  replace He := Lib.hid (Tab.frame _ _ _ _ He.out hb)
  replace Hf := Lib.hid (Tab.frame _ _ _ _ Hf.out hb)
  replace cell_x0 := (hb.cell (p := ⟨w1.heap.size, 0, none⟩) mb_x).trans cell_x0
  replace cell_x1 := (hb.cell (p := ⟨w1.heap.size, 1, none⟩) mb_x).trans cell_x1
  replace mb_x := Nat.lt_of_lt_of_le mb_x hb.size
  replace cell_y0 := (hb.cell (p := ⟨w5.heap.size, 0, none⟩) mb_y).trans cell_y0
  replace cell_y1 := (hb.cell (p := ⟨w5.heap.size, 1, none⟩) mb_y).trans cell_y1
  replace mb_y := Nat.lt_of_lt_of_le mb_y hb.size
  replace cell_q0 := (hb.cell (p := ⟨w7.heap.size, 0, none⟩) mb_q).trans cell_q0
  replace cell_q1 := (hb.cell (p := ⟨w7.heap.size, 1, none⟩) mb_q).trans cell_q1
  replace mb_q := Nat.lt_of_lt_of_le mb_q hb.size
  replace cell_z0 := (hb.cell (p := ⟨w10.heap.size, 0, none⟩) mb_z).trans cell_z0
  replace cell_z1 := (hb.cell (p := ⟨w10.heap.size, 1, none⟩) mb_z).trans cell_z1
  replace mb_z := Nat.lt_of_lt_of_le mb_z hb.size
  replace cell_t0 := (hb.cell (p := ⟨w12.heap.size, 0, none⟩) mb_t).trans cell_t0
  replace cell_t1 := (hb.cell (p := ⟨w12.heap.size, 1, none⟩) mb_t).trans cell_t1
  replace mb_t := Nat.lt_of_lt_of_le mb_t hb.size
  replace HB := Lib.hid (HB.out.trans (hb.mono HB.out.size))
  clear hb
  have HQ := Lib.hid (sameStep_c Hy.out Hq.out)
  rw [decide_eq_true (rfl : found (lagF c d k) = found (lagF c d k))] at HQ
  go_wp2_with fail
  (with_reducible refine HQ.out.mono ?_)
  clear HQ
  rintro e w16 ⟨rfl, hb⟩
  replace Ha := Lib.hid (Tab.frame _ _ _ _ Ha.out hb)
  replace Hb := Lib.hid (Tab.frame _ _ _ _ Hb.out hb)
  replace Hx := Lib.hid (StepR.frame _ _ _ _ Hx.out hb)
  replace Hc := Lib.hid (Tab.frame _ _ _ _ Hc.out hb)
  replace Hd := Lib.hid (Tab.frame _ _ _ _ Hd.out hb)
  replace Hy := Lib.hid (StepR.frame _ _ _ _ Hy.out hb)
  replace Hq := Lib.hid (StepR.frame _ _ _ _ Hq.out hb)
  replace Hms := Lib.hid (Tabs.frame _ _ _ _ Hms.out hb)
  replace Hzs := Lib.hid (StpsR.frame _ _ _ _ Hzs.out hb)
  replace Hz := Lib.hid (StepR.frame _ _ _ _ Hz.out hb)
  replace Ht := Lib.hid (StepR.frame _ _ _ _ Ht.out hb)
  replace He := Lib.hid (Tab.frame _ _ _ _ He.out hb)
  replace Hf := Lib.hid (Tab.frame _ _ _ _ Hf.out hb)
  replace cell_x0 := (hb.cell (p := ⟨w1.heap.size, 0, none⟩) mb_x).trans cell_x0
  replace cell_x1 := (hb.cell (p := ⟨w1.heap.size, 1, none⟩) mb_x).trans cell_x1
  replace mb_x := Nat.lt_of_lt_of_le mb_x hb.size
  replace cell_y0 := (hb.cell (p := ⟨w5.heap.size, 0, none⟩) mb_y).trans cell_y0
  replace cell_y1 := (hb.cell (p := ⟨w5.heap.size, 1, none⟩) mb_y).trans cell_y1
  replace mb_y := Nat.lt_of_lt_of_le mb_y hb.size
  replace cell_q0 := (hb.cell (p := ⟨w7.heap.size, 0, none⟩) mb_q).trans cell_q0
  replace cell_q1 := (hb.cell (p := ⟨w7.heap.size, 1, none⟩) mb_q).trans cell_q1
  replace mb_q := Nat.lt_of_lt_of_le mb_q hb.size
  replace cell_z0 := (hb.cell (p := ⟨w10.heap.size, 0, none⟩) mb_z).trans cell_z0
  replace cell_z1 := (hb.cell (p := ⟨w10.heap.size, 1, none⟩) mb_z).trans cell_z1
  replace mb_z := Nat.lt_of_lt_of_le mb_z hb.size
  replace cell_t0 := (hb.cell (p := ⟨w12.heap.size, 0, none⟩) mb_t).trans cell_t0
  replace cell_t1 := (hb.cell (p := ⟨w12.heap.size, 1, none⟩) mb_t).trans cell_t1
  replace mb_t := Nat.lt_of_lt_of_le mb_t hb.size
  replace HB := Lib.hid (HB.out.trans (hb.mono HB.out.size))
  clear hb
  clear Hq
  clear cell_q0 cell_q1 mb_q
  have HQ := Lib.hid (sameStep_c Hz.out Ht.out)
  rw [decide_eq_true (rfl : found (lagC ms zs) = found (lagC ms zs))] at HQ
  go_wp2_with fail
  (with_reducible refine HQ.out.mono ?_)
  clear HQ
  rintro e w17 ⟨rfl, hb⟩
  replace Ha := Lib.hid (Tab.frame _ _ _ _ Ha.out hb)
  replace Hb := Lib.hid (Tab.frame _ _ _ _ Hb.out hb)
  replace Hx := Lib.hid (StepR.frame _ _ _ _ Hx.out hb)
  replace Hc := Lib.hid (Tab.frame _ _ _ _ Hc.out hb)
  replace Hd := Lib.hid (Tab.frame _ _ _ _ Hd.out hb)
  replace Hy := Lib.hid (StepR.frame _ _ _ _ Hy.out hb)
  replace Hms := Lib.hid (Tabs.frame _ _ _ _ Hms.out hb)
  replace Hzs := Lib.hid (StpsR.frame _ _ _ _ Hzs.out hb)
  replace Hz := Lib.hid (StepR.frame _ _ _ _ Hz.out hb)
  replace Ht := Lib.hid (StepR.frame _ _ _ _ Ht.out hb)
  replace He := Lib.hid (Tab.frame _ _ _ _ He.out hb)
  replace Hf := Lib.hid (Tab.frame _ _ _ _ Hf.out hb)
  replace cell_x0 := (hb.cell (p := ⟨w1.heap.size, 0, none⟩) mb_x).trans cell_x0
  replace cell_x1 := (hb.cell (p := ⟨w1.heap.size, 1, none⟩) mb_x).trans cell_x1
  replace mb_x := Nat.lt_of_lt_of_le mb_x hb.size
  replace cell_y0 := (hb.cell (p := ⟨w5.heap.size, 0, none⟩) mb_y).trans cell_y0
  replace cell_y1 := (hb.cell (p := ⟨w5.heap.size, 1, none⟩) mb_y).trans cell_y1
  replace mb_y := Nat.lt_of_lt_of_le mb_y hb.size
  replace cell_z0 := (hb.cell (p := ⟨w10.heap.size, 0, none⟩) mb_z).trans cell_z0
  replace cell_z1 := (hb.cell (p := ⟨w10.heap.size, 1, none⟩) mb_z).trans cell_z1
  replace mb_z := Nat.lt_of_lt_of_le mb_z hb.size
  replace cell_t0 := (hb.cell (p := ⟨w12.heap.size, 0, none⟩) mb_t).trans cell_t0
  replace cell_t1 := (hb.cell (p := ⟨w12.heap.size, 1, none⟩) mb_t).trans cell_t1
  replace mb_t := Nat.lt_of_lt_of_le mb_t hb.size
  replace HB := Lib.hid (HB.out.trans (hb.mono HB.out.size))
  clear hb
  clear Ht
  clear cell_t0 cell_t1 mb_t
  obtain ⟨q1, h_q1⟩ : ∃ bb_, bb_ = sameZ e' f' := ⟨_, rfl⟩
  have H_q1 := Lib.hid h_q1
  clear h_q1
  have tn_q1 : (q1 != q1) = false := by cases q1 <;> rfl
  have HQ := Lib.hid (impl_SameAway_c He.out Hf.out)
  rw [← H_q1.out] at HQ
  go_wp2_with fail
  (with_reducible refine HQ.out.mono ?_)
  clear HQ
  rintro e w18 ⟨rfl, hb⟩
  replace Ha := Lib.hid (Tab.frame _ _ _ _ Ha.out hb)
  replace Hb := Lib.hid (Tab.frame _ _ _ _ Hb.out hb)
  replace Hx := Lib.hid (StepR.frame _ _ _ _ Hx.out hb)
  replace Hc := Lib.hid (Tab.frame _ _ _ _ Hc.out hb)
  replace Hd := Lib.hid (Tab.frame _ _ _ _ Hd.out hb)
  replace Hy := Lib.hid (StepR.frame _ _ _ _ Hy.out hb)
  replace Hms := Lib.hid (Tabs.frame _ _ _ _ Hms.out hb)
  replace Hzs := Lib.hid (StpsR.frame _ _ _ _ Hzs.out hb)
  replace Hz := Lib.hid (StepR.frame _ _ _ _ Hz.out hb)
  replace He := Lib.hid (Tab.frame _ _ _ _ He.out hb)
  replace Hf := Lib.hid (Tab.frame _ _ _ _ Hf.out hb)
  replace cell_x0 := (hb.cell (p := ⟨w1.heap.size, 0, none⟩) mb_x).trans cell_x0
  replace cell_x1 := (hb.cell (p := ⟨w1.heap.size, 1, none⟩) mb_x).trans cell_x1
  replace mb_x := Nat.lt_of_lt_of_le mb_x hb.size
  replace cell_y0 := (hb.cell (p := ⟨w5.heap.size, 0, none⟩) mb_y).trans cell_y0
  replace cell_y1 := (hb.cell (p := ⟨w5.heap.size, 1, none⟩) mb_y).trans cell_y1
  replace mb_y := Nat.lt_of_lt_of_le mb_y hb.size
  replace cell_z0 := (hb.cell (p := ⟨w10.heap.size, 0, none⟩) mb_z).trans cell_z0
  replace cell_z1 := (hb.cell (p := ⟨w10.heap.size, 1, none⟩) mb_z).trans cell_z1
  replace mb_z := Nat.lt_of_lt_of_le mb_z hb.size
  replace HB := Lib.hid (HB.out.trans (hb.mono HB.out.size))
  clear hb
  have HQ := Lib.hid (spec_SameAway_c He.out Hf.out)
  rw [← H_q1.out] at HQ
  go_wp2_with fail
  (with_reducible refine HQ.out.mono ?_)
  clear HQ
  rintro e w19 ⟨rfl, hb⟩
  replace Ha := Lib.hid (Tab.frame _ _ _ _ Ha.out hb)
  replace Hb := Lib.hid (Tab.frame _ _ _ _ Hb.out hb)
  replace Hx := Lib.hid (StepR.frame _ _ _ _ Hx.out hb)
  replace Hc := Lib.hid (Tab.frame _ _ _ _ Hc.out hb)
  replace Hd := Lib.hid (Tab.frame _ _ _ _ Hd.out hb)
  replace Hy := Lib.hid (StepR.frame _ _ _ _ Hy.out hb)
  replace Hms := Lib.hid (Tabs.frame _ _ _ _ Hms.out hb)
  replace Hzs := Lib.hid (StpsR.frame _ _ _ _ Hzs.out hb)
  replace Hz := Lib.hid (StepR.frame _ _ _ _ Hz.out hb)
  replace He := Lib.hid (Tab.frame _ _ _ _ He.out hb)
  replace Hf := Lib.hid (Tab.frame _ _ _ _ Hf.out hb)
  replace cell_x0 := (hb.cell (p := ⟨w1.heap.size, 0, none⟩) mb_x).trans cell_x0
  replace cell_x1 := (hb.cell (p := ⟨w1.heap.size, 1, none⟩) mb_x).trans cell_x1
  replace mb_x := Nat.lt_of_lt_of_le mb_x hb.size
  replace cell_y0 := (hb.cell (p := ⟨w5.heap.size, 0, none⟩) mb_y).trans cell_y0
  replace cell_y1 := (hb.cell (p := ⟨w5.heap.size, 1, none⟩) mb_y).trans cell_y1
  replace mb_y := Nat.lt_of_lt_of_le mb_y hb.size
  replace cell_z0 := (hb.cell (p := ⟨w10.heap.size, 0, none⟩) mb_z).trans cell_z0
  replace cell_z1 := (hb.cell (p := ⟨w10.heap.size, 1, none⟩) mb_z).trans cell_z1
  replace mb_z := Nat.lt_of_lt_of_le mb_z hb.size
  replace HB := Lib.hid (HB.out.trans (hb.mono HB.out.size))
  clear hb
  clear He
  clear Hf
  go_upto_region 14 with fail
  go_cut [147] (fun sB wx => sB = .bool false ∧ Hid (Below w.heap.size w wx) ∧ Hid (Tab wx (.slice sa_a na sc_a) (a)) ∧ Hid (Tab wx (.slice sa_b nb sc_b) (b)) ∧ Hid (StepR wx (.agg #[.slice x1_x x2_x x3_x, .slice x4_x x5_x x6_x]) (x)) ∧ wx.cell? ⟨w1.heap.size, 0, none⟩ = some (.slice x1_x x2_x x3_x) ∧ wx.cell? ⟨w1.heap.size, 1, none⟩ = some (.slice x4_x x5_x x6_x) ∧ w1.heap.size < wx.heap.size ∧ Hid (StepR wx (.agg #[.slice x1_z x2_z x3_z, .slice x4_z x5_z x6_z]) (found (lagC ms zs))) ∧ wx.cell? ⟨w10.heap.size, 0, none⟩ = some (.slice x1_z x2_z x3_z) ∧ wx.cell? ⟨w10.heap.size, 1, none⟩ = some (.slice x4_z x5_z x6_z) ∧ w10.heap.size < wx.heap.size ∧ Hid (Tabs wx (.slice sa_ms nms sc_ms) ms))
  case first =>
    as_aux_lemma =>
      cases L with
      | false =>
        cases ok4 with
        | false =>
          go_wp2_with fail
          go_meet
          case rel => exact ⟨rfl, HB, Ha, Hb, Hx, cell_x0, cell_x1, mb_x, Hz, cell_z0, cell_z1, mb_z, Hms⟩
        | true =>
          obtain ⟨yv, hyv⟩ : ∃ yv, lagF c d k = some yv := by
            cases e : lagF c d k with
            | none => have := H_ok4.out; rw [e] at this; cases this
            | some yv => exact ⟨yv, rfl⟩
          have HJ := Lib.hid (show lagM c d (found (lagF c d k)) k = true from by rw [hyv]; exact lagF_holds hyv)
          clear hyv
          have HQ := Lib.hid (impl_IsLag_c (n := k) Hc.out Hd.out Hy.out)
          rw [HJ.out] at HQ
          go_wp2_with fail
          (with_reducible refine HQ.out.mono ?_)
          clear HQ
          rintro e w20 ⟨rfl, hb⟩
          replace Ha := Lib.hid (Tab.frame _ _ _ _ Ha.out hb)
          replace Hb := Lib.hid (Tab.frame _ _ _ _ Hb.out hb)
          replace Hx := Lib.hid (StepR.frame _ _ _ _ Hx.out hb)
          replace Hc := Lib.hid (Tab.frame _ _ _ _ Hc.out hb)
          replace Hd := Lib.hid (Tab.frame _ _ _ _ Hd.out hb)
          replace Hy := Lib.hid (StepR.frame _ _ _ _ Hy.out hb)
          replace Hms := Lib.hid (Tabs.frame _ _ _ _ Hms.out hb)
          replace Hzs := Lib.hid (StpsR.frame _ _ _ _ Hzs.out hb)
          replace Hz := Lib.hid (StepR.frame _ _ _ _ Hz.out hb)
          replace cell_x0 := (hb.cell (p := ⟨w1.heap.size, 0, none⟩) mb_x).trans cell_x0
          replace cell_x1 := (hb.cell (p := ⟨w1.heap.size, 1, none⟩) mb_x).trans cell_x1
          replace mb_x := Nat.lt_of_lt_of_le mb_x hb.size
          replace cell_y0 := (hb.cell (p := ⟨w5.heap.size, 0, none⟩) mb_y).trans cell_y0
          replace cell_y1 := (hb.cell (p := ⟨w5.heap.size, 1, none⟩) mb_y).trans cell_y1
          replace mb_y := Nat.lt_of_lt_of_le mb_y hb.size
          replace cell_z0 := (hb.cell (p := ⟨w10.heap.size, 0, none⟩) mb_z).trans cell_z0
          replace cell_z1 := (hb.cell (p := ⟨w10.heap.size, 1, none⟩) mb_z).trans cell_z1
          replace mb_z := Nat.lt_of_lt_of_le mb_z hb.size
          replace HB := Lib.hid (HB.out.trans (hb.mono HB.out.size))
          clear hb
          go_wp2_with fail
          go_meet
          case rel => exact ⟨rfl, HB, Ha, Hb, Hx, cell_x0, cell_x1, mb_x, Hz, cell_z0, cell_z1, mb_z, Hms⟩
      | true =>
        obtain ⟨s1, h_s1⟩ : ∃ bb_, bb_ = smallM a := ⟨_, rfl⟩
        have H_s1 := Lib.hid h_s1
        clear h_s1
        obtain ⟨s2, h_s2⟩ : ∃ bb_, bb_ = smallM b := ⟨_, rfl⟩
        have H_s2 := Lib.hid h_s2
        clear h_s2
        cases s1 with
        | false =>
          have HQ := Lib.hid (spec_IsSmall_c Ha.out)
          rw [← H_s1.out] at HQ
          go_wp2_with fail
          (with_reducible refine HQ.out.mono ?_)
          clear HQ
          rintro e w9 ⟨rfl, hw9⟩
          rw [hw9]
          clear hw9 w9
          cases ok4 with
          | false =>
            go_wp2_with fail
            go_meet
            case rel => exact ⟨rfl, HB, Ha, Hb, Hx, cell_x0, cell_x1, mb_x, Hz, cell_z0, cell_z1, mb_z, Hms⟩
          | true =>
            obtain ⟨yv, hyv⟩ : ∃ yv, lagF c d k = some yv := by
              cases e : lagF c d k with
              | none => have := H_ok4.out; rw [e] at this; cases this
              | some yv => exact ⟨yv, rfl⟩
            have HJ := Lib.hid (show lagM c d (found (lagF c d k)) k = true from by rw [hyv]; exact lagF_holds hyv)
            clear hyv
            have HQ := Lib.hid (impl_IsLag_c (n := k) Hc.out Hd.out Hy.out)
            rw [HJ.out] at HQ
            go_wp2_with fail
            (with_reducible refine HQ.out.mono ?_)
            clear HQ
            rintro e w21 ⟨rfl, hb⟩
            replace Ha := Lib.hid (Tab.frame _ _ _ _ Ha.out hb)
            replace Hb := Lib.hid (Tab.frame _ _ _ _ Hb.out hb)
            replace Hx := Lib.hid (StepR.frame _ _ _ _ Hx.out hb)
            replace Hc := Lib.hid (Tab.frame _ _ _ _ Hc.out hb)
            replace Hd := Lib.hid (Tab.frame _ _ _ _ Hd.out hb)
            replace Hy := Lib.hid (StepR.frame _ _ _ _ Hy.out hb)
            replace Hms := Lib.hid (Tabs.frame _ _ _ _ Hms.out hb)
            replace Hzs := Lib.hid (StpsR.frame _ _ _ _ Hzs.out hb)
            replace Hz := Lib.hid (StepR.frame _ _ _ _ Hz.out hb)
            replace cell_x0 := (hb.cell (p := ⟨w1.heap.size, 0, none⟩) mb_x).trans cell_x0
            replace cell_x1 := (hb.cell (p := ⟨w1.heap.size, 1, none⟩) mb_x).trans cell_x1
            replace mb_x := Nat.lt_of_lt_of_le mb_x hb.size
            replace cell_y0 := (hb.cell (p := ⟨w5.heap.size, 0, none⟩) mb_y).trans cell_y0
            replace cell_y1 := (hb.cell (p := ⟨w5.heap.size, 1, none⟩) mb_y).trans cell_y1
            replace mb_y := Nat.lt_of_lt_of_le mb_y hb.size
            replace cell_z0 := (hb.cell (p := ⟨w10.heap.size, 0, none⟩) mb_z).trans cell_z0
            replace cell_z1 := (hb.cell (p := ⟨w10.heap.size, 1, none⟩) mb_z).trans cell_z1
            replace mb_z := Nat.lt_of_lt_of_le mb_z hb.size
            replace HB := Lib.hid (HB.out.trans (hb.mono HB.out.size))
            clear hb
            go_wp2_with fail
            go_meet
            case rel => exact ⟨rfl, HB, Ha, Hb, Hx, cell_x0, cell_x1, mb_x, Hz, cell_z0, cell_z1, mb_z, Hms⟩
        | true =>
          have HQ := Lib.hid (spec_IsSmall_c Ha.out)
          rw [← H_s1.out] at HQ
          go_wp2_with fail
          (with_reducible refine HQ.out.mono ?_)
          clear HQ
          rintro e w9 ⟨rfl, hw9⟩
          rw [hw9]
          clear hw9 w9
          cases s2 with
          | false =>
            have HQ := Lib.hid (spec_IsSmall_c Hb.out)
            rw [← H_s2.out] at HQ
            go_wp2_with fail
            (with_reducible refine HQ.out.mono ?_)
            clear HQ
            rintro e w9 ⟨rfl, hw9⟩
            rw [hw9]
            clear hw9 w9
            cases ok4 with
            | false =>
              go_wp2_with fail
              go_meet
              case rel => exact ⟨rfl, HB, Ha, Hb, Hx, cell_x0, cell_x1, mb_x, Hz, cell_z0, cell_z1, mb_z, Hms⟩
            | true =>
              obtain ⟨yv, hyv⟩ : ∃ yv, lagF c d k = some yv := by
                cases e : lagF c d k with
                | none => have := H_ok4.out; rw [e] at this; cases this
                | some yv => exact ⟨yv, rfl⟩
              have HJ := Lib.hid (show lagM c d (found (lagF c d k)) k = true from by rw [hyv]; exact lagF_holds hyv)
              clear hyv
              have HQ := Lib.hid (impl_IsLag_c (n := k) Hc.out Hd.out Hy.out)
              rw [HJ.out] at HQ
              go_wp2_with fail
              (with_reducible refine HQ.out.mono ?_)
              clear HQ
              rintro e w22 ⟨rfl, hb⟩
              replace Ha := Lib.hid (Tab.frame _ _ _ _ Ha.out hb)
              replace Hb := Lib.hid (Tab.frame _ _ _ _ Hb.out hb)
              replace Hx := Lib.hid (StepR.frame _ _ _ _ Hx.out hb)
              replace Hc := Lib.hid (Tab.frame _ _ _ _ Hc.out hb)
              replace Hd := Lib.hid (Tab.frame _ _ _ _ Hd.out hb)
              replace Hy := Lib.hid (StepR.frame _ _ _ _ Hy.out hb)
              replace Hms := Lib.hid (Tabs.frame _ _ _ _ Hms.out hb)
              replace Hzs := Lib.hid (StpsR.frame _ _ _ _ Hzs.out hb)
              replace Hz := Lib.hid (StepR.frame _ _ _ _ Hz.out hb)
              replace cell_x0 := (hb.cell (p := ⟨w1.heap.size, 0, none⟩) mb_x).trans cell_x0
              replace cell_x1 := (hb.cell (p := ⟨w1.heap.size, 1, none⟩) mb_x).trans cell_x1
              replace mb_x := Nat.lt_of_lt_of_le mb_x hb.size
              replace cell_y0 := (hb.cell (p := ⟨w5.heap.size, 0, none⟩) mb_y).trans cell_y0
              replace cell_y1 := (hb.cell (p := ⟨w5.heap.size, 1, none⟩) mb_y).trans cell_y1
              replace mb_y := Nat.lt_of_lt_of_le mb_y hb.size
              replace cell_z0 := (hb.cell (p := ⟨w10.heap.size, 0, none⟩) mb_z).trans cell_z0
              replace cell_z1 := (hb.cell (p := ⟨w10.heap.size, 1, none⟩) mb_z).trans cell_z1
              replace mb_z := Nat.lt_of_lt_of_le mb_z hb.size
              replace HB := Lib.hid (HB.out.trans (hb.mono HB.out.size))
              clear hb
              go_wp2_with fail
              go_meet
              case rel => exact ⟨rfl, HB, Ha, Hb, Hx, cell_x0, cell_x1, mb_x, Hz, cell_z0, cell_z1, mb_z, Hms⟩
          | true =>
            have HQ := Lib.hid (spec_IsSmall_c Hb.out)
            rw [← H_s2.out] at HQ
            go_wp2_with fail
            (with_reducible refine HQ.out.mono ?_)
            clear HQ
            rintro e w9 ⟨rfl, hw9⟩
            rw [hw9]
            clear hw9 w9
            have HJ0 := Lib.hid (show sameZ a b = true from sameZ_of' H_s1.out.symm H_s2.out.symm (lagM_tr H_L.out.symm))
            have HQ := Lib.hid (impl_SameAway_c Ha.out Hb.out)
            rw [HJ0.out] at HQ
            go_wp2_with fail
            (with_reducible refine HQ.out.mono ?_)
            clear HQ
            rintro e w23 ⟨rfl, hb⟩
            replace Ha := Lib.hid (Tab.frame _ _ _ _ Ha.out hb)
            replace Hb := Lib.hid (Tab.frame _ _ _ _ Hb.out hb)
            replace Hx := Lib.hid (StepR.frame _ _ _ _ Hx.out hb)
            replace Hc := Lib.hid (Tab.frame _ _ _ _ Hc.out hb)
            replace Hd := Lib.hid (Tab.frame _ _ _ _ Hd.out hb)
            replace Hy := Lib.hid (StepR.frame _ _ _ _ Hy.out hb)
            replace Hms := Lib.hid (Tabs.frame _ _ _ _ Hms.out hb)
            replace Hzs := Lib.hid (StpsR.frame _ _ _ _ Hzs.out hb)
            replace Hz := Lib.hid (StepR.frame _ _ _ _ Hz.out hb)
            replace cell_x0 := (hb.cell (p := ⟨w1.heap.size, 0, none⟩) mb_x).trans cell_x0
            replace cell_x1 := (hb.cell (p := ⟨w1.heap.size, 1, none⟩) mb_x).trans cell_x1
            replace mb_x := Nat.lt_of_lt_of_le mb_x hb.size
            replace cell_y0 := (hb.cell (p := ⟨w5.heap.size, 0, none⟩) mb_y).trans cell_y0
            replace cell_y1 := (hb.cell (p := ⟨w5.heap.size, 1, none⟩) mb_y).trans cell_y1
            replace mb_y := Nat.lt_of_lt_of_le mb_y hb.size
            replace cell_z0 := (hb.cell (p := ⟨w10.heap.size, 0, none⟩) mb_z).trans cell_z0
            replace cell_z1 := (hb.cell (p := ⟨w10.heap.size, 1, none⟩) mb_z).trans cell_z1
            replace mb_z := Nat.lt_of_lt_of_le mb_z hb.size
            replace HB := Lib.hid (HB.out.trans (hb.mono HB.out.size))
            clear hb
            cases ok4 with
            | false =>
              go_wp2_with fail
              go_meet
              case rel => exact ⟨rfl, HB, Ha, Hb, Hx, cell_x0, cell_x1, mb_x, Hz, cell_z0, cell_z1, mb_z, Hms⟩
            | true =>
              obtain ⟨yv, hyv⟩ : ∃ yv, lagF c d k = some yv := by
                cases e : lagF c d k with
                | none => have := H_ok4.out; rw [e] at this; cases this
                | some yv => exact ⟨yv, rfl⟩
              have HJ := Lib.hid (show lagM c d (found (lagF c d k)) k = true from by rw [hyv]; exact lagF_holds hyv)
              clear hyv
              have HQ := Lib.hid (impl_IsLag_c (n := k) Hc.out Hd.out Hy.out)
              rw [HJ.out] at HQ
              go_wp2_with fail
              (with_reducible refine HQ.out.mono ?_)
              clear HQ
              rintro e w24 ⟨rfl, hb⟩
              replace Ha := Lib.hid (Tab.frame _ _ _ _ Ha.out hb)
              replace Hb := Lib.hid (Tab.frame _ _ _ _ Hb.out hb)
              replace Hx := Lib.hid (StepR.frame _ _ _ _ Hx.out hb)
              replace Hc := Lib.hid (Tab.frame _ _ _ _ Hc.out hb)
              replace Hd := Lib.hid (Tab.frame _ _ _ _ Hd.out hb)
              replace Hy := Lib.hid (StepR.frame _ _ _ _ Hy.out hb)
              replace Hms := Lib.hid (Tabs.frame _ _ _ _ Hms.out hb)
              replace Hzs := Lib.hid (StpsR.frame _ _ _ _ Hzs.out hb)
              replace Hz := Lib.hid (StepR.frame _ _ _ _ Hz.out hb)
              replace cell_x0 := (hb.cell (p := ⟨w1.heap.size, 0, none⟩) mb_x).trans cell_x0
              replace cell_x1 := (hb.cell (p := ⟨w1.heap.size, 1, none⟩) mb_x).trans cell_x1
              replace mb_x := Nat.lt_of_lt_of_le mb_x hb.size
              replace cell_y0 := (hb.cell (p := ⟨w5.heap.size, 0, none⟩) mb_y).trans cell_y0
              replace cell_y1 := (hb.cell (p := ⟨w5.heap.size, 1, none⟩) mb_y).trans cell_y1
              replace mb_y := Nat.lt_of_lt_of_le mb_y hb.size
              replace cell_z0 := (hb.cell (p := ⟨w10.heap.size, 0, none⟩) mb_z).trans cell_z0
              replace cell_z1 := (hb.cell (p := ⟨w10.heap.size, 1, none⟩) mb_z).trans cell_z1
              replace mb_z := Nat.lt_of_lt_of_le mb_z hb.size
              replace HB := Lib.hid (HB.out.trans (hb.mono HB.out.size))
              clear hb
              go_wp2_with fail
              go_meet
              case rel => exact ⟨rfl, HB, Ha, Hb, Hx, cell_x0, cell_x1, mb_x, Hz, cell_z0, cell_z1, mb_z, Hms⟩
  case rest =>
    as_aux_lemma =>
      clear Ha
      clear Hb
      clear Hx
      clear Hc
      clear Hd
      clear Hy
      clear Hms
      clear Hzs
      clear Hz
      clear cell_x0 cell_x1 mb_x
      clear cell_y0 cell_y1 mb_y
      clear cell_z0 cell_z1 mb_z
      clear HB
      obtain ⟨rfl, HB, Ha, Hb, Hx, cell_x0, cell_x1, mb_x, Hz, cell_z0, cell_z1, mb_z, Hms⟩ := hcut
      obtain ⟨w25, rfl⟩ : ∃ x, x = wc := ⟨_, rfl⟩
      go_upto_region 16 with fail
      go_cut [160] (fun sB wx => sB = .bool false ∧ Hid (Below w.heap.size w wx) ∧ Hid (StepR wx (.agg #[.slice x1_z x2_z x3_z, .slice x4_z x5_z x6_z]) (found (lagC ms zs))) ∧ wx.cell? ⟨w10.heap.size, 0, none⟩ = some (.slice x1_z x2_z x3_z) ∧ wx.cell? ⟨w10.heap.size, 1, none⟩ = some (.slice x4_z x5_z x6_z) ∧ w10.heap.size < wx.heap.size ∧ Hid (Tabs wx (.slice sa_ms nms sc_ms) ms))
      case first =>
        as_aux_lemma =>
          cases L with
          | false =>
            go_wp2_with fail
            go_meet
            case rel => exact ⟨rfl, HB, Hz, cell_z0, cell_z1, mb_z, Hms⟩
          | true =>
            have HJ := Lib.hid (lagM_turn H_L.out.symm)
            have Hxt := Lib.hid (show StepR w25 (.agg #[.slice x4_x x5_x x6_x, .slice x1_x x2_x x3_x]) (x.2, x.1) from by
              obtain ⟨q1, q2, hv, h1, h2⟩ := Hx.out
              simp only [Value.agg.injEq] at hv
              have e1 : q1 = .slice x1_x x2_x x3_x := by have := congrArg (fun z => z.getD 0 undef) hv; simpa using this.symm
              have e2 : q2 = .slice x4_x x5_x x6_x := by have := congrArg (fun z => z.getD 1 undef) hv; simpa using this.symm
              rw [e1] at h1
              rw [e2] at h2
              exact ⟨_, _, rfl, h2, h1⟩)
            have HQ := Lib.hid (impl_IsLag_c (n := n) Hb.out Ha.out Hxt.out)
            rw [HJ.out] at HQ
            go_wp2_with fail
            (with_reducible refine HQ.out.mono ?_)
            clear HQ
            rintro e w26 ⟨rfl, hb⟩
            replace Ha := Lib.hid (Tab.frame _ _ _ _ Ha.out hb)
            replace Hb := Lib.hid (Tab.frame _ _ _ _ Hb.out hb)
            replace Hx := Lib.hid (StepR.frame _ _ _ _ Hx.out hb)
            replace Hz := Lib.hid (StepR.frame _ _ _ _ Hz.out hb)
            replace Hms := Lib.hid (Tabs.frame _ _ _ _ Hms.out hb)
            replace cell_x0 := (hb.cell (p := ⟨w1.heap.size, 0, none⟩) mb_x).trans cell_x0
            replace cell_x1 := (hb.cell (p := ⟨w1.heap.size, 1, none⟩) mb_x).trans cell_x1
            replace mb_x := Nat.lt_of_lt_of_le mb_x hb.size
            replace cell_z0 := (hb.cell (p := ⟨w10.heap.size, 0, none⟩) mb_z).trans cell_z0
            replace cell_z1 := (hb.cell (p := ⟨w10.heap.size, 1, none⟩) mb_z).trans cell_z1
            replace mb_z := Nat.lt_of_lt_of_le mb_z hb.size
            replace HB := Lib.hid (HB.out.trans (hb.mono HB.out.size))
            clear hb
            go_wp2_with fail
            go_meet
            case rel => exact ⟨rfl, HB, Hz, cell_z0, cell_z1, mb_z, Hms⟩
      case rest =>
        as_aux_lemma =>
          clear Ha
          clear Hb
          clear Hx
          clear Hz
          clear Hms
          clear cell_x0 cell_x1 mb_x
          clear cell_z0 cell_z1 mb_z
          clear HB
          obtain ⟨rfl, HB, Hz, cell_z0, cell_z1, mb_z, Hms⟩ := hcut
          obtain ⟨w27, rfl⟩ : ∃ x, x = wc := ⟨_, rfl⟩
          cases ok5 with
          | false =>
            go_wp2
            go_ret
            exact ⟨rfl, HB.out⟩
          | true =>
            obtain ⟨zv, hzv⟩ : ∃ zv, lagC ms zs = some zv := by
              cases e : lagC ms zs with
              | none => have := H_ok5.out; rw [e] at this; cases this
              | some zv => exact ⟨zv, rfl⟩
            obtain ⟨l, hl⟩ : ∃ l, nms = l + 1 := by
              have h0 := hzv
              unfold lagC at h0
              split at h0
              · rename_i hc
                have h1 := hc.1
                unfold chainM chLen at h1
                simp only [Bool.and_eq_true, decide_eq_true_eq] at h1
                have := Hnms.out
                exact ⟨nms - 1, by omega⟩
              · cases h0
            subst hl
            have hl9 : l ≤ 9 := by
              have h0 := hzv
              unfold lagC at h0
              split at h0
              · rename_i hc
                have h1 := hc.1
                unfold chainM chLen at h1
                simp only [Bool.and_eq_true, decide_eq_true_eq] at h1
                have := Hnms.out
                omega
              · cases h0
            have hm0 : ms[0]? = some (ms.getD 0 []) := by rw [List.getD_eq_getElem?_getD, List.getElem?_eq_getElem (show 0 < ms.length by rw [Hnms.out]; omega)]; rfl
            have hml : ms[l]? = some (ms.getD l []) := by rw [List.getD_eq_getElem?_getD, List.getElem?_eq_getElem (show l < ms.length by rw [Hnms.out]; omega)]; rfl
            have HCh := Lib.hid (fun pa pb => chain_lag hzv Hbd.out.1 Hbd.out.2.1 Hbd.out.2.2 (n := l) Hnms.out.symm pa pb)
            have Hzf := Lib.hid (show found (lagC ms zs) = zv from by rw [hzv]; rfl)
            clear hzv
            obtain ⟨lb, lo, lc, q0, q0c, hv, hlb, g0, T0⟩ := Tabs.tabAt Hms.out hm0
            rw [Hnms.out] at hv
            simp only [Value.slice.injEq] at hv
            obtain ⟨rfl, -, rfl⟩ := hv
            obtain ⟨lb', lo', lc', q1, q1c, hv, -, g1, T1⟩ := Tabs.tabAt Hms.out hml
            rw [Hnms.out] at hv
            simp only [Value.slice.injEq, Option.some.injEq, Addr.mk.injEq] at hv
            obtain ⟨⟨rfl, rfl, -⟩, -, rfl⟩ := hv
            rw [Nat.add_zero] at g0
            clear hm0 hml
            obtain ⟨m0, hm0⟩ : ∃ m, m = ms.getD 0 [] := ⟨_, rfl⟩
            obtain ⟨m1, hm1⟩ : ∃ m, m = ms.getD l [] := ⟨_, rfl⟩
            rw [← hm0] at g0 T0 HCh
            rw [← hm1] at g1 T1 HCh
            clear hm0 hm1
            have Hm0 := Lib.hid T0
            have Hm1 := Lib.hid T1
            clear T0 T1
            generalize hn0' : m0.length = n0' at g0 Hm0
            generalize hn1' : m1.length = n1' at g1 Hm1
            have Hn0 := Lib.hid hn0'
            have Hn1 := Lib.hid hn1'
            clear hn0' hn1'
            clear Hms
            obtain ⟨fi, h_fi⟩ : ∃ bb_, bb_ = pwOk m0 l := ⟨_, rfl⟩
            have H_fi := Lib.hid h_fi
            clear h_fi
            obtain ⟨go, h_go⟩ : ∃ bb_, bb_ = pwOk m1 l := ⟨_, rfl⟩
            have H_go := Lib.hid h_go
            clear h_go
            have HQ := Lib.hid (spec_PowerMatrix_c (n := (l : Int)) Hm0.out)
            rw [← H_fi.out] at HQ
            go_wp2_with fail
            (with_reducible refine HQ.out.mono ?_)
            clear HQ
            rintro e w28 ⟨vp, rfl, hn, hb⟩
            replace Hz := Lib.hid (StepR.frame _ _ _ _ Hz.out hb)
            replace Hm0 := Lib.hid (Tab.frame _ _ _ _ Hm0.out hb)
            replace Hm1 := Lib.hid (Tab.frame _ _ _ _ Hm1.out hb)
            replace cell_z0 := (hb.cell (p := ⟨w10.heap.size, 0, none⟩) mb_z).trans cell_z0
            replace cell_z1 := (hb.cell (p := ⟨w10.heap.size, 1, none⟩) mb_z).trans cell_z1
            replace mb_z := Nat.lt_of_lt_of_le mb_z hb.size
            replace HB := Lib.hid (HB.out.trans (hb.mono HB.out.size))
            replace g0 := (hb.cell (p := ⟨lb, lo, none⟩) hlb).trans g0
            replace g1 := (hb.cell (p := ⟨lb, lo + l, none⟩) hlb).trans g1
            replace hlb := Nat.lt_of_lt_of_le hlb hb.size
            have Hp := Lib.hid hn.tab
            obtain ⟨sa_p, sc_p, hv, -⟩ := Hp.out.shape
            subst hv
            clear hn hb
            generalize hnp : (pwV m0 l).length = np at Hp ⊢
            have Hnp := Lib.hid hnp
            clear hnp
            have HQ := Lib.hid (spec_PowerMatrix_c (n := (l : Int)) Hm1.out)
            rw [← H_go.out] at HQ
            go_wp2_with fail
            (with_reducible refine HQ.out.mono ?_)
            clear HQ
            rintro e w29 ⟨vq, rfl, hn, hb⟩
            replace Hz := Lib.hid (StepR.frame _ _ _ _ Hz.out hb)
            replace Hm0 := Lib.hid (Tab.frame _ _ _ _ Hm0.out hb)
            replace Hm1 := Lib.hid (Tab.frame _ _ _ _ Hm1.out hb)
            replace Hp := Lib.hid (Tab.frame _ _ _ _ Hp.out hb)
            replace cell_z0 := (hb.cell (p := ⟨w10.heap.size, 0, none⟩) mb_z).trans cell_z0
            replace cell_z1 := (hb.cell (p := ⟨w10.heap.size, 1, none⟩) mb_z).trans cell_z1
            replace mb_z := Nat.lt_of_lt_of_le mb_z hb.size
            replace HB := Lib.hid (HB.out.trans (hb.mono HB.out.size))
            replace g0 := (hb.cell (p := ⟨lb, lo, none⟩) hlb).trans g0
            replace g1 := (hb.cell (p := ⟨lb, lo + l, none⟩) hlb).trans g1
            replace hlb := Nat.lt_of_lt_of_le hlb hb.size
            have Hq := Lib.hid hn.tab
            obtain ⟨sa_q, sc_q, hv, -⟩ := Hq.out.shape
            subst hv
            clear hn hb
            generalize hnq : (pwV m1 l).length = nq at Hq ⊢
            have Hnq := Lib.hid hnq
            clear hnq
            have hl0 : (0 : Int) < (l : Int) + 1 := by omega
            have hll : (l : Int) < (l : Int) + 1 := by omega
            have hl00 : (0 : Int) ≤ (l : Int) := by omega
            cases fi with
            | false =>
              go_wp2
              go_quiet (fail)
              go_wp2
              go_ret
              exact ⟨rfl, HB.out.trans (below_drewN (Below.refl _ _) _)⟩
            | true =>
              cases go with
              | false =>
                go_wp2
                go_quiet (fail)
                go_wp2
                go_ret
                exact ⟨rfl, HB.out.trans (below_drewN (Below.refl _ _) _)⟩
              | true =>
                have e0 : np = n0' := by rw [← Hnp.out, (pwV_ent H_fi.out.symm).2, Hn0.out]
                have e1 : nq = n1' := by rw [← Hnq.out, (pwV_ent H_go.out.symm).2, Hn1.out]
                subst e0 e1
                have HJ := Lib.hid (HCh.out H_fi.out.symm H_go.out.symm)
                rw [← Hzf.out] at HJ
                have tq0 : ((np : Int) == (np : Int)) = true := by simp
                have tq1 : ((nq : Int) == (nq : Int)) = true := by simp
                have HLg := Lib.hid (fun (w' : World) (hb : Below w29.heap.size w29 w') => impl_IsLag_c (n := (l : Int)) (Tab.frame _ _ _ _ Hm0.out hb) (Tab.frame _ _ _ _ Hm1.out hb) (StepR.frame _ _ _ _ Hz.out hb))
                rw [HJ.out] at HLg
                have HSS := Lib.hid (fun (w' : World) (hb : Below w29.heap.size w29 w') => (show w'.cell? ⟨lb, lo, none⟩ = some (.slice q0 np q0c) ∧ w'.cell? ⟨lb, lo + l, none⟩ = some (.slice q1 nq q1c) ∧ w'.cell? ⟨w10.heap.size, 0, none⟩ = some (.slice x1_z x2_z x3_z) ∧ w'.cell? ⟨w10.heap.size, 1, none⟩ = some (.slice x4_z x5_z x6_z) from ⟨(hb.cell (p := ⟨lb, lo, none⟩) hlb).trans g0, (hb.cell (p := ⟨lb, lo + l, none⟩) hlb).trans g1, (hb.cell (p := ⟨w10.heap.size, 0, none⟩) mb_z).trans cell_z0, (hb.cell (p := ⟨w10.heap.size, 1, none⟩) mb_z).trans cell_z1⟩))
                have hS0 := HSS.out _ (Below.refl _ _)
                have B1 := (Below.refl w29.heap.size w29).drew
                have hSd := HSS.out _ B1
                go_wp2
                go_region_held3 (fun w' => w'.cell? ⟨lb, lo, none⟩ = some (.slice q0 np q0c) ∧ w'.cell? ⟨lb, lo + l, none⟩ = some (.slice q1 nq q1c) ∧ w'.cell? ⟨w10.heap.size, 0, none⟩ = some (.slice x1_z x2_z x3_z) ∧ w'.cell? ⟨w10.heap.size, 1, none⟩ = some (.slice x4_z x5_z x6_z))
                  (first | with_reducible exact hS2 | with_reducible exact hSd | with_reducible exact hS0 | go_keep)
                  ((first
                    | (go_at_call 32; (with_reducible refine (HLg.out _ B1).mono ?_); rintro e wz ⟨rfl, hbz⟩; have B2 := B1.trans (hbz.mono B1.size); have hS2 := HSS.out _ B2)
                    | fail))
                have HB2 := Lib.hid (HB.out.trans (B2.mono HB.out.size))
                clear B2 hbz hS2
                go_wp2
                go_ret
                exact ⟨rfl, HB2.out⟩
end Go.Proofs.Ytlkgkfgpnnahdaa
end

section
/-
  FnLags: a chain of steps is a lag of its length, and lags keep polynomials away from zero: the law returns true for every input. No condition.
-/
namespace Go.Proofs.Ytlkgkfgpnnahdaa.fnLags
open Go.ChangeShapes Go.WideShapes Go.ChangeAt Go.RowKit Go.Sd Go.Joins
open Go.ChangeMaps (open_string shut_string)
set_option linter.unusedVariables false
theorem own : ownKnob Try.prog.godebug = none := by kernel_rfl
theorem laidOut : laidOutB Try.prog = true := by kernel_rfl
set_option maxRecDepth 100000 in
theorem lifted (os : Os) (started : os.Started) (H : Type) (enc : TypeId × Value → H) :
    ReturnsInHanded {} Try.checked os 4 .any (Rows.fnLagsSpec.pre6 enc Try.prog Try.f4 Rows.fnLagsRow.domain false) (Rows.fnLagsSpec.post enc Try.prog Try.f4 false true false false) := by
  refine returnsInHanded_of_change (C := Try.checked) own started (by kernel_rfl) Try.func4
    (ChangeSpec.witness6 (enc := enc) (C := Try.checked) false ⟨#[], #[.slice none 0 0], []⟩ 8 (by kernel_rfl) (by kernel_rfl) (by kernel_rfl) (by kernel_rfl)) ?_
  intro W base args ds gs before hval0 hW hcnd _
  have hval : ∀ (j : Nat) t v, Try.f4.params[j]? = some t → args[j]? = some v → Value.okWide Try.prog W .any base t v := hval0
  have hW' := hW
  obtain ⟨p, q, hA0, hV, rfl, hfz, hnd⟩ := hW
  have hA : DataW.TrodAll enc Try.prog W 0 (fun _ => true) true Try.f4.params.toList args.toList ds p := hA0
  rw [Try.params4] at hA hval
  obtain ⟨v0, vs0, d0, ds0, p0, q0, hargs, rfl, rfl, h0, r0⟩ := trodAll_cons hA
  obtain ⟨rfl, rfl, rfl⟩ := trodAll_nil r0
  obtain rfl : args = #[v0] := by cases args; simp_all
  obtain ⟨rfl, rfl⟩ := trodVars_none hV
  have k0 := h0
  have lt0 : ∀ x ∈ p0, x.block < W.heap.size := by obtain ⟨m, hm⟩ := k0; exact DataW.trod_lt m _ _ _ hm
  obtain ⟨a0, t0, b0⟩ := open_Bytes Try.underlying22 Try.underlying5 (by kernel_rfl) (hval 0 22 v0 rfl rfl) h0
  clear hA0 hval0
  refine (law_FnLags t0 b0).mono fun e W' ⟨he, bel⟩ => ?_
  subst he
  exact ⟨_, rfl, _, _, _, [], _, [], hW', trodAll_mk1 (shut_bool Try.underlying4 _), (trodAll_cons_mk (Below.trod laidOut (by kernel_rfl) (of_decide_eq_true (by kernel_rfl)) k0 bel lt0) trodAll_mk0), rfl, bel.frame _, fun h => by cases h⟩

theorem over : Rows.fnLagsRow.holds Try.pinned (OpenSpec.ofChange Rows.fnLagsSpec) :=
  OpenClaim.holds_of_wide 4 Try.f4 rfl rfl rfl rfl rfl rfl rfl ⟨rfl, rfl, rfl, rfl, rfl⟩ rfl rfl rfl rfl rfl (by kernel_rfl) Try.func4 (by kernel_rfl)
    (of_decide_eq_true (by kernel_rfl)) (by unfold Func.isWrapper; first | (rw [if_pos (by decide +kernel)]; kernel_rfl) | (rw [if_neg (by decide +kernel)]; exact ⟨rfl, rfl⟩))
    (fun os started H enc _ => lifted os started H enc)

theorem proved : Rows.FnLagsSaid := over
#print axioms proved
end Go.Proofs.Ytlkgkfgpnnahdaa.fnLags
end
