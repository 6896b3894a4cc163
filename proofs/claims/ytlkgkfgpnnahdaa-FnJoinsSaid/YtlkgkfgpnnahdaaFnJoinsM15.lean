/-
  Texts of this claim joined: laws for its walks, contracts of the functions that the law reaches, and the theorem that the program's answer is the reference's for all arguments.
-/
import Derived.Test.YtlkgkfgpnnahdaaFnJoinsM1
import Derived.Test.YtlkgkfgpnnahdaaFnJoinsM14
import Derived.Test.YtlkgkfgpnnahdaaFnJoinsM13
import Derived.Test.YtlkgkfgpnnahdaaFnJoinsM12
import Derived.Deep.DeepCutAuto
import Derived.Test.YtlkgkfgpnnahdaaRows
import Derived.Test.YtlkgkfgpnnahdaaFnJoinsM2
import Derived.WalkKit
import Derived.ProofKit
import Derived.OpenShut
import Derived.ShutString
import Derived.ChangeOld
import Derived.Below
import Derived.Lib.SmallJoins
section
/-
  The law FnJoins, walked over the contracts of both sides.
-/
namespace Go.Proofs.Ytlkgkfgpnnahdaa
open Go.RowKit Go.Deep Go.Sd
set_option linter.unusedSimpArgs false
theorem oneM_eq {a b : List (List Int)} : oneM a b = alikeM (joinAllV a) (joinAllV b) := rfl
set_option linter.unusedVariables false in
set_option maxHeartbeats 8000000 in
set_option maxRecDepth 100000 in
theorem law_FnJoins {w : World} {v0 : Value} {a0 : List Int} (t0 : BytR w v0 a0) (b0 : True) :
    Calls Try.prog 3 #[v0] w fun e w' => e = .returned (.bool true) ∧ Below w.heap.size w w' := by
  have hlen := t0.len
  have HD := Lib.hid t0
  obtain ⟨va, vc, rfl, -⟩ := t0.cellsB
  obtain ⟨n0, hn0⟩ : ∃ n, n = a0.length := ⟨_, rfl⟩
  rw [← hn0] at HD hlen ⊢
  have HBig := Lib.hid (big_c (w := w) (a := va) (c := vc) hlen)
  clear t0 b0 hn0 hlen
  by_cases hbig : 1048576 < n0
  · rw [decide_eq_true hbig] at HBig
    clear HD
    go_enter Try.func3, Try.ntmps3
    go_wp2_with fail
    (with_reducible refine HBig.out.mono ?_)
    rintro e w9 ⟨rfl, hw9⟩
    rw [← hw9]
    clear hw9 w9
    go_wp2
    go_ret
    exact ⟨rfl, Below.refl _ _⟩
  rw [decide_eq_false hbig] at HBig
  clear hbig
  have HB := Lib.hid (Below.refl w.heap.size w)
  go_enter Try.func3, Try.ntmps3
  go_wp2_with fail
  (with_reducible refine HBig.out.mono ?_)
  rintro e w9 ⟨rfl, hw9⟩
  rw [← hw9]
  clear hw9 w9 HBig
  have HQ := Lib.hid (DrawJoinAll_c HD.out)
  go_wp2_with fail
  (with_reducible refine HQ.out.mono ?_)
  clear HQ
  rintro e w1 ⟨vm, rfl, m, tm, hb⟩
  replace HD := Lib.hid (BytR.frame _ _ _ _ HD.out hb)
  replace HB := Lib.hid (HB.out.trans (hb.mono HB.out.size))
  have Hm := Lib.hid tm
  obtain ⟨sa_m, sc_m, hv, -⟩ := Hm.out.shape
  subst hv
  clear tm hb
  generalize hnm : (m).length = nm at Hm ⊢
  have Hnm := Lib.hid hnm
  clear hnm
  have HQ := Lib.hid (impl_JoinAll_c Hm.out)
  go_wp2_with fail
  (with_reducible refine HQ.out.mono ?_)
  clear HQ
  rintro e w2 ⟨val, rfl, hn, hb⟩
  replace HD := Lib.hid (BytR.frame _ _ _ _ HD.out hb)
  replace Hm := Lib.hid (Tab.frame _ _ _ _ Hm.out hb)
  replace HB := Lib.hid (HB.out.trans (hb.mono HB.out.size))
  have Hal := Lib.hid hn.tab
  obtain ⟨sa_al, sc_al, hv, -⟩ := Hal.out.shape
  subst hv
  clear hn hb
  generalize hnal : (joinAllV m).length = nal at Hal ⊢
  have Hnal := Lib.hid hnal
  clear hnal
  have HQ := Lib.hid (DrawJoinOut_c HD.out)
  go_wp2_with fail
  (with_reducible refine HQ.out.mono ?_)
  clear HQ
  rintro e w3 ⟨vn, i, j, rfl, n, tn, hb⟩
  replace HD := Lib.hid (BytR.frame _ _ _ _ HD.out hb)
  replace Hm := Lib.hid (Tab.frame _ _ _ _ Hm.out hb)
  replace Hal := Lib.hid (Tab.frame _ _ _ _ Hal.out hb)
  replace HB := Lib.hid (HB.out.trans (hb.mono HB.out.size))
  have Hn := Lib.hid tn
  obtain ⟨sa_n, sc_n, hv, -⟩ := Hn.out.shape
  subst hv
  clear tn hb
  generalize hnn : (n).length = nn at Hn ⊢
  have Hnn := Lib.hid hnn
  clear hnn
  obtain ⟨ok1, hk1⟩ : ∃ x, x = joinOk n i j := ⟨_, rfl⟩
  have Hk1 := Lib.hid hk1
  clear hk1
  have HQ := Lib.hid (impl_JoinOut_c (i := i) (j := j) Hn.out)
  rw [← Hk1.out] at HQ
  go_wp2_with fail
  (with_reducible refine HQ.out.mono ?_)
  clear HQ
  rintro e w4 ⟨vx, rfl, hn, hb⟩
  replace HD := Lib.hid (BytR.frame _ _ _ _ HD.out hb)
  replace Hm := Lib.hid (Tab.frame _ _ _ _ Hm.out hb)
  replace Hal := Lib.hid (Tab.frame _ _ _ _ Hal.out hb)
  replace Hn := Lib.hid (Tab.frame _ _ _ _ Hn.out hb)
  replace HB := Lib.hid (HB.out.trans (hb.mono HB.out.size))
  have Hx := Lib.hid hn.tab
  obtain ⟨sa_x, sc_x, hv, -⟩ := Hx.out.shape
  subst hv
  clear hn hb
  generalize hnx : (joinV n i j).length = nx at Hx ⊢
  have Hnx := Lib.hid hnx
  clear hnx
  have HQ := Lib.hid (spec_JoinOut_c (i := i) (j := j) Hn.out)
  rw [← Hk1.out] at HQ
  go_wp2_with fail
  (with_reducible refine HQ.out.mono ?_)
  clear HQ
  rintro e w5 ⟨vx2, rfl, hn, hb⟩
  replace HD := Lib.hid (BytR.frame _ _ _ _ HD.out hb)
  replace Hm := Lib.hid (Tab.frame _ _ _ _ Hm.out hb)
  replace Hal := Lib.hid (Tab.frame _ _ _ _ Hal.out hb)
  replace Hn := Lib.hid (Tab.frame _ _ _ _ Hn.out hb)
  replace Hx := Lib.hid (Tab.frame _ _ _ _ Hx.out hb)
  replace HB := Lib.hid (HB.out.trans (hb.mono HB.out.size))
  have Hx2 := Lib.hid hn.tab
  obtain ⟨sa_x2, sc_x2, hv, -⟩ := Hx2.out.shape
  subst hv
  clear hn hb
  generalize hnx2 : (joinV n i j).length = nx2 at Hx2 ⊢
  have Hnx2 := Lib.hid hnx2
  clear hnx2
  have HQ := Lib.hid (DrawJoinIn_c HD.out)
  go_wp2_with fail
  (with_reducible refine HQ.out.mono ?_)
  clear HQ
  rintro e w6 ⟨vo, k, l, rfl, o, tt, hb⟩
  replace HD := Lib.hid (BytR.frame _ _ _ _ HD.out hb)
  replace Hm := Lib.hid (Tab.frame _ _ _ _ Hm.out hb)
  replace Hal := Lib.hid (Tab.frame _ _ _ _ Hal.out hb)
  replace Hn := Lib.hid (Tab.frame _ _ _ _ Hn.out hb)
  replace Hx := Lib.hid (Tab.frame _ _ _ _ Hx.out hb)
  replace Hx2 := Lib.hid (Tab.frame _ _ _ _ Hx2.out hb)
  replace HB := Lib.hid (HB.out.trans (hb.mono HB.out.size))
  have Ho := Lib.hid tt
  obtain ⟨sa_o, sc_o, hv, -⟩ := Ho.out.shape
  subst hv
  clear tt hb
  generalize hno : (o).length = no at Ho ⊢
  have Hno := Lib.hid hno
  clear hno
  obtain ⟨ok2, hk2⟩ : ∃ x, x = joinInOk o k l := ⟨_, rfl⟩
  have Hk2 := Lib.hid hk2
  clear hk2
  have HQ := Lib.hid (impl_JoinIn_c (i := k) (j := l) Ho.out)
  rw [← Hk2.out] at HQ
  go_wp2_with fail
  (with_reducible refine HQ.out.mono ?_)
  clear HQ
  rintro e w7 ⟨vy, rfl, hn, hb⟩
  replace HD := Lib.hid (BytR.frame _ _ _ _ HD.out hb)
  replace Hm := Lib.hid (Tab.frame _ _ _ _ Hm.out hb)
  replace Hal := Lib.hid (Tab.frame _ _ _ _ Hal.out hb)
  replace Hn := Lib.hid (Tab.frame _ _ _ _ Hn.out hb)
  replace Hx := Lib.hid (Tab.frame _ _ _ _ Hx.out hb)
  replace Hx2 := Lib.hid (Tab.frame _ _ _ _ Hx2.out hb)
  replace Ho := Lib.hid (Tab.frame _ _ _ _ Ho.out hb)
  replace HB := Lib.hid (HB.out.trans (hb.mono HB.out.size))
  have Hy := Lib.hid hn.tab
  obtain ⟨sa_y, sc_y, hv, -⟩ := Hy.out.shape
  subst hv
  clear hn hb
  generalize hny : (joinInV o k l).length = ny at Hy ⊢
  have Hny := Lib.hid hny
  clear hny
  have HQ := Lib.hid (spec_JoinIn_c (i := k) (j := l) Ho.out)
  rw [← Hk2.out] at HQ
  go_wp2_with fail
  (with_reducible refine HQ.out.mono ?_)
  clear HQ
  rintro e w8 ⟨vz, rfl, hn, hb⟩
  replace HD := Lib.hid (BytR.frame _ _ _ _ HD.out hb)
  replace Hm := Lib.hid (Tab.frame _ _ _ _ Hm.out hb)
  replace Hal := Lib.hid (Tab.frame _ _ _ _ Hal.out hb)
  replace Hn := Lib.hid (Tab.frame _ _ _ _ Hn.out hb)
  replace Hx := Lib.hid (Tab.frame _ _ _ _ Hx.out hb)
  replace Hx2 := Lib.hid (Tab.frame _ _ _ _ Hx2.out hb)
  replace Ho := Lib.hid (Tab.frame _ _ _ _ Ho.out hb)
  replace Hy := Lib.hid (Tab.frame _ _ _ _ Hy.out hb)
  replace HB := Lib.hid (HB.out.trans (hb.mono HB.out.size))
  have Hz := Lib.hid hn.tab
  obtain ⟨sa_z, sc_z, hv, -⟩ := Hz.out.shape
  subst hv
  clear hn hb
  generalize hnz : (joinInV o k l).length = nz at Hz ⊢
  have Hnz := Lib.hid hnz
  clear hnz
  have HQ := Lib.hid (DrawAreOneSided_c HD.out)
  go_wp2_with fail
  (with_reducible refine HQ.out.mono ?_)
  clear HQ
  rintro e w9 ⟨va', vb', rfl, a, b, h9, ta, tb, hb⟩
  replace HD := Lib.hid (BytR.frame _ _ _ _ HD.out hb)
  replace Hm := Lib.hid (Tab.frame _ _ _ _ Hm.out hb)
  replace Hal := Lib.hid (Tab.frame _ _ _ _ Hal.out hb)
  replace Hn := Lib.hid (Tab.frame _ _ _ _ Hn.out hb)
  replace Hx := Lib.hid (Tab.frame _ _ _ _ Hx.out hb)
  replace Hx2 := Lib.hid (Tab.frame _ _ _ _ Hx2.out hb)
  replace Ho := Lib.hid (Tab.frame _ _ _ _ Ho.out hb)
  replace Hy := Lib.hid (Tab.frame _ _ _ _ Hy.out hb)
  replace Hz := Lib.hid (Tab.frame _ _ _ _ Hz.out hb)
  replace HB := Lib.hid (HB.out.trans (hb.mono HB.out.size))
  have Ha := Lib.hid ta
  have Hb := Lib.hid tb
  have H9 := Lib.hid h9
  obtain ⟨sa_a, sc_a, hv, -⟩ := Ha.out.shape
  subst hv
  obtain ⟨sa_b, sc_b, hv, -⟩ := Hb.out.shape
  subst hv
  clear ta tb hb h9
  generalize hna : (a).length = na at Ha ⊢
  have Hna := Lib.hid hna
  clear hna
  generalize hnb : (b).length = nb at Hb ⊢
  have Hnb := Lib.hid hnb
  clear hnb
  have HQ := Lib.hid (DrawRenameGraph_c HD.out)
  go_wp2_with fail
  (with_reducible refine HQ.out.mono ?_)
  clear HQ
  rintro e w10 ⟨vc', vs', rfl, c, ns, h9, tc, ti, hb⟩
  replace HD := Lib.hid (BytR.frame _ _ _ _ HD.out hb)
  replace Hm := Lib.hid (Tab.frame _ _ _ _ Hm.out hb)
  replace Hal := Lib.hid (Tab.frame _ _ _ _ Hal.out hb)
  replace Hn := Lib.hid (Tab.frame _ _ _ _ Hn.out hb)
  replace Hx := Lib.hid (Tab.frame _ _ _ _ Hx.out hb)
  replace Hx2 := Lib.hid (Tab.frame _ _ _ _ Hx2.out hb)
  replace Ho := Lib.hid (Tab.frame _ _ _ _ Ho.out hb)
  replace Hy := Lib.hid (Tab.frame _ _ _ _ Hy.out hb)
  replace Hz := Lib.hid (Tab.frame _ _ _ _ Hz.out hb)
  replace Ha := Lib.hid (Tab.frame _ _ _ _ Ha.out hb)
  replace Hb := Lib.hid (Tab.frame _ _ _ _ Hb.out hb)
  replace HB := Lib.hid (HB.out.trans (hb.mono HB.out.size))
  have Hc := Lib.hid tc
  have Hs := Lib.hid ti
  have H9c := Lib.hid h9
  obtain ⟨sa_c, sc_c, hv, -⟩ := Hc.out.shape
  subst hv
  obtain ⟨sa_s, sc_s, hv, -⟩ := Hs.out.shape
  subst hv
  clear tc ti hb h9
  generalize hnc : (c).length = nc at Hc ⊢
  have Hnc := Lib.hid hnc
  clear hnc
  generalize hnsl : (ns).length = nsl at Hs ⊢
  have Hnsl := Lib.hid hnsl
  clear hnsl
  obtain ⟨ok3, hk3⟩ : ∃ x, x = renOk c ns := ⟨_, rfl⟩
  have Hk3 := Lib.hid hk3
  clear hk3
  have HQ := Lib.hid (impl_RenameGraph_c Hc.out Hs.out)
  rw [← Hk3.out] at HQ
  go_wp2_with fail
  (with_reducible refine HQ.out.mono ?_)
  clear HQ
  rintro e w11 ⟨vd, rfl, hn, hb⟩
  replace HD := Lib.hid (BytR.frame _ _ _ _ HD.out hb)
  replace Hm := Lib.hid (Tab.frame _ _ _ _ Hm.out hb)
  replace Hal := Lib.hid (Tab.frame _ _ _ _ Hal.out hb)
  replace Hn := Lib.hid (Tab.frame _ _ _ _ Hn.out hb)
  replace Hx := Lib.hid (Tab.frame _ _ _ _ Hx.out hb)
  replace Hx2 := Lib.hid (Tab.frame _ _ _ _ Hx2.out hb)
  replace Ho := Lib.hid (Tab.frame _ _ _ _ Ho.out hb)
  replace Hy := Lib.hid (Tab.frame _ _ _ _ Hy.out hb)
  replace Hz := Lib.hid (Tab.frame _ _ _ _ Hz.out hb)
  replace Ha := Lib.hid (Tab.frame _ _ _ _ Ha.out hb)
  replace Hb := Lib.hid (Tab.frame _ _ _ _ Hb.out hb)
  replace Hc := Lib.hid (Tab.frame _ _ _ _ Hc.out hb)
  replace Hs := Lib.hid (Ints.frame _ _ _ _ Hs.out hb)
  replace HB := Lib.hid (HB.out.trans (hb.mono HB.out.size))
  have Hd := Lib.hid hn.tab
  obtain ⟨sa_d, sc_d, hv, -⟩ := Hd.out.shape
  subst hv
  clear hn hb
  generalize hnd : (renV c ns).length = nd at Hd ⊢
  have Hnd := Lib.hid hnd
  clear hnd
  have HQ := Lib.hid (spec_RenameGraph_c Hc.out Hs.out)
  rw [← Hk3.out] at HQ
  go_wp2_with fail
  (with_reducible refine HQ.out.mono ?_)
  clear HQ
  rintro e w12 ⟨ve, rfl, hn, hb⟩
  replace HD := Lib.hid (BytR.frame _ _ _ _ HD.out hb)
  replace Hm := Lib.hid (Tab.frame _ _ _ _ Hm.out hb)
  replace Hal := Lib.hid (Tab.frame _ _ _ _ Hal.out hb)
  replace Hn := Lib.hid (Tab.frame _ _ _ _ Hn.out hb)
  replace Hx := Lib.hid (Tab.frame _ _ _ _ Hx.out hb)
  replace Hx2 := Lib.hid (Tab.frame _ _ _ _ Hx2.out hb)
  replace Ho := Lib.hid (Tab.frame _ _ _ _ Ho.out hb)
  replace Hy := Lib.hid (Tab.frame _ _ _ _ Hy.out hb)
  replace Hz := Lib.hid (Tab.frame _ _ _ _ Hz.out hb)
  replace Ha := Lib.hid (Tab.frame _ _ _ _ Ha.out hb)
  replace Hb := Lib.hid (Tab.frame _ _ _ _ Hb.out hb)
  replace Hc := Lib.hid (Tab.frame _ _ _ _ Hc.out hb)
  replace Hs := Lib.hid (Ints.frame _ _ _ _ Hs.out hb)
  replace Hd := Lib.hid (Tab.frame _ _ _ _ Hd.out hb)
  replace HB := Lib.hid (HB.out.trans (hb.mono HB.out.size))
  have He := Lib.hid hn.tab
  obtain ⟨sa_e, sc_e, hv, -⟩ := He.out.shape
  subst hv
  clear hn hb
  generalize hne : (renV c ns).length = ne at He ⊢
  have Hne := Lib.hid hne
  clear hne
  clear Hs
  clear HD
  clear Ho
  have tn1 : (ok1 != ok1) = false := by cases ok1 <;> rfl
  have tn2 : (ok2 != ok2) = false := by cases ok2 <;> rfl
  have tn3 : (ok3 != ok3) = false := by cases ok3 <;> rfl
  have HQ := Lib.hid (spec_JoinAll_c Hm.out)
  go_wp2_with fail
  (with_reducible refine HQ.out.mono ?_)
  clear HQ
  rintro e w13 ⟨val2, rfl, hn, hb⟩
  replace Hm := Lib.hid (Tab.frame _ _ _ _ Hm.out hb)
  replace Hal := Lib.hid (Tab.frame _ _ _ _ Hal.out hb)
  replace Hn := Lib.hid (Tab.frame _ _ _ _ Hn.out hb)
  replace Hx := Lib.hid (Tab.frame _ _ _ _ Hx.out hb)
  replace Hx2 := Lib.hid (Tab.frame _ _ _ _ Hx2.out hb)
  replace Hy := Lib.hid (Tab.frame _ _ _ _ Hy.out hb)
  replace Hz := Lib.hid (Tab.frame _ _ _ _ Hz.out hb)
  replace Ha := Lib.hid (Tab.frame _ _ _ _ Ha.out hb)
  replace Hb := Lib.hid (Tab.frame _ _ _ _ Hb.out hb)
  replace Hc := Lib.hid (Tab.frame _ _ _ _ Hc.out hb)
  replace Hd := Lib.hid (Tab.frame _ _ _ _ Hd.out hb)
  replace He := Lib.hid (Tab.frame _ _ _ _ He.out hb)
  replace HB := Lib.hid (HB.out.trans (hb.mono HB.out.size))
  have Hal2 := Lib.hid hn.tab
  obtain ⟨sa_al2, sc_al2, hv, -⟩ := Hal2.out.shape
  subst hv
  clear hn hb
  generalize hnal2 : (joinAllV m).length = nal2 at Hal2 ⊢
  have Hnal2 := Lib.hid hnal2
  clear hnal2
  have HQ := Lib.hid (sameLists_c Hal.out Hal2.out)
  rw [decide_eq_true (rfl : joinAllV m = joinAllV m)] at HQ
  go_wp2_with fail
  (with_reducible refine HQ.out.mono ?_)
  clear HQ
  rintro e w14 ⟨rfl, hd⟩
  have hb := hd.below w13.heap.size
  clear hd
  replace Hm := Lib.hid (Tab.frame _ _ _ _ Hm.out hb)
  replace Hal := Lib.hid (Tab.frame _ _ _ _ Hal.out hb)
  replace Hn := Lib.hid (Tab.frame _ _ _ _ Hn.out hb)
  replace Hx := Lib.hid (Tab.frame _ _ _ _ Hx.out hb)
  replace Hx2 := Lib.hid (Tab.frame _ _ _ _ Hx2.out hb)
  replace Hy := Lib.hid (Tab.frame _ _ _ _ Hy.out hb)
  replace Hz := Lib.hid (Tab.frame _ _ _ _ Hz.out hb)
  replace Ha := Lib.hid (Tab.frame _ _ _ _ Ha.out hb)
  replace Hb := Lib.hid (Tab.frame _ _ _ _ Hb.out hb)
  replace Hc := Lib.hid (Tab.frame _ _ _ _ Hc.out hb)
  replace Hd := Lib.hid (Tab.frame _ _ _ _ Hd.out hb)
  replace He := Lib.hid (Tab.frame _ _ _ _ He.out hb)
  replace Hal2 := Lib.hid (Tab.frame _ _ _ _ Hal2.out hb)
  replace HB := Lib.hid (HB.out.trans (hb.mono HB.out.size))
  clear hb
  clear Hal2
  have HQ := Lib.hid (sameLists_c Hx.out Hx2.out)
  rw [decide_eq_true (rfl : joinV n i j = joinV n i j)] at HQ
  go_wp2_with fail
  (with_reducible refine HQ.out.mono ?_)
  clear HQ
  rintro e w15 ⟨rfl, hd⟩
  have hb := hd.below w14.heap.size
  clear hd
  replace Hm := Lib.hid (Tab.frame _ _ _ _ Hm.out hb)
  replace Hal := Lib.hid (Tab.frame _ _ _ _ Hal.out hb)
  replace Hn := Lib.hid (Tab.frame _ _ _ _ Hn.out hb)
  replace Hx := Lib.hid (Tab.frame _ _ _ _ Hx.out hb)
  replace Hx2 := Lib.hid (Tab.frame _ _ _ _ Hx2.out hb)
  replace Hy := Lib.hid (Tab.frame _ _ _ _ Hy.out hb)
  replace Hz := Lib.hid (Tab.frame _ _ _ _ Hz.out hb)
  replace Ha := Lib.hid (Tab.frame _ _ _ _ Ha.out hb)
  replace Hb := Lib.hid (Tab.frame _ _ _ _ Hb.out hb)
  replace Hc := Lib.hid (Tab.frame _ _ _ _ Hc.out hb)
  replace Hd := Lib.hid (Tab.frame _ _ _ _ Hd.out hb)
  replace He := Lib.hid (Tab.frame _ _ _ _ He.out hb)
  replace HB := Lib.hid (HB.out.trans (hb.mono HB.out.size))
  clear hb
  clear Hx2
  have HQ := Lib.hid (sameLists_c Hy.out Hz.out)
  rw [decide_eq_true (rfl : joinInV o k l = joinInV o k l)] at HQ
  go_wp2_with fail
  (with_reducible refine HQ.out.mono ?_)
  clear HQ
  rintro e w16 ⟨rfl, hd⟩
  have hb := hd.below w15.heap.size
  clear hd
  replace Hm := Lib.hid (Tab.frame _ _ _ _ Hm.out hb)
  replace Hal := Lib.hid (Tab.frame _ _ _ _ Hal.out hb)
  replace Hn := Lib.hid (Tab.frame _ _ _ _ Hn.out hb)
  replace Hx := Lib.hid (Tab.frame _ _ _ _ Hx.out hb)
  replace Hy := Lib.hid (Tab.frame _ _ _ _ Hy.out hb)
  replace Hz := Lib.hid (Tab.frame _ _ _ _ Hz.out hb)
  replace Ha := Lib.hid (Tab.frame _ _ _ _ Ha.out hb)
  replace Hb := Lib.hid (Tab.frame _ _ _ _ Hb.out hb)
  replace Hc := Lib.hid (Tab.frame _ _ _ _ Hc.out hb)
  replace Hd := Lib.hid (Tab.frame _ _ _ _ Hd.out hb)
  replace He := Lib.hid (Tab.frame _ _ _ _ He.out hb)
  replace HB := Lib.hid (HB.out.trans (hb.mono HB.out.size))
  clear hb
  clear Hy
  clear Hz
  obtain ⟨q1, hq1⟩ : ∃ x, x = oneM a b := ⟨_, rfl⟩
  have Hq1 := Lib.hid hq1
  clear hq1
  obtain ⟨q2, hq2⟩ : ∃ x, x = alikeM a b := ⟨_, rfl⟩
  have Hq2 := Lib.hid hq2
  clear hq2
  obtain ⟨q3, hq3⟩ : ∃ x, x = joinedM m := ⟨_, rfl⟩
  have Hq3 := Lib.hid hq3
  clear hq3
  have tq1 : (q1 != q1) = false := by cases q1 <;> rfl
  have tq2 : (q2 != q2) = false := by cases q2 <;> rfl
  have tq3 : (q3 != q3) = false := by cases q3 <;> rfl
  have HQ := Lib.hid (impl_AreOneSided_c Ha.out Hb.out)
  rw [← Hq1.out] at HQ
  go_wp2_with fail
  (with_reducible refine HQ.out.mono ?_)
  clear HQ
  rintro e w17 ⟨rfl, hb⟩
  replace Hm := Lib.hid (Tab.frame _ _ _ _ Hm.out hb)
  replace Hal := Lib.hid (Tab.frame _ _ _ _ Hal.out hb)
  replace Hn := Lib.hid (Tab.frame _ _ _ _ Hn.out hb)
  replace Hx := Lib.hid (Tab.frame _ _ _ _ Hx.out hb)
  replace Ha := Lib.hid (Tab.frame _ _ _ _ Ha.out hb)
  replace Hb := Lib.hid (Tab.frame _ _ _ _ Hb.out hb)
  replace Hc := Lib.hid (Tab.frame _ _ _ _ Hc.out hb)
  replace Hd := Lib.hid (Tab.frame _ _ _ _ Hd.out hb)
  replace He := Lib.hid (Tab.frame _ _ _ _ He.out hb)
  replace HB := Lib.hid (HB.out.trans (hb.mono HB.out.size))
  clear hb
  have HQ := Lib.hid (spec_AreOneSided_c Ha.out Hb.out)
  rw [← Hq1.out] at HQ
  go_wp2_with fail
  (with_reducible refine HQ.out.mono ?_)
  clear HQ
  rintro e w18 ⟨rfl, hb⟩
  replace Hm := Lib.hid (Tab.frame _ _ _ _ Hm.out hb)
  replace Hal := Lib.hid (Tab.frame _ _ _ _ Hal.out hb)
  replace Hn := Lib.hid (Tab.frame _ _ _ _ Hn.out hb)
  replace Hx := Lib.hid (Tab.frame _ _ _ _ Hx.out hb)
  replace Ha := Lib.hid (Tab.frame _ _ _ _ Ha.out hb)
  replace Hb := Lib.hid (Tab.frame _ _ _ _ Hb.out hb)
  replace Hc := Lib.hid (Tab.frame _ _ _ _ Hc.out hb)
  replace Hd := Lib.hid (Tab.frame _ _ _ _ Hd.out hb)
  replace He := Lib.hid (Tab.frame _ _ _ _ He.out hb)
  replace HB := Lib.hid (HB.out.trans (hb.mono HB.out.size))
  clear hb
  have HQ := Lib.hid (impl_AreAlike_c Ha.out Hb.out)
  rw [← Hq2.out] at HQ
  go_wp2_with fail
  (with_reducible refine HQ.out.mono ?_)
  clear HQ
  rintro e w19 ⟨rfl, hb⟩
  replace Hm := Lib.hid (Tab.frame _ _ _ _ Hm.out hb)
  replace Hal := Lib.hid (Tab.frame _ _ _ _ Hal.out hb)
  replace Hn := Lib.hid (Tab.frame _ _ _ _ Hn.out hb)
  replace Hx := Lib.hid (Tab.frame _ _ _ _ Hx.out hb)
  replace Ha := Lib.hid (Tab.frame _ _ _ _ Ha.out hb)
  replace Hb := Lib.hid (Tab.frame _ _ _ _ Hb.out hb)
  replace Hc := Lib.hid (Tab.frame _ _ _ _ Hc.out hb)
  replace Hd := Lib.hid (Tab.frame _ _ _ _ Hd.out hb)
  replace He := Lib.hid (Tab.frame _ _ _ _ He.out hb)
  replace HB := Lib.hid (HB.out.trans (hb.mono HB.out.size))
  clear hb
  have HQ := Lib.hid (spec_AreAlike_c Ha.out Hb.out)
  rw [← Hq2.out] at HQ
  go_wp2_with fail
  (with_reducible refine HQ.out.mono ?_)
  clear HQ
  rintro e w20 ⟨rfl, hb⟩
  replace Hm := Lib.hid (Tab.frame _ _ _ _ Hm.out hb)
  replace Hal := Lib.hid (Tab.frame _ _ _ _ Hal.out hb)
  replace Hn := Lib.hid (Tab.frame _ _ _ _ Hn.out hb)
  replace Hx := Lib.hid (Tab.frame _ _ _ _ Hx.out hb)
  replace Ha := Lib.hid (Tab.frame _ _ _ _ Ha.out hb)
  replace Hb := Lib.hid (Tab.frame _ _ _ _ Hb.out hb)
  replace Hc := Lib.hid (Tab.frame _ _ _ _ Hc.out hb)
  replace Hd := Lib.hid (Tab.frame _ _ _ _ Hd.out hb)
  replace He := Lib.hid (Tab.frame _ _ _ _ He.out hb)
  replace HB := Lib.hid (HB.out.trans (hb.mono HB.out.size))
  clear hb
  have HQ := Lib.hid (sameLists_c Hd.out He.out)
  rw [decide_eq_true (rfl : renV c ns = renV c ns)] at HQ
  go_wp2_with fail
  (with_reducible refine HQ.out.mono ?_)
  clear HQ
  rintro e w21 ⟨rfl, hd⟩
  have hb := hd.below w20.heap.size
  clear hd
  replace Hm := Lib.hid (Tab.frame _ _ _ _ Hm.out hb)
  replace Hal := Lib.hid (Tab.frame _ _ _ _ Hal.out hb)
  replace Hn := Lib.hid (Tab.frame _ _ _ _ Hn.out hb)
  replace Hx := Lib.hid (Tab.frame _ _ _ _ Hx.out hb)
  replace Ha := Lib.hid (Tab.frame _ _ _ _ Ha.out hb)
  replace Hb := Lib.hid (Tab.frame _ _ _ _ Hb.out hb)
  replace Hc := Lib.hid (Tab.frame _ _ _ _ Hc.out hb)
  replace Hd := Lib.hid (Tab.frame _ _ _ _ Hd.out hb)
  replace He := Lib.hid (Tab.frame _ _ _ _ He.out hb)
  replace HB := Lib.hid (HB.out.trans (hb.mono HB.out.size))
  clear hb
  clear He
  have HQ := Lib.hid (impl_IsJoined_c Hm.out)
  rw [← Hq3.out] at HQ
  go_wp2_with fail
  (with_reducible refine HQ.out.mono ?_)
  clear HQ
  rintro e w22 ⟨rfl, hb⟩
  replace Hm := Lib.hid (Tab.frame _ _ _ _ Hm.out hb)
  replace Hal := Lib.hid (Tab.frame _ _ _ _ Hal.out hb)
  replace Hn := Lib.hid (Tab.frame _ _ _ _ Hn.out hb)
  replace Hx := Lib.hid (Tab.frame _ _ _ _ Hx.out hb)
  replace Ha := Lib.hid (Tab.frame _ _ _ _ Ha.out hb)
  replace Hb := Lib.hid (Tab.frame _ _ _ _ Hb.out hb)
  replace Hc := Lib.hid (Tab.frame _ _ _ _ Hc.out hb)
  replace Hd := Lib.hid (Tab.frame _ _ _ _ Hd.out hb)
  replace HB := Lib.hid (HB.out.trans (hb.mono HB.out.size))
  clear hb
  have HQ := Lib.hid (spec_IsJoined_c Hm.out)
  rw [← Hq3.out] at HQ
  go_wp2_with fail
  (with_reducible refine HQ.out.mono ?_)
  clear HQ
  rintro e w23 ⟨rfl, hb⟩
  replace Hm := Lib.hid (Tab.frame _ _ _ _ Hm.out hb)
  replace Hal := Lib.hid (Tab.frame _ _ _ _ Hal.out hb)
  replace Hn := Lib.hid (Tab.frame _ _ _ _ Hn.out hb)
  replace Hx := Lib.hid (Tab.frame _ _ _ _ Hx.out hb)
  replace Ha := Lib.hid (Tab.frame _ _ _ _ Ha.out hb)
  replace Hb := Lib.hid (Tab.frame _ _ _ _ Hb.out hb)
  replace Hc := Lib.hid (Tab.frame _ _ _ _ Hc.out hb)
  replace Hd := Lib.hid (Tab.frame _ _ _ _ Hd.out hb)
  replace HB := Lib.hid (HB.out.trans (hb.mono HB.out.size))
  clear hb
  go_upto_region 17 with fail
  go_cut [175] (fun sB wx => sB = .bool false ∧ Hid (Below w.heap.size w wx) ∧ Hid (Tab wx (.slice sa_m nm sc_m) (m)) ∧ Hid (Tab wx (.slice sa_al nal sc_al) (joinAllV m)) ∧ Hid (Tab wx (.slice sa_n nn sc_n) (n)) ∧ Hid (Tab wx (.slice sa_x nx sc_x) (joinV n i j)) ∧ Hid (Tab wx (.slice sa_a na sc_a) (a)) ∧ Hid (Tab wx (.slice sa_b nb sc_b) (b)))
  case first =>
    as_aux_lemma =>
      cases ok3 with
      | false =>
        go_wp2_with fail
        go_meet
        case rel => exact ⟨rfl, HB, Hm, Hal, Hn, Hx, Ha, Hb⟩
      | true =>
        by_cases h6 : nc ≤ 6
        · have h6i : (nc : Int) ≤ 6 := by omega
          have hJ := joins_law1 H9c.out Hk3.out.symm (by rw [Hnc.out]; exact h6)
          have HJ1 := Lib.hid hJ.1
          have HJ2 := Lib.hid hJ.2
          clear hJ
          have HQ := Lib.hid (impl_AreAlike_c Hc.out Hd.out)
          rw [HJ1.out] at HQ
          go_wp2_with fail
          (with_reducible refine HQ.out.mono ?_)
          clear HQ
          rintro e w24 ⟨rfl, hb⟩
          replace Hm := Lib.hid (Tab.frame _ _ _ _ Hm.out hb)
          replace Hal := Lib.hid (Tab.frame _ _ _ _ Hal.out hb)
          replace Hn := Lib.hid (Tab.frame _ _ _ _ Hn.out hb)
          replace Hx := Lib.hid (Tab.frame _ _ _ _ Hx.out hb)
          replace Ha := Lib.hid (Tab.frame _ _ _ _ Ha.out hb)
          replace Hb := Lib.hid (Tab.frame _ _ _ _ Hb.out hb)
          replace Hc := Lib.hid (Tab.frame _ _ _ _ Hc.out hb)
          replace Hd := Lib.hid (Tab.frame _ _ _ _ Hd.out hb)
          replace HB := Lib.hid (HB.out.trans (hb.mono HB.out.size))
          clear hb
          have HQ := Lib.hid (impl_AreOneSided_c Hc.out Hd.out)
          rw [oneM_eq] at HQ
          rw [HJ2.out] at HQ
          go_wp2_with fail
          (with_reducible refine HQ.out.mono ?_)
          clear HQ
          rintro e w25 ⟨rfl, hb⟩
          replace Hm := Lib.hid (Tab.frame _ _ _ _ Hm.out hb)
          replace Hal := Lib.hid (Tab.frame _ _ _ _ Hal.out hb)
          replace Hn := Lib.hid (Tab.frame _ _ _ _ Hn.out hb)
          replace Hx := Lib.hid (Tab.frame _ _ _ _ Hx.out hb)
          replace Ha := Lib.hid (Tab.frame _ _ _ _ Ha.out hb)
          replace Hb := Lib.hid (Tab.frame _ _ _ _ Hb.out hb)
          replace Hc := Lib.hid (Tab.frame _ _ _ _ Hc.out hb)
          replace Hd := Lib.hid (Tab.frame _ _ _ _ Hd.out hb)
          replace HB := Lib.hid (HB.out.trans (hb.mono HB.out.size))
          clear hb
          go_wp2_with fail
          go_meet
          case rel => exact ⟨rfl, HB, Hm, Hal, Hn, Hx, Ha, Hb⟩
        · have h6i : ¬ ((nc : Int) ≤ 6) := by omega
          go_wp2_with fail
          go_meet
          case rel => exact ⟨rfl, HB, Hm, Hal, Hn, Hx, Ha, Hb⟩
  case rest =>
    as_aux_lemma =>
      clear Hm
      clear Hal
      clear Hn
      clear Hx
      clear Ha
      clear Hb
      clear Hc
      clear Hd
      clear HB
      obtain ⟨rfl, HB, Hm, Hal, Hn, Hx, Ha, Hb⟩ := hcut
      obtain ⟨w26, rfl⟩ : ∃ x, x = wc := ⟨_, rfl⟩
      go_upto_region 19 with fail
      go_cut [189] (fun sB wx => sB = .bool false ∧ Hid (Below w.heap.size w wx) ∧ Hid (Tab wx (.slice sa_n nn sc_n) (n)) ∧ Hid (Tab wx (.slice sa_x nx sc_x) (joinV n i j)) ∧ Hid (Tab wx (.slice sa_a na sc_a) (a)) ∧ Hid (Tab wx (.slice sa_b nb sc_b) (b)))
      case first =>
        as_aux_lemma =>
          cases him : isMat m with
          | false =>
            have HQ := Lib.hid (spec_IsMatrix_c Hm.out)
            rw [him] at HQ
            go_wp2_with fail
            (with_reducible refine HQ.out.mono ?_)
            clear HQ
            rintro e w9 ⟨rfl, hw9⟩
            rw [← hw9]
            clear hw9 w9
            go_wp2_with fail
            go_meet
            case rel => exact ⟨rfl, HB, Hn, Hx, Ha, Hb⟩
          | true =>
            have hJ := joinAll_joined him
            have HJ1 := Lib.hid hJ.1
            have HJ2 := Lib.hid hJ.2
            clear hJ
            have HQ := Lib.hid (spec_IsMatrix_c Hm.out)
            rw [him] at HQ
            go_wp2_with fail
            (with_reducible refine HQ.out.mono ?_)
            clear HQ
            rintro e w9 ⟨rfl, hw9⟩
            rw [← hw9]
            clear hw9 w9
            have HQ := Lib.hid (impl_IsJoined_c Hal.out)
            rw [HJ1.out] at HQ
            go_wp2_with fail
            (with_reducible refine HQ.out.mono ?_)
            clear HQ
            rintro e w27 ⟨rfl, hb⟩
            replace Hm := Lib.hid (Tab.frame _ _ _ _ Hm.out hb)
            replace Hal := Lib.hid (Tab.frame _ _ _ _ Hal.out hb)
            replace Hn := Lib.hid (Tab.frame _ _ _ _ Hn.out hb)
            replace Hx := Lib.hid (Tab.frame _ _ _ _ Hx.out hb)
            replace Ha := Lib.hid (Tab.frame _ _ _ _ Ha.out hb)
            replace Hb := Lib.hid (Tab.frame _ _ _ _ Hb.out hb)
            replace HB := Lib.hid (HB.out.trans (hb.mono HB.out.size))
            clear hb
            have HQ := Lib.hid (impl_JoinAll_c Hal.out)
            go_wp2_with fail
            (with_reducible refine HQ.out.mono ?_)
            clear HQ
            rintro e w28 ⟨val3, rfl, hn, hb⟩
            replace Hm := Lib.hid (Tab.frame _ _ _ _ Hm.out hb)
            replace Hal := Lib.hid (Tab.frame _ _ _ _ Hal.out hb)
            replace Hn := Lib.hid (Tab.frame _ _ _ _ Hn.out hb)
            replace Hx := Lib.hid (Tab.frame _ _ _ _ Hx.out hb)
            replace Ha := Lib.hid (Tab.frame _ _ _ _ Ha.out hb)
            replace Hb := Lib.hid (Tab.frame _ _ _ _ Hb.out hb)
            replace HB := Lib.hid (HB.out.trans (hb.mono HB.out.size))
            have Hal3 := Lib.hid hn.tab
            obtain ⟨sa_al3, sc_al3, hv, -⟩ := Hal3.out.shape
            subst hv
            clear hn hb
            generalize hnal3 : (joinAllV (joinAllV m)).length = nal3 at Hal3 ⊢
            have Hnal3 := Lib.hid hnal3
            clear hnal3
            have HQ := Lib.hid (sameLists_c Hal3.out Hal.out)
            rw [decide_eq_true HJ2.out] at HQ
            go_wp2_with fail
            (with_reducible refine HQ.out.mono ?_)
            clear HQ
            rintro e w29 ⟨rfl, hd⟩
            have hb := hd.below w28.heap.size
            clear hd
            replace Hm := Lib.hid (Tab.frame _ _ _ _ Hm.out hb)
            replace Hal := Lib.hid (Tab.frame _ _ _ _ Hal.out hb)
            replace Hn := Lib.hid (Tab.frame _ _ _ _ Hn.out hb)
            replace Hx := Lib.hid (Tab.frame _ _ _ _ Hx.out hb)
            replace Ha := Lib.hid (Tab.frame _ _ _ _ Ha.out hb)
            replace Hb := Lib.hid (Tab.frame _ _ _ _ Hb.out hb)
            replace Hal3 := Lib.hid (Tab.frame _ _ _ _ Hal3.out hb)
            replace HB := Lib.hid (HB.out.trans (hb.mono HB.out.size))
            clear hb
            go_wp2_with fail
            go_meet
            case rel => exact ⟨rfl, HB, Hn, Hx, Ha, Hb⟩
      case rest =>
        as_aux_lemma =>
          clear Hm
          clear Hal
          clear Hn
          clear Hx
          clear Ha
          clear Hb
          clear HB
          obtain ⟨rfl, HB, Hn, Hx, Ha, Hb⟩ := hcut
          obtain ⟨w30, rfl⟩ : ∃ x, x = wc := ⟨_, rfl⟩
          go_upto_region 21 with fail
          go_cut [208] (fun sB wx => sB = .bool false ∧ Hid (Below w.heap.size w wx) ∧ Hid (Tab wx (.slice sa_a na sc_a) (a)) ∧ Hid (Tab wx (.slice sa_b nb sc_b) (b)))
          case first =>
            as_aux_lemma =>
              cases ok1 with
              | false =>
                go_wp2_with fail
                go_meet
                case rel => exact ⟨rfl, HB, Ha, Hb⟩
              | true =>
                by_cases h6 : nn ≤ 6
                · have h6i : (nn : Int) ≤ 6 := by omega
                  obtain ⟨sv, hsv⟩ : ∃ x, x = sumV n := ⟨_, rfl⟩
                  have Hsv := Lib.hid hsv
                  clear hsv
                  by_cases hs : sv ≤ 1000
                  · have hJ := joins_law2 (i := i) (j := j) Hk1.out.symm (by rw [Hnn.out]; exact h6) (by rw [← Hsv.out]; exact hs)
                    have HJ := Lib.hid hJ
                    clear hJ
                    have HQ := Lib.hid (spec_SumOf_c Hn.out)
                    rw [← Hsv.out] at HQ
                    go_wp2_with fail
                    (with_reducible refine HQ.out.mono ?_)
                    clear HQ
                    rintro e w9 ⟨rfl, hw9⟩
                    rw [← hw9]
                    clear hw9 w9
                    have HQ := Lib.hid (impl_JoinAll_c Hn.out)
                    go_wp2_with fail
                    (with_reducible refine HQ.out.mono ?_)
                    clear HQ
                    rintro e w31 ⟨vjn, rfl, hn, hb⟩
                    replace Hn := Lib.hid (Tab.frame _ _ _ _ Hn.out hb)
                    replace Hx := Lib.hid (Tab.frame _ _ _ _ Hx.out hb)
                    replace Ha := Lib.hid (Tab.frame _ _ _ _ Ha.out hb)
                    replace Hb := Lib.hid (Tab.frame _ _ _ _ Hb.out hb)
                    replace HB := Lib.hid (HB.out.trans (hb.mono HB.out.size))
                    have Hjn := Lib.hid hn.tab
                    obtain ⟨sa_jn, sc_jn, hv, -⟩ := Hjn.out.shape
                    subst hv
                    clear hn hb
                    generalize hnjn : (joinAllV n).length = njn at Hjn ⊢
                    have Hnjn := Lib.hid hnjn
                    clear hnjn
                    have HQ := Lib.hid (impl_JoinAll_c Hx.out)
                    go_wp2_with fail
                    (with_reducible refine HQ.out.mono ?_)
                    clear HQ
                    rintro e w32 ⟨vjx, rfl, hn, hb⟩
                    replace Hn := Lib.hid (Tab.frame _ _ _ _ Hn.out hb)
                    replace Hx := Lib.hid (Tab.frame _ _ _ _ Hx.out hb)
                    replace Ha := Lib.hid (Tab.frame _ _ _ _ Ha.out hb)
                    replace Hb := Lib.hid (Tab.frame _ _ _ _ Hb.out hb)
                    replace Hjn := Lib.hid (Tab.frame _ _ _ _ Hjn.out hb)
                    replace HB := Lib.hid (HB.out.trans (hb.mono HB.out.size))
                    have Hjx := Lib.hid hn.tab
                    obtain ⟨sa_jx, sc_jx, hv, -⟩ := Hjx.out.shape
                    subst hv
                    clear hn hb
                    generalize hnjx : (joinAllV (joinV n i j)).length = njx at Hjx ⊢
                    have Hnjx := Lib.hid hnjx
                    clear hnjx
                    have HQ := Lib.hid (impl_AreAlike_c Hjn.out Hjx.out)
                    rw [HJ.out] at HQ
                    go_wp2_with fail
                    (with_reducible refine HQ.out.mono ?_)
                    clear HQ
                    rintro e w33 ⟨rfl, hb⟩
                    replace Hn := Lib.hid (Tab.frame _ _ _ _ Hn.out hb)
                    replace Hx := Lib.hid (Tab.frame _ _ _ _ Hx.out hb)
                    replace Ha := Lib.hid (Tab.frame _ _ _ _ Ha.out hb)
                    replace Hb := Lib.hid (Tab.frame _ _ _ _ Hb.out hb)
                    replace Hjn := Lib.hid (Tab.frame _ _ _ _ Hjn.out hb)
                    replace Hjx := Lib.hid (Tab.frame _ _ _ _ Hjx.out hb)
                    replace HB := Lib.hid (HB.out.trans (hb.mono HB.out.size))
                    clear hb
                    go_wp2_with fail
                    go_meet
                    case rel => exact ⟨rfl, HB, Ha, Hb⟩
                  · have hs' : ¬ sv ≤ 1000 := hs
                    have HQ := Lib.hid (spec_SumOf_c Hn.out)
                    rw [← Hsv.out] at HQ
                    go_wp2_with fail
                    (with_reducible refine HQ.out.mono ?_)
                    clear HQ
                    rintro e w9 ⟨rfl, hw9⟩
                    rw [← hw9]
                    clear hw9 w9
                    go_wp2_with fail
                    go_meet
                    case rel => exact ⟨rfl, HB, Ha, Hb⟩
                · have h6i : ¬ ((nn : Int) ≤ 6) := by omega
                  go_wp2_with fail
                  go_meet
                  case rel => exact ⟨rfl, HB, Ha, Hb⟩
          case rest =>
            as_aux_lemma =>
              clear Hn
              clear Hx
              clear Ha
              clear Hb
              clear HB
              obtain ⟨rfl, HB, Ha, Hb⟩ := hcut
              obtain ⟨w34, rfl⟩ : ∃ x, x = wc := ⟨_, rfl⟩
              cases q2 with
              | false =>
                have HQ := Lib.hid (impl_AreAlike_c Ha.out Hb.out)
                rw [← Hq2.out] at HQ
                go_wp2_with fail
                (with_reducible refine HQ.out.mono ?_)
                clear HQ
                rintro e w35 ⟨rfl, hb⟩
                replace Ha := Lib.hid (Tab.frame _ _ _ _ Ha.out hb)
                replace Hb := Lib.hid (Tab.frame _ _ _ _ Hb.out hb)
                replace HB := Lib.hid (HB.out.trans (hb.mono HB.out.size))
                clear hb
                go_wp2
                go_ret
                exact ⟨rfl, HB.out⟩
              | true =>
                have hJ := joins_law3 H9.out Hq2.out.symm
                have HJ1 := Lib.hid hJ.1
                have HJ2 := Lib.hid hJ.2.1
                have HJ3 := Lib.hid hJ.2.2
                clear hJ
                obtain ⟨sv, hsv⟩ : ∃ x, x = sumV b := ⟨_, rfl⟩
                have Hsv := Lib.hid hsv
                obtain ⟨tv, htv⟩ : ∃ x, x = trV b := ⟨_, rfl⟩
                have Htv := Lib.hid htv
                clear hsv htv
                have HQ := Lib.hid (impl_AreAlike_c Ha.out Hb.out)
                rw [← Hq2.out] at HQ
                go_wp2_with fail
                (with_reducible refine HQ.out.mono ?_)
                clear HQ
                rintro e w36 ⟨rfl, hb⟩
                replace Ha := Lib.hid (Tab.frame _ _ _ _ Ha.out hb)
                replace Hb := Lib.hid (Tab.frame _ _ _ _ Hb.out hb)
                replace HB := Lib.hid (HB.out.trans (hb.mono HB.out.size))
                clear hb
                have HQ := Lib.hid (impl_AreOneSided_c Ha.out Hb.out)
                rw [oneM_eq] at HQ
                rw [HJ1.out] at HQ
                go_wp2_with fail
                (with_reducible refine HQ.out.mono ?_)
                clear HQ
                rintro e w37 ⟨rfl, hb⟩
                replace Ha := Lib.hid (Tab.frame _ _ _ _ Ha.out hb)
                replace Hb := Lib.hid (Tab.frame _ _ _ _ Hb.out hb)
                replace HB := Lib.hid (HB.out.trans (hb.mono HB.out.size))
                clear hb
                have HQ := Lib.hid (spec_SumOf_c Ha.out)
                rw [HJ2.out] at HQ
                rw [← Hsv.out] at HQ
                go_wp2_with fail
                (with_reducible refine HQ.out.mono ?_)
                clear HQ
                rintro e w9 ⟨rfl, hw9⟩
                rw [← hw9]
                clear hw9 w9
                have HQ := Lib.hid (spec_SumOf_c Hb.out)
                rw [← Hsv.out] at HQ
                go_wp2_with fail
                (with_reducible refine HQ.out.mono ?_)
                clear HQ
                rintro e w9 ⟨rfl, hw9⟩
                rw [← hw9]
                clear hw9 w9
                have HQ := Lib.hid (TraceOf_t Ha.out)
                rw [HJ3.out] at HQ
                rw [← Htv.out] at HQ
                go_wp2_with fail
                (with_reducible refine HQ.out.mono ?_)
                clear HQ
                rintro e w9 ⟨rfl, hw9⟩
                rw [← hw9]
                clear hw9 w9
                have HQ := Lib.hid (TraceOf_t Hb.out)
                rw [← Htv.out] at HQ
                go_wp2_with fail
                (with_reducible refine HQ.out.mono ?_)
                clear HQ
                rintro e w9 ⟨rfl, hw9⟩
                rw [← hw9]
                clear hw9 w9
                go_wp2
                go_ret
                exact ⟨rfl, HB.out⟩
end Go.Proofs.Ytlkgkfgpnnahdaa
end

section
/-
  FnJoins: all joined graphs are alike in any numbering, and splitting before joining changes nothing: the law returns true for every input. No condition.
-/
namespace Go.Proofs.Ytlkgkfgpnnahdaa.fnJoins
open Go.ChangeShapes Go.WideShapes Go.ChangeAt Go.RowKit Go.Sd Go.Joins
open Go.ChangeMaps (open_string shut_string)
set_option linter.unusedVariables false
theorem own : ownKnob Try.prog.godebug = none := by kernel_rfl
theorem laidOut : laidOutB Try.prog = true := by kernel_rfl
set_option maxRecDepth 100000 in
theorem lifted (os : Os) (started : os.Started) (H : Type) (enc : TypeId × Value → H) :
    ReturnsInHanded {} Try.checked os 3 .any (Rows.fnJoinsSpec.pre6 enc Try.prog Try.f3 Rows.fnJoinsRow.domain false) (Rows.fnJoinsSpec.post enc Try.prog Try.f3 false true false false) := by
  refine returnsInHanded_of_change (C := Try.checked) own started (by kernel_rfl) Try.func3
    (ChangeSpec.witness6 (enc := enc) (C := Try.checked) false ⟨#[], #[.slice none 0 0], []⟩ 8 (by kernel_rfl) (by kernel_rfl) (by kernel_rfl) (by kernel_rfl)) ?_
  intro W base args ds gs before hval0 hW hcnd _
  have hval : ∀ (j : Nat) t v, Try.f3.params[j]? = some t → args[j]? = some v → Value.okWide Try.prog W .any base t v := hval0
  have hW' := hW
  obtain ⟨p, q, hA0, hV, rfl, hfz, hnd⟩ := hW
  have hA : DataW.TrodAll enc Try.prog W 0 (fun _ => true) true Try.f3.params.toList args.toList ds p := hA0
  rw [Try.params3] at hA hval
  obtain ⟨v0, vs0, d0, ds0, p0, q0, hargs, rfl, rfl, h0, r0⟩ := trodAll_cons hA
  obtain ⟨rfl, rfl, rfl⟩ := trodAll_nil r0
  obtain rfl : args = #[v0] := by cases args; simp_all
  obtain ⟨rfl, rfl⟩ := trodVars_none hV
  have k0 := h0
  have lt0 : ∀ x ∈ p0, x.block < W.heap.size := by obtain ⟨m, hm⟩ := k0; exact DataW.trod_lt m _ _ _ hm
  obtain ⟨a0, t0, b0⟩ := open_Bytes Try.underlying22 Try.underlying5 (by kernel_rfl) (hval 0 22 v0 rfl rfl) h0
  clear hA0 hval0
  refine (law_FnJoins t0 b0).mono fun e W' ⟨he, bel⟩ => ?_
  subst he
  exact ⟨_, rfl, _, _, _, [], _, [], hW', trodAll_mk1 (shut_bool Try.underlying4 _), (trodAll_cons_mk (Below.trod laidOut (by kernel_rfl) (of_decide_eq_true (by kernel_rfl)) k0 bel lt0) trodAll_mk0), rfl, bel.frame _, fun h => by cases h⟩

theorem over : Rows.fnJoinsRow.holds Try.pinned (OpenSpec.ofChange Rows.fnJoinsSpec) :=
  OpenClaim.holds_of_wide 3 Try.f3 rfl rfl rfl rfl rfl rfl rfl ⟨rfl, rfl, rfl, rfl, rfl⟩ rfl rfl rfl rfl rfl (by kernel_rfl) Try.func3 (by kernel_rfl)
    (of_decide_eq_true (by kernel_rfl)) (by unfold Func.isWrapper; first | (rw [if_pos (by decide +kernel)]; kernel_rfl) | (rw [if_neg (by decide +kernel)]; exact ⟨rfl, rfl⟩))
    (fun os started H enc _ => lifted os started H enc)

theorem proved : Rows.FnJoinsSaid := over
#print axioms proved
end Go.Proofs.Ytlkgkfgpnnahdaa.fnJoins
end
