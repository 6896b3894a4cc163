/-
  Texts of this claim joined: laws for its walks, contracts of the functions that the law reaches.
-/
import Derived.Test.YtcilgihmaaobeaaDoorFnSyncM1
import Derived.Test.YtcilgihmaaobeaaDoorFnSyncM19
import Derived.Test.YtcilgihmaaobeaaDoorFnSyncM18
import Derived.Test.YtcilgihmaaobeaaDoorFnSyncM6
import Derived.Test.YtcilgihmaaobeaaDoorFnSyncM8
import Derived.Test.YtcilgihmaaobeaaDoorFnSyncM20
import Derived.Test.YtcilgihmaaobeaaDoorFnSyncM5
import Derived.Test.YtcilgihmaaobeaaDoorFnSyncM3
import Derived.Test.YtcilgihmaaobeaaDoorFnSyncM2
import Derived.Test.YtcilgihmaaobeaaDoorFnSyncM10
import Derived.Deep.RegionHeld3
import Derived.Deep.DeepCutAuto
set_option linter.unusedVariables false
set_option linter.unusedSimpArgs false
section
namespace Go.Proofs.YtcilgihmaaobeaaDoor
open Go.RowKit Go.Deep Go.Sd
set_option linter.unusedSimpArgs false
theorem short_rank {k : Lb} {wd : List Nat} (h : shortM k = some wd) : rankM k (wordT wd) = 1 := by
  have hr := short_resolv h
  obtain ⟨f1, f2, f3⟩ := short_facts h
  obtain ⟨-, -, -, h3, hL⟩ := resolv_facts hr
  obtain ⟨N, hN⟩ : ∃ N : Nat, k.1 = (N : Int) := ⟨k.1.toNat, by omega⟩
  have hw : wordM k.1 (wordT wd) = true := by
    rw [hN]
    rw [hN] at f1
    exact wordM_of (by omega) (by omega) f2 f1
  unfold rankM
  rw [hr, hw, if_pos (show (true && true) = true from rfl), bl_data, f3]
  rfl
theorem word_cons (x : Nat) (wd : List Nat) : wordT [x] ++ wordT wd = wordT (x :: wd) := by
  apply ByteArray.ext
  apply Array.toList_inj.1
  rw [ByteArray.data_append, Array.toList_append, bl_data, bl_data, bl_data]
  rfl
set_option linter.unusedVariables false in
set_option maxHeartbeats 8000000 in
set_option maxRecDepth 100000 in
theorem law_FnSync {w : World} (hdb : Deb w) {v0 : Value} {a0 : List Int} (t0 : BytR w v0 a0) (b0 : True) :
    Calls Tryd.prog 3 #[v0] w fun e w' => e = .returned (.bool true) ∧ Below w.heap.size w w' := by
  have hlen := t0.len
  have HDb := Lib.hid hdb
  clear hdb
  have HD := Lib.hid t0
  obtain ⟨va, vc, rfl, -⟩ := t0.cellsB
  obtain ⟨n0, hn0⟩ : ∃ n, n = a0.length := ⟨_, rfl⟩
  rw [← hn0] at HD hlen ⊢
  have HBig := Lib.hid (big_c (w := w) (a := va) (c := vc) hlen)
  clear t0 b0 hn0 hlen
  by_cases hbig : 1048576 < n0
  · rw [decide_eq_true hbig] at HBig
    clear HD
    go_enter Tryd.func3, Tryd.ntmps3
    go_wp2_with fail
    (with_reducible refine HBig.out.mono ?_)
    rintro e w9 ⟨rfl, hw9⟩
    rw [← hw9]
    clear hw9 w9
    go_wp2
    go_ret
    exact ⟨rfl, Below.refl _ _⟩
  rw [decide_eq_false hbig] at HBig
  clear hbig
  have HB := Lib.hid (Below.refl w.heap.size w)
  go_enter Tryd.func3, Tryd.ntmps3
  go_wp2_with fail
  (with_reducible refine HBig.out.mono ?_)
  rintro e w9 ⟨rfl, hw9⟩
  rw [← hw9]
  clear hw9 w9 HBig
  have HQ := Lib.hid (DrawIsSynchronizing_c HD.out)
  go_wp2_with fail
  (with_reducible refine HQ.out.mono ?_)
  clear HQ
  rintro e w1 ⟨vl, l, t1, rfl, hn, hs, hb⟩
  replace HD := Lib.hid (BytR.frame _ _ _ _ HD.out hb)
  replace HDb := Lib.hid (Deb.frame HDb.out hb)
  replace HB := Lib.hid (HB.out.trans (hb.mono HB.out.size))
  have Hl := Lib.hid (New.lab hn)
  obtain ⟨_, hv, -, xa_l, xc_l, hv2, -⟩ := Hl.out
  subst hv2
  subst hv
  generalize hn_l : l.2.2.length = n_l at Hl ⊢
  have Hn_l := Lib.hid hn_l
  clear hn_l
  have Ht1 := Lib.hid hs
  clear hn hs hb
  obtain ⟨w2, eb_l, hb, cell_l0, cell_l1, cell_l2, mb_l⟩ := boxA3_ex w1 26 (.int .i64 l.1) (.int .i64 l.2.1) (.slice xa_l n_l xc_l)
  replace HD := Lib.hid (BytR.frame _ _ _ _ HD.out hb)
  replace HDb := Lib.hid (Deb.frame HDb.out hb)
  replace Hl := Lib.hid (LabR.frame _ _ _ _ Hl.out hb)
  replace HB := Lib.hid (HB.out.trans (hb.mono HB.out.size))
  clear hb
  have HQ := Lib.hid (DrawShortestSync_c HD.out)
  go_wp2_with fail
  (with_reducible refine HQ.out.mono ?_)
  clear HQ
  rintro e w3 ⟨vk, k, rfl, hn, hb⟩
  replace HD := Lib.hid (BytR.frame _ _ _ _ HD.out hb)
  replace HDb := Lib.hid (Deb.frame HDb.out hb)
  replace Hl := Lib.hid (LabR.frame _ _ _ _ Hl.out hb)
  replace cell_l0 := (hb.cell (p := ⟨w1.heap.size, 0, none⟩) mb_l).trans cell_l0
  replace cell_l1 := (hb.cell (p := ⟨w1.heap.size, 1, none⟩) mb_l).trans cell_l1
  replace cell_l2 := (hb.cell (p := ⟨w1.heap.size, 2, none⟩) mb_l).trans cell_l2
  replace mb_l := Nat.lt_of_lt_of_le mb_l hb.size
  replace HB := Lib.hid (HB.out.trans (hb.mono HB.out.size))
  clear eb_l
  have Hk := Lib.hid (New.lab hn)
  obtain ⟨_, hv, -, xa_k, xc_k, hv2, -⟩ := Hk.out
  subst hv2
  subst hv
  generalize hn_k : k.2.2.length = n_k at Hk ⊢
  have Hn_k := Lib.hid hn_k
  clear hn_k
  clear hn hb
  obtain ⟨w4, eb_k, hb, cell_k0, cell_k1, cell_k2, mb_k⟩ := boxA3_ex w3 26 (.int .i64 k.1) (.int .i64 k.2.1) (.slice xa_k n_k xc_k)
  replace HD := Lib.hid (BytR.frame _ _ _ _ HD.out hb)
  replace HDb := Lib.hid (Deb.frame HDb.out hb)
  replace Hl := Lib.hid (LabR.frame _ _ _ _ Hl.out hb)
  replace Hk := Lib.hid (LabR.frame _ _ _ _ Hk.out hb)
  replace cell_l0 := (hb.cell (p := ⟨w1.heap.size, 0, none⟩) mb_l).trans cell_l0
  replace cell_l1 := (hb.cell (p := ⟨w1.heap.size, 1, none⟩) mb_l).trans cell_l1
  replace cell_l2 := (hb.cell (p := ⟨w1.heap.size, 2, none⟩) mb_l).trans cell_l2
  replace mb_l := Nat.lt_of_lt_of_le mb_l hb.size
  replace HB := Lib.hid (HB.out.trans (hb.mono HB.out.size))
  clear hb
  obtain ⟨st, h_st⟩ : ∃ bb_, bb_ = txt (shortM k) := ⟨_, rfl⟩
  have H_st := Lib.hid h_st
  clear h_st
  obtain ⟨ok, h_ok⟩ : ∃ bb_, bb_ = (shortM k).isSome := ⟨_, rfl⟩
  have H_ok := Lib.hid h_ok
  clear h_ok
  have tn_ok : (ok != ok) = false := by cases ok <;> rfl
  have tn_st : (st.toList != st.toList) = false := by simp
  have Hst := Lib.hid (show st.size ≤ 16 from by rw [H_st.out]; exact txt_short)
  have HQ := Lib.hid (impl_ShortestSync_c Hk.out)
  rw [← H_st.out] at HQ
  rw [← H_ok.out] at HQ
  go_wp2_with fail
  (with_reducible refine HQ.out.mono ?_)
  clear HQ
  rintro e w5 ⟨rfl, hb⟩
  replace HD := Lib.hid (BytR.frame _ _ _ _ HD.out hb)
  replace HDb := Lib.hid (Deb.frame HDb.out hb)
  replace Hl := Lib.hid (LabR.frame _ _ _ _ Hl.out hb)
  replace Hk := Lib.hid (LabR.frame _ _ _ _ Hk.out hb)
  replace cell_l0 := (hb.cell (p := ⟨w1.heap.size, 0, none⟩) mb_l).trans cell_l0
  replace cell_l1 := (hb.cell (p := ⟨w1.heap.size, 1, none⟩) mb_l).trans cell_l1
  replace cell_l2 := (hb.cell (p := ⟨w1.heap.size, 2, none⟩) mb_l).trans cell_l2
  replace mb_l := Nat.lt_of_lt_of_le mb_l hb.size
  replace cell_k0 := (hb.cell (p := ⟨w3.heap.size, 0, none⟩) mb_k).trans cell_k0
  replace cell_k1 := (hb.cell (p := ⟨w3.heap.size, 1, none⟩) mb_k).trans cell_k1
  replace cell_k2 := (hb.cell (p := ⟨w3.heap.size, 2, none⟩) mb_k).trans cell_k2
  replace mb_k := Nat.lt_of_lt_of_le mb_k hb.size
  replace HB := Lib.hid (HB.out.trans (hb.mono HB.out.size))
  clear hb
  clear eb_k
  have HQ := Lib.hid (spec_ShortestSync_c Hk.out)
  rw [← H_st.out] at HQ
  rw [← H_ok.out] at HQ
  go_wp2_with fail
  (with_reducible refine HQ.out.mono ?_)
  clear HQ
  rintro e w6 ⟨rfl, hb⟩
  replace HD := Lib.hid (BytR.frame _ _ _ _ HD.out hb)
  replace HDb := Lib.hid (Deb.frame HDb.out hb)
  replace Hl := Lib.hid (LabR.frame _ _ _ _ Hl.out hb)
  replace Hk := Lib.hid (LabR.frame _ _ _ _ Hk.out hb)
  replace cell_l0 := (hb.cell (p := ⟨w1.heap.size, 0, none⟩) mb_l).trans cell_l0
  replace cell_l1 := (hb.cell (p := ⟨w1.heap.size, 1, none⟩) mb_l).trans cell_l1
  replace cell_l2 := (hb.cell (p := ⟨w1.heap.size, 2, none⟩) mb_l).trans cell_l2
  replace mb_l := Nat.lt_of_lt_of_le mb_l hb.size
  replace cell_k0 := (hb.cell (p := ⟨w3.heap.size, 0, none⟩) mb_k).trans cell_k0
  replace cell_k1 := (hb.cell (p := ⟨w3.heap.size, 1, none⟩) mb_k).trans cell_k1
  replace cell_k2 := (hb.cell (p := ⟨w3.heap.size, 2, none⟩) mb_k).trans cell_k2
  replace mb_k := Nat.lt_of_lt_of_le mb_k hb.size
  replace HB := Lib.hid (HB.out.trans (hb.mono HB.out.size))
  clear hb
  have HQ := Lib.hid (DrawCountSync_c HD.out)
  go_wp2_with fail
  (with_reducible refine HQ.out.mono ?_)
  clear HQ
  rintro e w7 ⟨vc', c, pp, rfl, hn, hpn, hb⟩
  replace HD := Lib.hid (BytR.frame _ _ _ _ HD.out hb)
  replace HDb := Lib.hid (Deb.frame HDb.out hb)
  replace Hl := Lib.hid (LabR.frame _ _ _ _ Hl.out hb)
  replace Hk := Lib.hid (LabR.frame _ _ _ _ Hk.out hb)
  replace cell_l0 := (hb.cell (p := ⟨w1.heap.size, 0, none⟩) mb_l).trans cell_l0
  replace cell_l1 := (hb.cell (p := ⟨w1.heap.size, 1, none⟩) mb_l).trans cell_l1
  replace cell_l2 := (hb.cell (p := ⟨w1.heap.size, 2, none⟩) mb_l).trans cell_l2
  replace mb_l := Nat.lt_of_lt_of_le mb_l hb.size
  replace cell_k0 := (hb.cell (p := ⟨w3.heap.size, 0, none⟩) mb_k).trans cell_k0
  replace cell_k1 := (hb.cell (p := ⟨w3.heap.size, 1, none⟩) mb_k).trans cell_k1
  replace cell_k2 := (hb.cell (p := ⟨w3.heap.size, 2, none⟩) mb_k).trans cell_k2
  replace mb_k := Nat.lt_of_lt_of_le mb_k hb.size
  replace HB := Lib.hid (HB.out.trans (hb.mono HB.out.size))
  have Hpn := Lib.hid hpn
  have Hc := Lib.hid (New.lab hn)
  obtain ⟨_, hv, -, xa_c, xc_c, hv2, -⟩ := Hc.out
  subst hv2
  subst hv
  generalize hn_c : c.2.2.length = n_c at Hc ⊢
  have Hn_c := Lib.hid hn_c
  clear hn_c
  clear hn hb hpn
  obtain ⟨w8, eb_c, hb, cell_c0, cell_c1, cell_c2, mb_c⟩ := boxA3_ex w7 26 (.int .i64 c.1) (.int .i64 c.2.1) (.slice xa_c n_c xc_c)
  replace HD := Lib.hid (BytR.frame _ _ _ _ HD.out hb)
  replace HDb := Lib.hid (Deb.frame HDb.out hb)
  replace Hl := Lib.hid (LabR.frame _ _ _ _ Hl.out hb)
  replace Hk := Lib.hid (LabR.frame _ _ _ _ Hk.out hb)
  replace Hc := Lib.hid (LabR.frame _ _ _ _ Hc.out hb)
  replace cell_l0 := (hb.cell (p := ⟨w1.heap.size, 0, none⟩) mb_l).trans cell_l0
  replace cell_l1 := (hb.cell (p := ⟨w1.heap.size, 1, none⟩) mb_l).trans cell_l1
  replace cell_l2 := (hb.cell (p := ⟨w1.heap.size, 2, none⟩) mb_l).trans cell_l2
  replace mb_l := Nat.lt_of_lt_of_le mb_l hb.size
  replace cell_k0 := (hb.cell (p := ⟨w3.heap.size, 0, none⟩) mb_k).trans cell_k0
  replace cell_k1 := (hb.cell (p := ⟨w3.heap.size, 1, none⟩) mb_k).trans cell_k1
  replace cell_k2 := (hb.cell (p := ⟨w3.heap.size, 2, none⟩) mb_k).trans cell_k2
  replace mb_k := Nat.lt_of_lt_of_le mb_k hb.size
  replace HB := Lib.hid (HB.out.trans (hb.mono HB.out.size))
  clear hb
  have HQ := Lib.hid (DrawWordRank_c HD.out)
  go_wp2_with fail
  (with_reducible refine HQ.out.mono ?_)
  clear HQ
  rintro e w9 ⟨vr, r, t2, rfl, hn, hs, hb⟩
  replace HD := Lib.hid (BytR.frame _ _ _ _ HD.out hb)
  replace HDb := Lib.hid (Deb.frame HDb.out hb)
  replace Hl := Lib.hid (LabR.frame _ _ _ _ Hl.out hb)
  replace Hk := Lib.hid (LabR.frame _ _ _ _ Hk.out hb)
  replace Hc := Lib.hid (LabR.frame _ _ _ _ Hc.out hb)
  replace cell_l0 := (hb.cell (p := ⟨w1.heap.size, 0, none⟩) mb_l).trans cell_l0
  replace cell_l1 := (hb.cell (p := ⟨w1.heap.size, 1, none⟩) mb_l).trans cell_l1
  replace cell_l2 := (hb.cell (p := ⟨w1.heap.size, 2, none⟩) mb_l).trans cell_l2
  replace mb_l := Nat.lt_of_lt_of_le mb_l hb.size
  replace cell_k0 := (hb.cell (p := ⟨w3.heap.size, 0, none⟩) mb_k).trans cell_k0
  replace cell_k1 := (hb.cell (p := ⟨w3.heap.size, 1, none⟩) mb_k).trans cell_k1
  replace cell_k2 := (hb.cell (p := ⟨w3.heap.size, 2, none⟩) mb_k).trans cell_k2
  replace mb_k := Nat.lt_of_lt_of_le mb_k hb.size
  replace cell_c0 := (hb.cell (p := ⟨w7.heap.size, 0, none⟩) mb_c).trans cell_c0
  replace cell_c1 := (hb.cell (p := ⟨w7.heap.size, 1, none⟩) mb_c).trans cell_c1
  replace cell_c2 := (hb.cell (p := ⟨w7.heap.size, 2, none⟩) mb_c).trans cell_c2
  replace mb_c := Nat.lt_of_lt_of_le mb_c hb.size
  replace HB := Lib.hid (HB.out.trans (hb.mono HB.out.size))
  clear eb_c
  have Hr := Lib.hid (New.lab hn)
  obtain ⟨_, hv, -, xa_r, xc_r, hv2, -⟩ := Hr.out
  subst hv2
  subst hv
  generalize hn_r : r.2.2.length = n_r at Hr ⊢
  have Hn_r := Lib.hid hn_r
  clear hn_r
  have Ht2 := Lib.hid hs
  clear hn hs hb
  obtain ⟨w10, eb_r, hb, cell_r0, cell_r1, cell_r2, mb_r⟩ := boxA3_ex w9 26 (.int .i64 r.1) (.int .i64 r.2.1) (.slice xa_r n_r xc_r)
  replace HD := Lib.hid (BytR.frame _ _ _ _ HD.out hb)
  replace HDb := Lib.hid (Deb.frame HDb.out hb)
  replace Hl := Lib.hid (LabR.frame _ _ _ _ Hl.out hb)
  replace Hk := Lib.hid (LabR.frame _ _ _ _ Hk.out hb)
  replace Hc := Lib.hid (LabR.frame _ _ _ _ Hc.out hb)
  replace Hr := Lib.hid (LabR.frame _ _ _ _ Hr.out hb)
  replace cell_l0 := (hb.cell (p := ⟨w1.heap.size, 0, none⟩) mb_l).trans cell_l0
  replace cell_l1 := (hb.cell (p := ⟨w1.heap.size, 1, none⟩) mb_l).trans cell_l1
  replace cell_l2 := (hb.cell (p := ⟨w1.heap.size, 2, none⟩) mb_l).trans cell_l2
  replace mb_l := Nat.lt_of_lt_of_le mb_l hb.size
  replace cell_k0 := (hb.cell (p := ⟨w3.heap.size, 0, none⟩) mb_k).trans cell_k0
  replace cell_k1 := (hb.cell (p := ⟨w3.heap.size, 1, none⟩) mb_k).trans cell_k1
  replace cell_k2 := (hb.cell (p := ⟨w3.heap.size, 2, none⟩) mb_k).trans cell_k2
  replace mb_k := Nat.lt_of_lt_of_le mb_k hb.size
  replace cell_c0 := (hb.cell (p := ⟨w7.heap.size, 0, none⟩) mb_c).trans cell_c0
  replace cell_c1 := (hb.cell (p := ⟨w7.heap.size, 1, none⟩) mb_c).trans cell_c1
  replace cell_c2 := (hb.cell (p := ⟨w7.heap.size, 2, none⟩) mb_c).trans cell_c2
  replace mb_c := Nat.lt_of_lt_of_le mb_c hb.size
  replace HB := Lib.hid (HB.out.trans (hb.mono HB.out.size))
  clear hb
  have HQ := Lib.hid (DrawLeastRank_c HD.out)
  go_wp2_with fail
  (with_reducible refine HQ.out.mono ?_)
  clear HQ
  rintro e w11 ⟨vm, m, rfl, hn, hb⟩
  replace HD := Lib.hid (BytR.frame _ _ _ _ HD.out hb)
  replace HDb := Lib.hid (Deb.frame HDb.out hb)
  replace Hl := Lib.hid (LabR.frame _ _ _ _ Hl.out hb)
  replace Hk := Lib.hid (LabR.frame _ _ _ _ Hk.out hb)
  replace Hc := Lib.hid (LabR.frame _ _ _ _ Hc.out hb)
  replace Hr := Lib.hid (LabR.frame _ _ _ _ Hr.out hb)
  replace cell_l0 := (hb.cell (p := ⟨w1.heap.size, 0, none⟩) mb_l).trans cell_l0
  replace cell_l1 := (hb.cell (p := ⟨w1.heap.size, 1, none⟩) mb_l).trans cell_l1
  replace cell_l2 := (hb.cell (p := ⟨w1.heap.size, 2, none⟩) mb_l).trans cell_l2
  replace mb_l := Nat.lt_of_lt_of_le mb_l hb.size
  replace cell_k0 := (hb.cell (p := ⟨w3.heap.size, 0, none⟩) mb_k).trans cell_k0
  replace cell_k1 := (hb.cell (p := ⟨w3.heap.size, 1, none⟩) mb_k).trans cell_k1
  replace cell_k2 := (hb.cell (p := ⟨w3.heap.size, 2, none⟩) mb_k).trans cell_k2
  replace mb_k := Nat.lt_of_lt_of_le mb_k hb.size
  replace cell_c0 := (hb.cell (p := ⟨w7.heap.size, 0, none⟩) mb_c).trans cell_c0
  replace cell_c1 := (hb.cell (p := ⟨w7.heap.size, 1, none⟩) mb_c).trans cell_c1
  replace cell_c2 := (hb.cell (p := ⟨w7.heap.size, 2, none⟩) mb_c).trans cell_c2
  replace mb_c := Nat.lt_of_lt_of_le mb_c hb.size
  replace cell_r0 := (hb.cell (p := ⟨w9.heap.size, 0, none⟩) mb_r).trans cell_r0
  replace cell_r1 := (hb.cell (p := ⟨w9.heap.size, 1, none⟩) mb_r).trans cell_r1
  replace cell_r2 := (hb.cell (p := ⟨w9.heap.size, 2, none⟩) mb_r).trans cell_r2
  replace mb_r := Nat.lt_of_lt_of_le mb_r hb.size
  replace HB := Lib.hid (HB.out.trans (hb.mono HB.out.size))
  clear eb_r
  have Hm := Lib.hid (New.lab hn)
  obtain ⟨_, hv, -, xa_m, xc_m, hv2, -⟩ := Hm.out
  subst hv2
  subst hv
  generalize hn_m : m.2.2.length = n_m at Hm ⊢
  have Hn_m := Lib.hid hn_m
  clear hn_m
  clear hn hb
  obtain ⟨w12, eb_m, hb, cell_m0, cell_m1, cell_m2, mb_m⟩ := boxA3_ex w11 26 (.int .i64 m.1) (.int .i64 m.2.1) (.slice xa_m n_m xc_m)
  replace HD := Lib.hid (BytR.frame _ _ _ _ HD.out hb)
  replace HDb := Lib.hid (Deb.frame HDb.out hb)
  replace Hl := Lib.hid (LabR.frame _ _ _ _ Hl.out hb)
  replace Hk := Lib.hid (LabR.frame _ _ _ _ Hk.out hb)
  replace Hc := Lib.hid (LabR.frame _ _ _ _ Hc.out hb)
  replace Hr := Lib.hid (LabR.frame _ _ _ _ Hr.out hb)
  replace Hm := Lib.hid (LabR.frame _ _ _ _ Hm.out hb)
  replace cell_l0 := (hb.cell (p := ⟨w1.heap.size, 0, none⟩) mb_l).trans cell_l0
  replace cell_l1 := (hb.cell (p := ⟨w1.heap.size, 1, none⟩) mb_l).trans cell_l1
  replace cell_l2 := (hb.cell (p := ⟨w1.heap.size, 2, none⟩) mb_l).trans cell_l2
  replace mb_l := Nat.lt_of_lt_of_le mb_l hb.size
  replace cell_k0 := (hb.cell (p := ⟨w3.heap.size, 0, none⟩) mb_k).trans cell_k0
  replace cell_k1 := (hb.cell (p := ⟨w3.heap.size, 1, none⟩) mb_k).trans cell_k1
  replace cell_k2 := (hb.cell (p := ⟨w3.heap.size, 2, none⟩) mb_k).trans cell_k2
  replace mb_k := Nat.lt_of_lt_of_le mb_k hb.size
  replace cell_c0 := (hb.cell (p := ⟨w7.heap.size, 0, none⟩) mb_c).trans cell_c0
  replace cell_c1 := (hb.cell (p := ⟨w7.heap.size, 1, none⟩) mb_c).trans cell_c1
  replace cell_c2 := (hb.cell (p := ⟨w7.heap.size, 2, none⟩) mb_c).trans cell_c2
  replace mb_c := Nat.lt_of_lt_of_le mb_c hb.size
  replace cell_r0 := (hb.cell (p := ⟨w9.heap.size, 0, none⟩) mb_r).trans cell_r0
  replace cell_r1 := (hb.cell (p := ⟨w9.heap.size, 1, none⟩) mb_r).trans cell_r1
  replace cell_r2 := (hb.cell (p := ⟨w9.heap.size, 2, none⟩) mb_r).trans cell_r2
  replace mb_r := Nat.lt_of_lt_of_le mb_r hb.size
  replace HB := Lib.hid (HB.out.trans (hb.mono HB.out.size))
  clear hb
  clear HD
  obtain ⟨q1, h_q1⟩ : ∃ bb_, bb_ = decide (rankM l t1 = 1) := ⟨_, rfl⟩
  have H_q1 := Lib.hid h_q1
  clear h_q1
  have tn_q1 : (q1 != q1) = false := by cases q1 <;> rfl
  obtain ⟨R1, h_R1⟩ : ∃ bb_, bb_ = rankM l t1 := ⟨_, rfl⟩
  have H_R1 := Lib.hid h_R1
  clear h_R1
  obtain ⟨Y1, h_Y1⟩ : ∃ bb_, bb_ = syncM l t1 := ⟨_, rfl⟩
  have H_Y1 := Lib.hid h_Y1
  clear h_Y1
  obtain ⟨C1, h_C1⟩ : ∃ bb_, bb_ = countM c pp := ⟨_, rfl⟩
  have H_C1 := Lib.hid h_C1
  clear h_C1
  obtain ⟨R2, h_R2⟩ : ∃ bb_, bb_ = rankM r t2 := ⟨_, rfl⟩
  have H_R2 := Lib.hid h_R2
  clear h_R2
  obtain ⟨L1, h_L1⟩ : ∃ bb_, bb_ = leastRM m := ⟨_, rfl⟩
  have H_L1 := Lib.hid h_L1
  clear h_L1
  have tn_Y1 : (Y1 != Y1) = false := by simp
  have tn_C1 : (C1 != C1) = false := by simp
  have tn_R2 : (R2 != R2) = false := by simp
  have tn_L1 : (L1 != L1) = false := by simp
  go_upto_region 10 with fail
  go_cut [99] (fun sB0 wx => sB0 = .bool false ∧ Hid (Below w.heap.size w wx) ∧ Hid (LabR wx (.agg #[.int .i64 l.1, .int .i64 l.2.1, .slice xa_l n_l xc_l]) l) ∧ wx.cell? ⟨w1.heap.size, 0, none⟩ = some (.int .i64 l.1) ∧ wx.cell? ⟨w1.heap.size, 1, none⟩ = some (.int .i64 l.2.1) ∧ wx.cell? ⟨w1.heap.size, 2, none⟩ = some (.slice xa_l n_l xc_l) ∧ w1.heap.size < wx.heap.size ∧ Hid (LabR wx (.agg #[.int .i64 k.1, .int .i64 k.2.1, .slice xa_k n_k xc_k]) k) ∧ wx.cell? ⟨w3.heap.size, 0, none⟩ = some (.int .i64 k.1) ∧ wx.cell? ⟨w3.heap.size, 1, none⟩ = some (.int .i64 k.2.1) ∧ wx.cell? ⟨w3.heap.size, 2, none⟩ = some (.slice xa_k n_k xc_k) ∧ w3.heap.size < wx.heap.size ∧ Hid (LabR wx (.agg #[.int .i64 r.1, .int .i64 r.2.1, .slice xa_r n_r xc_r]) r) ∧ wx.cell? ⟨w9.heap.size, 0, none⟩ = some (.int .i64 r.1) ∧ wx.cell? ⟨w9.heap.size, 1, none⟩ = some (.int .i64 r.2.1) ∧ wx.cell? ⟨w9.heap.size, 2, none⟩ = some (.slice xa_r n_r xc_r) ∧ w9.heap.size < wx.heap.size ∧ Hid (Deb wx))
  case first =>
    as_aux_lemma =>
      clear eb_m
      have K1 := Lib.hid (fun (w' : World) (hb : Below w12.heap.size w12 w') => impl_IsSynchronizing_c (LabR.frame _ _ _ _ Hl.out hb) (s := t1) (by unfold maxLen; have := Ht1.out; omega))
      rw [← H_q1.out] at K1
      have K2 := Lib.hid (fun (w' : World) (hb : Below w12.heap.size w12 w') => spec_IsSynchronizing_c (LabR.frame _ _ _ _ Hl.out hb) (s := t1) (by unfold maxLen; have := Ht1.out; omega))
      rw [← H_q1.out] at K2
      have K3 := Lib.hid (fun (w' : World) (hb : Below w12.heap.size w12 w') => impl_CountSync_c (m := pp) (LabR.frame _ _ _ _ Hc.out hb) (show I64 pp from by have := Hpn.out; unfold I64; omega))
      rw [← H_C1.out] at K3
      have K4 := Lib.hid (fun (w' : World) (hb : Below w12.heap.size w12 w') => spec_CountSync_c (m := pp) (LabR.frame _ _ _ _ Hc.out hb) (show I64 pp from by have := Hpn.out; unfold I64; omega))
      rw [← H_C1.out] at K4
      have K5 := Lib.hid (fun (w' : World) (hb : Below w12.heap.size w12 w') => impl_WordRank_c (LabR.frame _ _ _ _ Hr.out hb) (s := t2) (by unfold maxLen; have := Ht2.out; omega))
      rw [← H_R2.out] at K5
      have K6 := Lib.hid (fun (w' : World) (hb : Below w12.heap.size w12 w') => spec_WordRank_c (LabR.frame _ _ _ _ Hr.out hb) (s := t2) (by unfold maxLen; have := Ht2.out; omega))
      rw [← H_R2.out] at K6
      have K7 := Lib.hid (fun (w' : World) (hb : Below w12.heap.size w12 w') => impl_LeastRank_c (LabR.frame _ _ _ _ Hm.out hb))
      rw [← H_L1.out] at K7
      have K8 := Lib.hid (fun (w' : World) (hb : Below w12.heap.size w12 w') => spec_LeastRank_c (LabR.frame _ _ _ _ Hm.out hb))
      rw [← H_L1.out] at K8
      have K9 := Lib.hid (fun (w' : World) (hb : Below w12.heap.size w12 w') => impl_SyncState_c (LabR.frame _ _ _ _ Hl.out hb) (s := t1) (by unfold maxLen; have := Ht1.out; omega) (Deb.frame HDb.out hb))
      rw [← H_Y1.out] at K9
      have K10 := Lib.hid (fun (w' : World) (hb : Below w12.heap.size w12 w') => spec_SyncState_c (LabR.frame _ _ _ _ Hl.out hb) (s := t1) (by unfold maxLen; have := Ht1.out; omega))
      rw [← H_Y1.out] at K10
      have HSS := Lib.hid (fun (w' : World) (hb : Below w12.heap.size w12 w') => (show w'.cell? ⟨w1.heap.size, 0, none⟩ = some (.int .i64 l.1) ∧ w'.cell? ⟨w1.heap.size, 1, none⟩ = some (.int .i64 l.2.1) ∧ w'.cell? ⟨w1.heap.size, 2, none⟩ = some (.slice xa_l n_l xc_l) ∧ w'.cell? ⟨w7.heap.size, 0, none⟩ = some (.int .i64 c.1) ∧ w'.cell? ⟨w7.heap.size, 1, none⟩ = some (.int .i64 c.2.1) ∧ w'.cell? ⟨w7.heap.size, 2, none⟩ = some (.slice xa_c n_c xc_c) ∧ w'.cell? ⟨w9.heap.size, 0, none⟩ = some (.int .i64 r.1) ∧ w'.cell? ⟨w9.heap.size, 1, none⟩ = some (.int .i64 r.2.1) ∧ w'.cell? ⟨w9.heap.size, 2, none⟩ = some (.slice xa_r n_r xc_r) ∧ w'.cell? ⟨w11.heap.size, 0, none⟩ = some (.int .i64 m.1) ∧ w'.cell? ⟨w11.heap.size, 1, none⟩ = some (.int .i64 m.2.1) ∧ w'.cell? ⟨w11.heap.size, 2, none⟩ = some (.slice xa_m n_m xc_m) from ⟨(hb.cell (p := ⟨w1.heap.size, 0, none⟩) mb_l).trans cell_l0, (hb.cell (p := ⟨w1.heap.size, 1, none⟩) mb_l).trans cell_l1, (hb.cell (p := ⟨w1.heap.size, 2, none⟩) mb_l).trans cell_l2, (hb.cell (p := ⟨w7.heap.size, 0, none⟩) mb_c).trans cell_c0, (hb.cell (p := ⟨w7.heap.size, 1, none⟩) mb_c).trans cell_c1, (hb.cell (p := ⟨w7.heap.size, 2, none⟩) mb_c).trans cell_c2, (hb.cell (p := ⟨w9.heap.size, 0, none⟩) mb_r).trans cell_r0, (hb.cell (p := ⟨w9.heap.size, 1, none⟩) mb_r).trans cell_r1, (hb.cell (p := ⟨w9.heap.size, 2, none⟩) mb_r).trans cell_r2, (hb.cell (p := ⟨w11.heap.size, 0, none⟩) mb_m).trans cell_m0, (hb.cell (p := ⟨w11.heap.size, 1, none⟩) mb_m).trans cell_m1, (hb.cell (p := ⟨w11.heap.size, 2, none⟩) mb_m).trans cell_m2⟩))
      have hS0 := HSS.out _ (Below.refl _ _)
      have B1 := (Below.refl w12.heap.size w12).drew
      have hSd := HSS.out _ B1
      go_region_held3 (fun w' => w'.cell? ⟨w1.heap.size, 0, none⟩ = some (.int .i64 l.1) ∧ w'.cell? ⟨w1.heap.size, 1, none⟩ = some (.int .i64 l.2.1) ∧ w'.cell? ⟨w1.heap.size, 2, none⟩ = some (.slice xa_l n_l xc_l) ∧ w'.cell? ⟨w7.heap.size, 0, none⟩ = some (.int .i64 c.1) ∧ w'.cell? ⟨w7.heap.size, 1, none⟩ = some (.int .i64 c.2.1) ∧ w'.cell? ⟨w7.heap.size, 2, none⟩ = some (.slice xa_c n_c xc_c) ∧ w'.cell? ⟨w9.heap.size, 0, none⟩ = some (.int .i64 r.1) ∧ w'.cell? ⟨w9.heap.size, 1, none⟩ = some (.int .i64 r.2.1) ∧ w'.cell? ⟨w9.heap.size, 2, none⟩ = some (.slice xa_r n_r xc_r) ∧ w'.cell? ⟨w11.heap.size, 0, none⟩ = some (.int .i64 m.1) ∧ w'.cell? ⟨w11.heap.size, 1, none⟩ = some (.int .i64 m.2.1) ∧ w'.cell? ⟨w11.heap.size, 2, none⟩ = some (.slice xa_m n_m xc_m))
        (first | with_reducible exact hS11 | with_reducible exact hS10 | with_reducible exact hS9 | with_reducible exact hS8 | with_reducible exact hS7 | with_reducible exact hS6 | with_reducible exact hS5 | with_reducible exact hS4 | with_reducible exact hS3 | with_reducible exact hS2 | with_reducible exact hSd | with_reducible exact hS0 | go_keep)
        ((first
          | (go_at_call 12; (have HQ := K1.out _ B1; (with_reducible refine HQ.mono ?_); clear HQ; rintro e u1 ⟨rfl, q1⟩; have B2 := B1.trans (q1.mono B1.size); have hS2 := HSS.out _ B2))
          | (go_at_call 13; (have HQ := K2.out _ B2; (with_reducible refine HQ.mono ?_); clear HQ; rintro e u2 ⟨rfl, q2⟩; have B3 := B2.trans (q2.mono B2.size); have hS3 := HSS.out _ B3))
          | (go_at_call 14; (have HQ := K3.out _ B3; (with_reducible refine HQ.mono ?_); clear HQ; rintro e u3 ⟨rfl, q3⟩; have B4 := B3.trans (q3.mono B3.size); have hS4 := HSS.out _ B4))
          | (go_at_call 15; (have HQ := K4.out _ B4; (with_reducible refine HQ.mono ?_); clear HQ; rintro e u4 ⟨rfl, q4⟩; have B5 := B4.trans (q4.mono B4.size); have hS5 := HSS.out _ B5))
          | (go_at_call 16; (have HQ := K5.out _ B5; (with_reducible refine HQ.mono ?_); clear HQ; rintro e u5 ⟨rfl, q5⟩; have B6 := B5.trans (q5.mono B5.size); have hS6 := HSS.out _ B6))
          | (go_at_call 17; (have HQ := K6.out _ B6; (with_reducible refine HQ.mono ?_); clear HQ; rintro e u6 ⟨rfl, q6⟩; have B7 := B6.trans (q6.mono B6.size); have hS7 := HSS.out _ B7))
          | (go_at_call 18; (have HQ := K7.out _ B7; (with_reducible refine HQ.mono ?_); clear HQ; rintro e u7 ⟨rfl, q7⟩; have B8 := B7.trans (q7.mono B7.size); have hS8 := HSS.out _ B8))
          | (go_at_call 19; (have HQ := K8.out _ B8; (with_reducible refine HQ.mono ?_); clear HQ; rintro e u8 ⟨rfl, q8⟩; have B9 := B8.trans (q8.mono B8.size); have hS9 := HSS.out _ B9))
          | (go_at_call 20; (have HQ := K9.out _ B9; (with_reducible refine HQ.mono ?_); clear HQ; rintro e u9 ⟨rfl, q9⟩; have B10 := B9.trans (q9.mono B9.size); have hS10 := HSS.out _ B10))
          | (go_at_call 21; (have HQ := K10.out _ B10; (with_reducible refine HQ.mono ?_); clear HQ; rintro e u10 ⟨rfl, q10⟩; have B11 := B10.trans (q10.mono B10.size); have hS11 := HSS.out _ B11))
          | fail))
      replace HDb := Lib.hid (Deb.frame HDb.out B11)
      replace Hl := Lib.hid (LabR.frame _ _ _ _ Hl.out B11)
      replace Hk := Lib.hid (LabR.frame _ _ _ _ Hk.out B11)
      replace Hc := Lib.hid (LabR.frame _ _ _ _ Hc.out B11)
      replace Hr := Lib.hid (LabR.frame _ _ _ _ Hr.out B11)
      replace Hm := Lib.hid (LabR.frame _ _ _ _ Hm.out B11)
      replace cell_l0 := (B11.cell (p := ⟨w1.heap.size, 0, none⟩) mb_l).trans cell_l0
      replace cell_l1 := (B11.cell (p := ⟨w1.heap.size, 1, none⟩) mb_l).trans cell_l1
      replace cell_l2 := (B11.cell (p := ⟨w1.heap.size, 2, none⟩) mb_l).trans cell_l2
      replace mb_l := Nat.lt_of_lt_of_le mb_l B11.size
      replace cell_k0 := (B11.cell (p := ⟨w3.heap.size, 0, none⟩) mb_k).trans cell_k0
      replace cell_k1 := (B11.cell (p := ⟨w3.heap.size, 1, none⟩) mb_k).trans cell_k1
      replace cell_k2 := (B11.cell (p := ⟨w3.heap.size, 2, none⟩) mb_k).trans cell_k2
      replace mb_k := Nat.lt_of_lt_of_le mb_k B11.size
      replace cell_c0 := (B11.cell (p := ⟨w7.heap.size, 0, none⟩) mb_c).trans cell_c0
      replace cell_c1 := (B11.cell (p := ⟨w7.heap.size, 1, none⟩) mb_c).trans cell_c1
      replace cell_c2 := (B11.cell (p := ⟨w7.heap.size, 2, none⟩) mb_c).trans cell_c2
      replace mb_c := Nat.lt_of_lt_of_le mb_c B11.size
      replace cell_r0 := (B11.cell (p := ⟨w9.heap.size, 0, none⟩) mb_r).trans cell_r0
      replace cell_r1 := (B11.cell (p := ⟨w9.heap.size, 1, none⟩) mb_r).trans cell_r1
      replace cell_r2 := (B11.cell (p := ⟨w9.heap.size, 2, none⟩) mb_r).trans cell_r2
      replace mb_r := Nat.lt_of_lt_of_le mb_r B11.size
      replace cell_m0 := (B11.cell (p := ⟨w11.heap.size, 0, none⟩) mb_m).trans cell_m0
      replace cell_m1 := (B11.cell (p := ⟨w11.heap.size, 1, none⟩) mb_m).trans cell_m1
      replace cell_m2 := (B11.cell (p := ⟨w11.heap.size, 2, none⟩) mb_m).trans cell_m2
      replace mb_m := Nat.lt_of_lt_of_le mb_m B11.size
      replace HB := Lib.hid (HB.out.trans (B11.mono HB.out.size))
      go_wp2_with fail
      go_meet
      case rel => exact ⟨rfl, HB, Hl, cell_l0, cell_l1, cell_l2, mb_l, Hk, cell_k0, cell_k1, cell_k2, mb_k, Hr, cell_r0, cell_r1, cell_r2, mb_r, HDb⟩
  case rest =>
    as_aux_lemma =>
      clear HDb
      clear Hl
      clear Hk
      clear Hc
      clear Hr
      clear Hm
      clear cell_l0 cell_l1 cell_l2 mb_l
      clear cell_k0 cell_k1 cell_k2 mb_k
      clear cell_c0 cell_c1 cell_c2 mb_c
      clear cell_r0 cell_r1 cell_r2 mb_r
      clear cell_m0 cell_m1 cell_m2 mb_m
      clear HB
      obtain ⟨rfl, HB, Hl, cell_l0, cell_l1, cell_l2, mb_l, Hk, cell_k0, cell_k1, cell_k2, mb_k, Hr, cell_r0, cell_r1, cell_r2, mb_r, HDb⟩ := hcut
      obtain ⟨w13, rfl⟩ : ∃ x, x = wc := ⟨_, rfl⟩
      go_upto_region 12 with fail
      go_cut [117] (fun sB0 wx => sB0 = .bool false ∧ Hid (Below w.heap.size w wx) ∧ Hid (LabR wx (.agg #[.int .i64 k.1, .int .i64 k.2.1, .slice xa_k n_k xc_k]) k) ∧ wx.cell? ⟨w3.heap.size, 0, none⟩ = some (.int .i64 k.1) ∧ wx.cell? ⟨w3.heap.size, 1, none⟩ = some (.int .i64 k.2.1) ∧ wx.cell? ⟨w3.heap.size, 2, none⟩ = some (.slice xa_k n_k xc_k) ∧ w3.heap.size < wx.heap.size ∧ Hid (LabR wx (.agg #[.int .i64 r.1, .int .i64 r.2.1, .slice xa_r n_r xc_r]) r) ∧ wx.cell? ⟨w9.heap.size, 0, none⟩ = some (.int .i64 r.1) ∧ wx.cell? ⟨w9.heap.size, 1, none⟩ = some (.int .i64 r.2.1) ∧ wx.cell? ⟨w9.heap.size, 2, none⟩ = some (.slice xa_r n_r xc_r) ∧ w9.heap.size < wx.heap.size)
      case first =>
        as_aux_lemma =>
          have hy1 : (R1 == 1) = q1 := by rw [H_q1.out, H_R1.out, Bool.eq_iff_iff]; simp
          have hy2 : decide (0 ≤ Y1) = q1 := by rw [H_q1.out, H_Y1.out]; exact (rank_sync l t1).symm
          have K1 := Lib.hid (fun (w' : World) (hb : Below w13.heap.size w13 w') => impl_IsSynchronizing_c (LabR.frame _ _ _ _ Hl.out hb) (s := t1) (by unfold maxLen; have := Ht1.out; omega))
          rw [← H_q1.out] at K1
          have K2 := Lib.hid (fun (w' : World) (hb : Below w13.heap.size w13 w') => impl_WordRank_c (LabR.frame _ _ _ _ Hl.out hb) (s := t1) (by unfold maxLen; have := Ht1.out; omega))
          rw [← H_R1.out] at K2
          have K3 := Lib.hid (fun (w' : World) (hb : Below w13.heap.size w13 w') => impl_SyncState_c (LabR.frame _ _ _ _ Hl.out hb) (s := t1) (by unfold maxLen; have := Ht1.out; omega) (Deb.frame HDb.out hb))
          rw [← H_Y1.out] at K3
          have HSS := Lib.hid (fun (w' : World) (hb : Below w13.heap.size w13 w') => (show w'.cell? ⟨w1.heap.size, 0, none⟩ = some (.int .i64 l.1) ∧ w'.cell? ⟨w1.heap.size, 1, none⟩ = some (.int .i64 l.2.1) ∧ w'.cell? ⟨w1.heap.size, 2, none⟩ = some (.slice xa_l n_l xc_l) from ⟨(hb.cell (p := ⟨w1.heap.size, 0, none⟩) mb_l).trans cell_l0, (hb.cell (p := ⟨w1.heap.size, 1, none⟩) mb_l).trans cell_l1, (hb.cell (p := ⟨w1.heap.size, 2, none⟩) mb_l).trans cell_l2⟩))
          have hS0 := HSS.out _ (Below.refl _ _)
          have B1 := (Below.refl w13.heap.size w13).drew
          have hSd := HSS.out _ B1
          go_region_held3 (fun w' => w'.cell? ⟨w1.heap.size, 0, none⟩ = some (.int .i64 l.1) ∧ w'.cell? ⟨w1.heap.size, 1, none⟩ = some (.int .i64 l.2.1) ∧ w'.cell? ⟨w1.heap.size, 2, none⟩ = some (.slice xa_l n_l xc_l))
            (first | with_reducible exact hS5 | with_reducible exact hS4 | with_reducible exact hS3 | with_reducible exact hS2 | with_reducible exact hSd | with_reducible exact hS0 | go_keep)
            ((first
              | (go_at_call 12; (first | (have HQ := K1.out _ B1; (with_reducible refine HQ.mono ?_); clear HQ; rintro e u1 ⟨rfl, q1⟩; have B2 := B1.trans (q1.mono B1.size); have hS2 := HSS.out _ B2) | (have HQ := K1.out _ B3; (with_reducible refine HQ.mono ?_); clear HQ; rintro e u3 ⟨rfl, q3⟩; have B4 := B3.trans (q3.mono B3.size); have hS4 := HSS.out _ B4)))
              | (go_at_call 16; (have HQ := K2.out _ B2; (with_reducible refine HQ.mono ?_); clear HQ; rintro e u2 ⟨rfl, q2⟩; have B3 := B2.trans (q2.mono B2.size); have hS3 := HSS.out _ B3))
              | (go_at_call 20; (have HQ := K3.out _ B4; (with_reducible refine HQ.mono ?_); clear HQ; rintro e u4 ⟨rfl, q4⟩; have B5 := B4.trans (q4.mono B4.size); have hS5 := HSS.out _ B5))
              | fail))
          replace Hl := Lib.hid (LabR.frame _ _ _ _ Hl.out B5)
          replace Hk := Lib.hid (LabR.frame _ _ _ _ Hk.out B5)
          replace Hr := Lib.hid (LabR.frame _ _ _ _ Hr.out B5)
          replace HDb := Lib.hid (Deb.frame HDb.out B5)
          replace cell_l0 := (B5.cell (p := ⟨w1.heap.size, 0, none⟩) mb_l).trans cell_l0
          replace cell_l1 := (B5.cell (p := ⟨w1.heap.size, 1, none⟩) mb_l).trans cell_l1
          replace cell_l2 := (B5.cell (p := ⟨w1.heap.size, 2, none⟩) mb_l).trans cell_l2
          replace mb_l := Nat.lt_of_lt_of_le mb_l B5.size
          replace cell_k0 := (B5.cell (p := ⟨w3.heap.size, 0, none⟩) mb_k).trans cell_k0
          replace cell_k1 := (B5.cell (p := ⟨w3.heap.size, 1, none⟩) mb_k).trans cell_k1
          replace cell_k2 := (B5.cell (p := ⟨w3.heap.size, 2, none⟩) mb_k).trans cell_k2
          replace mb_k := Nat.lt_of_lt_of_le mb_k B5.size
          replace cell_r0 := (B5.cell (p := ⟨w9.heap.size, 0, none⟩) mb_r).trans cell_r0
          replace cell_r1 := (B5.cell (p := ⟨w9.heap.size, 1, none⟩) mb_r).trans cell_r1
          replace cell_r2 := (B5.cell (p := ⟨w9.heap.size, 2, none⟩) mb_r).trans cell_r2
          replace mb_r := Nat.lt_of_lt_of_le mb_r B5.size
          replace HB := Lib.hid (HB.out.trans (B5.mono HB.out.size))
          go_wp2_with fail
          go_meet
          case rel => exact ⟨rfl, HB, Hk, cell_k0, cell_k1, cell_k2, mb_k, Hr, cell_r0, cell_r1, cell_r2, mb_r⟩
      case rest =>
        as_aux_lemma =>
          clear Hl
          clear Hk
          clear Hr
          clear HDb
          clear cell_l0 cell_l1 cell_l2 mb_l
          clear cell_k0 cell_k1 cell_k2 mb_k
          clear cell_r0 cell_r1 cell_r2 mb_r
          clear HB
          obtain ⟨rfl, HB, Hk, cell_k0, cell_k1, cell_k2, mb_k, Hr, cell_r0, cell_r1, cell_r2, mb_r⟩ := hcut
          obtain ⟨w14, rfl⟩ : ∃ x, x = wc := ⟨_, rfl⟩
          go_upto_region 14 with fail
          go_cut [152] (fun sB0 wx => sB0 = .bool false ∧ Hid (Below w.heap.size w wx) ∧ Hid (LabR wx (.agg #[.int .i64 k.1, .int .i64 k.2.1, .slice xa_k n_k xc_k]) k) ∧ wx.cell? ⟨w3.heap.size, 0, none⟩ = some (.int .i64 k.1) ∧ wx.cell? ⟨w3.heap.size, 1, none⟩ = some (.int .i64 k.2.1) ∧ wx.cell? ⟨w3.heap.size, 2, none⟩ = some (.slice xa_k n_k xc_k) ∧ w3.heap.size < wx.heap.size ∧ Hid (LabR wx (.agg #[.int .i64 r.1, .int .i64 r.2.1, .slice xa_r n_r xc_r]) r) ∧ wx.cell? ⟨w9.heap.size, 0, none⟩ = some (.int .i64 r.1) ∧ wx.cell? ⟨w9.heap.size, 1, none⟩ = some (.int .i64 r.2.1) ∧ wx.cell? ⟨w9.heap.size, 2, none⟩ = some (.slice xa_r n_r xc_r) ∧ w9.heap.size < wx.heap.size)
          case first =>
            as_aux_lemma =>
              cases ok with
              | false =>
                have Hnone := Lib.hid (show shortM k = none from by
                  cases e : shortM k with
                  | none => rfl
                  | some wd => have := H_ok.out; rw [e] at this; cases this)
                have hz1 : ((st.size : Int) == 0) = true := by rw [H_st.out, Hnone.out]; rfl
                obtain ⟨rv, h_rv⟩ : ∃ bb_, bb_ = resolvM k := ⟨_, rfl⟩
                have H_rv := Lib.hid h_rv
                clear h_rv
                obtain ⟨LK, h_LK⟩ : ∃ bb_, bb_ = leastRM k := ⟨_, rfl⟩
                have H_LK := Lib.hid h_LK
                clear h_LK
                cases rv with
                | false =>
                  have HQ := Lib.hid (spec_IsResolving_c Hk.out)
                  rw [← H_rv.out] at HQ
                  go_wp2_with fail
                  (with_reducible refine HQ.out.mono ?_)
                  clear HQ
                  rintro e w15 ⟨rfl, hb⟩
                  replace Hk := Lib.hid (LabR.frame _ _ _ _ Hk.out hb)
                  replace Hr := Lib.hid (LabR.frame _ _ _ _ Hr.out hb)
                  replace cell_k0 := (hb.cell (p := ⟨w3.heap.size, 0, none⟩) mb_k).trans cell_k0
                  replace cell_k1 := (hb.cell (p := ⟨w3.heap.size, 1, none⟩) mb_k).trans cell_k1
                  replace cell_k2 := (hb.cell (p := ⟨w3.heap.size, 2, none⟩) mb_k).trans cell_k2
                  replace mb_k := Nat.lt_of_lt_of_le mb_k hb.size
                  replace cell_r0 := (hb.cell (p := ⟨w9.heap.size, 0, none⟩) mb_r).trans cell_r0
                  replace cell_r1 := (hb.cell (p := ⟨w9.heap.size, 1, none⟩) mb_r).trans cell_r1
                  replace cell_r2 := (hb.cell (p := ⟨w9.heap.size, 2, none⟩) mb_r).trans cell_r2
                  replace mb_r := Nat.lt_of_lt_of_le mb_r hb.size
                  replace HB := Lib.hid (HB.out.trans (hb.mono HB.out.size))
                  clear hb
                  go_wp2_with fail
                  go_meet
                  case rel => exact ⟨rfl, HB, Hk, cell_k0, cell_k1, cell_k2, mb_k, Hr, cell_r0, cell_r1, cell_r2, mb_r⟩
                | true =>
                  have HN := Lib.hid (fun h4 => short_none H_rv.out.symm h4 Hnone.out)
                  have HQ := Lib.hid (spec_IsResolving_c Hk.out)
                  rw [← H_rv.out] at HQ
                  go_wp2_with fail
                  (with_reducible refine HQ.out.mono ?_)
                  clear HQ
                  rintro e w16 ⟨rfl, hb⟩
                  replace Hk := Lib.hid (LabR.frame _ _ _ _ Hk.out hb)
                  replace Hr := Lib.hid (LabR.frame _ _ _ _ Hr.out hb)
                  replace cell_k0 := (hb.cell (p := ⟨w3.heap.size, 0, none⟩) mb_k).trans cell_k0
                  replace cell_k1 := (hb.cell (p := ⟨w3.heap.size, 1, none⟩) mb_k).trans cell_k1
                  replace cell_k2 := (hb.cell (p := ⟨w3.heap.size, 2, none⟩) mb_k).trans cell_k2
                  replace mb_k := Nat.lt_of_lt_of_le mb_k hb.size
                  replace cell_r0 := (hb.cell (p := ⟨w9.heap.size, 0, none⟩) mb_r).trans cell_r0
                  replace cell_r1 := (hb.cell (p := ⟨w9.heap.size, 1, none⟩) mb_r).trans cell_r1
                  replace cell_r2 := (hb.cell (p := ⟨w9.heap.size, 2, none⟩) mb_r).trans cell_r2
                  replace mb_r := Nat.lt_of_lt_of_le mb_r hb.size
                  replace HB := Lib.hid (HB.out.trans (hb.mono HB.out.size))
                  clear hb
                  have HQ := Lib.hid (impl_LeastRank_c Hk.out)
                  rw [← H_LK.out] at HQ
                  go_wp2_with fail
                  (with_reducible refine HQ.out.mono ?_)
                  clear HQ
                  rintro e w17 ⟨rfl, hb⟩
                  replace Hk := Lib.hid (LabR.frame _ _ _ _ Hk.out hb)
                  replace Hr := Lib.hid (LabR.frame _ _ _ _ Hr.out hb)
                  replace cell_k0 := (hb.cell (p := ⟨w3.heap.size, 0, none⟩) mb_k).trans cell_k0
                  replace cell_k1 := (hb.cell (p := ⟨w3.heap.size, 1, none⟩) mb_k).trans cell_k1
                  replace cell_k2 := (hb.cell (p := ⟨w3.heap.size, 2, none⟩) mb_k).trans cell_k2
                  replace mb_k := Nat.lt_of_lt_of_le mb_k hb.size
                  replace cell_r0 := (hb.cell (p := ⟨w9.heap.size, 0, none⟩) mb_r).trans cell_r0
                  replace cell_r1 := (hb.cell (p := ⟨w9.heap.size, 1, none⟩) mb_r).trans cell_r1
                  replace cell_r2 := (hb.cell (p := ⟨w9.heap.size, 2, none⟩) mb_r).trans cell_r2
                  replace mb_r := Nat.lt_of_lt_of_le mb_r hb.size
                  replace HB := Lib.hid (HB.out.trans (hb.mono HB.out.size))
                  clear hb
                  by_cases hL : LK = 1
                  · have hL1 : (LK == 1) = true := by simp [hL]
                    have h4 : ¬ (k.2.1 ≤ 4) := fun h4 => HN.out h4 (by rw [← H_LK.out]; exact hL)
                    have h5 : decide (k.2.1 ≤ 4) = false := decide_eq_false h4
                    clear hL
                    go_wp2_with fail
                    go_meet
                    case rel => exact ⟨rfl, HB, Hk, cell_k0, cell_k1, cell_k2, mb_k, Hr, cell_r0, cell_r1, cell_r2, mb_r⟩
                  · have hL1 : (LK == 1) = false := by simpa using hL
                    clear hL
                    go_wp2_with fail
                    go_meet
                    case rel => exact ⟨rfl, HB, Hk, cell_k0, cell_k1, cell_k2, mb_k, Hr, cell_r0, cell_r1, cell_r2, mb_r⟩
              | true =>
                obtain ⟨wd, hwd⟩ : ∃ wd, shortM k = some wd := by
                  cases e : shortM k with
                  | none => have := H_ok.out; rw [e] at this; cases this
                  | some wd => exact ⟨wd, rfl⟩
                have Hwd := Lib.hid hwd
                have Hstw := Lib.hid (show st = wordT wd from by rw [H_st.out, hwd]; rfl)
                have Hrv := Lib.hid (short_resolv hwd)
                clear hwd
                have HJ1 := Lib.hid (show decide (rankM k st = 1) = true from by rw [Hstw.out]; exact decide_eq_true (short_rank Hwd.out))
                have HJ2 := Lib.hid (short_least Hwd.out)
                have HQ := Lib.hid (impl_IsSynchronizing_c Hk.out (s := st) (by unfold maxLen; have := Hst.out; omega))
                rw [HJ1.out] at HQ
                go_wp2_with fail
                (with_reducible refine HQ.out.mono ?_)
                clear HQ
                rintro e w18 ⟨rfl, hb⟩
                replace Hk := Lib.hid (LabR.frame _ _ _ _ Hk.out hb)
                replace Hr := Lib.hid (LabR.frame _ _ _ _ Hr.out hb)
                replace cell_k0 := (hb.cell (p := ⟨w3.heap.size, 0, none⟩) mb_k).trans cell_k0
                replace cell_k1 := (hb.cell (p := ⟨w3.heap.size, 1, none⟩) mb_k).trans cell_k1
                replace cell_k2 := (hb.cell (p := ⟨w3.heap.size, 2, none⟩) mb_k).trans cell_k2
                replace mb_k := Nat.lt_of_lt_of_le mb_k hb.size
                replace cell_r0 := (hb.cell (p := ⟨w9.heap.size, 0, none⟩) mb_r).trans cell_r0
                replace cell_r1 := (hb.cell (p := ⟨w9.heap.size, 1, none⟩) mb_r).trans cell_r1
                replace cell_r2 := (hb.cell (p := ⟨w9.heap.size, 2, none⟩) mb_r).trans cell_r2
                replace mb_r := Nat.lt_of_lt_of_le mb_r hb.size
                replace HB := Lib.hid (HB.out.trans (hb.mono HB.out.size))
                clear hb
                have HQ := Lib.hid (impl_LeastRank_c Hk.out)
                rw [HJ2.out] at HQ
                go_wp2_with fail
                (with_reducible refine HQ.out.mono ?_)
                clear HQ
                rintro e w19 ⟨rfl, hb⟩
                replace Hk := Lib.hid (LabR.frame _ _ _ _ Hk.out hb)
                replace Hr := Lib.hid (LabR.frame _ _ _ _ Hr.out hb)
                replace cell_k0 := (hb.cell (p := ⟨w3.heap.size, 0, none⟩) mb_k).trans cell_k0
                replace cell_k1 := (hb.cell (p := ⟨w3.heap.size, 1, none⟩) mb_k).trans cell_k1
                replace cell_k2 := (hb.cell (p := ⟨w3.heap.size, 2, none⟩) mb_k).trans cell_k2
                replace mb_k := Nat.lt_of_lt_of_le mb_k hb.size
                replace cell_r0 := (hb.cell (p := ⟨w9.heap.size, 0, none⟩) mb_r).trans cell_r0
                replace cell_r1 := (hb.cell (p := ⟨w9.heap.size, 1, none⟩) mb_r).trans cell_r1
                replace cell_r2 := (hb.cell (p := ⟨w9.heap.size, 2, none⟩) mb_r).trans cell_r2
                replace mb_r := Nat.lt_of_lt_of_le mb_r hb.size
                replace HB := Lib.hid (HB.out.trans (hb.mono HB.out.size))
                clear hb
                have HQ := Lib.hid (spec_IsResolving_c Hk.out)
                rw [Hrv.out] at HQ
                go_wp2_with fail
                (with_reducible refine HQ.out.mono ?_)
                clear HQ
                rintro e w20 ⟨rfl, hb⟩
                replace Hk := Lib.hid (LabR.frame _ _ _ _ Hk.out hb)
                replace Hr := Lib.hid (LabR.frame _ _ _ _ Hr.out hb)
                replace cell_k0 := (hb.cell (p := ⟨w3.heap.size, 0, none⟩) mb_k).trans cell_k0
                replace cell_k1 := (hb.cell (p := ⟨w3.heap.size, 1, none⟩) mb_k).trans cell_k1
                replace cell_k2 := (hb.cell (p := ⟨w3.heap.size, 2, none⟩) mb_k).trans cell_k2
                replace mb_k := Nat.lt_of_lt_of_le mb_k hb.size
                replace cell_r0 := (hb.cell (p := ⟨w9.heap.size, 0, none⟩) mb_r).trans cell_r0
                replace cell_r1 := (hb.cell (p := ⟨w9.heap.size, 1, none⟩) mb_r).trans cell_r1
                replace cell_r2 := (hb.cell (p := ⟨w9.heap.size, 2, none⟩) mb_r).trans cell_r2
                replace mb_r := Nat.lt_of_lt_of_le mb_r hb.size
                replace HB := Lib.hid (HB.out.trans (hb.mono HB.out.size))
                clear hb
                by_cases hz : st.size = 0
                · have hz1 : ((st.size : Int) == 0) = true := by simp [hz]
                  clear hz
                  go_wp2_with fail
                  go_meet
                  case rel => exact ⟨rfl, HB, Hk, cell_k0, cell_k1, cell_k2, mb_k, Hr, cell_r0, cell_r1, cell_r2, mb_r⟩
                · have hz1 : ((st.size : Int) == 0) = false := beq_eq_false_iff_ne.2 (fun h => hz (by omega))
                  clear hz
                  go_wp2_with fail
                  go_meet
                  case rel => exact ⟨rfl, HB, Hk, cell_k0, cell_k1, cell_k2, mb_k, Hr, cell_r0, cell_r1, cell_r2, mb_r⟩
          case rest =>
            as_aux_lemma =>
              clear Hk
              clear Hr
              clear cell_k0 cell_k1 cell_k2 mb_k
              clear cell_r0 cell_r1 cell_r2 mb_r
              clear HB
              obtain ⟨rfl, HB, Hk, cell_k0, cell_k1, cell_k2, mb_k, Hr, cell_r0, cell_r1, cell_r2, mb_r⟩ := hcut
              obtain ⟨w21, rfl⟩ : ∃ x, x = wc := ⟨_, rfl⟩
              go_upto_if 153 with fail
              go_cut [] (fun wx => Hid (Below w.heap.size w wx) ∧ Hid (LabR wx (.agg #[.int .i64 r.1, .int .i64 r.2.1, .slice xa_r n_r xc_r]) r) ∧ wx.cell? ⟨w9.heap.size, 0, none⟩ = some (.int .i64 r.1) ∧ wx.cell? ⟨w9.heap.size, 1, none⟩ = some (.int .i64 r.2.1) ∧ wx.cell? ⟨w9.heap.size, 2, none⟩ = some (.slice xa_r n_r xc_r) ∧ w9.heap.size < wx.heap.size)
              case first =>
                as_aux_lemma =>
                  cases ok with
                  | false =>
                    go_wp2_with fail
                    go_meet
                    case rel => exact ⟨HB, Hr, cell_r0, cell_r1, cell_r2, mb_r⟩
                  | true =>
                    obtain ⟨wd, hwd⟩ : ∃ wd, shortM k = some wd := by
                      cases e : shortM k with
                      | none => have := H_ok.out; rw [e] at this; cases this
                      | some wd => exact ⟨wd, rfl⟩
                    have Hwd := Lib.hid hwd
                    have Hstw := Lib.hid (show st = wordT wd from by rw [H_st.out, hwd]; rfl)
                    have Hrv := Lib.hid (short_resolv hwd)
                    clear hwd
                    have HCn := Lib.hid (fun (i : Nat) (h1 : i < st.size) (h2 : i ≤ 6) => short_count Hwd.out (i := i) (by rw [Hstw.out, wordT_size] at h1; exact h1) h2)
                    go_wp2
                    go_loopg [15] 7 (fun g iv wr => ∃ i : Nat, iv = .int .i64 i ∧ i + g = 7 ∧ Hid (Below w21.heap.size w21 wr))
                    case atStart => exact ⟨0, rfl, by omega, Lib.hid (Below.refl _ _)⟩
                    case round =>
                      obtain ⟨i, rfl, hi, HBl⟩ := hrel
                      obtain ⟨w22, rfl⟩ : ∃ x, x = wr := ⟨_, rfl⟩
                      have hbl := HBl.out
                      replace Hk := Lib.hid (LabR.frame _ _ _ _ Hk.out hbl)
                      replace Hr := Lib.hid (LabR.frame _ _ _ _ Hr.out hbl)
                      replace cell_k0 := (hbl.cell (p := ⟨w3.heap.size, 0, none⟩) mb_k).trans cell_k0
                      replace cell_k1 := (hbl.cell (p := ⟨w3.heap.size, 1, none⟩) mb_k).trans cell_k1
                      replace cell_k2 := (hbl.cell (p := ⟨w3.heap.size, 2, none⟩) mb_k).trans cell_k2
                      replace mb_k := Nat.lt_of_lt_of_le mb_k hbl.size
                      replace cell_r0 := (hbl.cell (p := ⟨w9.heap.size, 0, none⟩) mb_r).trans cell_r0
                      replace cell_r1 := (hbl.cell (p := ⟨w9.heap.size, 1, none⟩) mb_r).trans cell_r1
                      replace cell_r2 := (hbl.cell (p := ⟨w9.heap.size, 2, none⟩) mb_r).trans cell_r2
                      replace mb_r := Nat.lt_of_lt_of_le mb_r hbl.size
                      replace HB := Lib.hid (HB.out.trans (hbl.mono HB.out.size))
                      clear hbl
                      by_cases hi1 : i < st.size
                      · have hi1i : (i : Int) < (st.size : Int) := by omega
                        by_cases hi6 : i ≤ 6
                        · have hi6i : (i : Int) ≤ 6 := by omega
                          obtain ⟨g, rfl⟩ : ∃ y, gk = y + 1 := ⟨gk - 1, by omega⟩
                          have HJ := Lib.hid (HCn.out i hi1 hi6)
                          have Hst2 := Hst.out
                          have t0 : ((0 : Int) != 0) = false := rfl
                          have HBz := HBl
                          have HQ := Lib.hid (impl_CountSync_c (m := (i : Int)) Hk.out (show I64 (i : Int) from by unfold I64; omega))
                          rw [HJ.out] at HQ
                          go_wp2_with fail
                          (with_reducible refine HQ.out.mono ?_)
                          clear HQ
                          rintro e w23 ⟨rfl, hb⟩
                          replace HBz := Lib.hid (HBz.out.trans (hb.mono HBz.out.size))
                          clear hb
                          go_wp2_with fail
                          go_roundg g
                          case measure => omega
                          case rel => exact ⟨i + 1, by go_num, by omega, HBz⟩
                        · have hi6i : ¬ ((i : Int) ≤ 6) := by omega
                          go_wp2_with fail
                          clear HBl
                          obtain ⟨hL1, hL3⟩ : 1 ≤ k.1 ∧ k.1 ≤ 3 := by obtain ⟨-, -, -, h3, h4⟩ := resolv_facts Hrv.out; exact ⟨h3, h4⟩
                          obtain ⟨N, hN⟩ : ∃ N : Nat, k.1 = (N : Int) := ⟨k.1.toNat, by omega⟩
                          have HN := Lib.hid hN
                          have hN3 : N ≤ 3 := by omega
                          have HMr := Lib.hid (fun (x : Nat) (h1 : x < N) => short_more Hwd.out (x := x) (by rw [hN]; omega))
                          clear hL1 hL3 hN
                          go_loopg [16] N (fun g iv wr => ∃ x : Nat, iv = .int .i64 x ∧ x + g = N ∧ Hid (Below w22.heap.size w22 wr))
                          case atStart => exact ⟨0, rfl, by omega, Lib.hid (Below.refl _ _)⟩
                          case round =>
                            obtain ⟨x, rfl, hx, HBx⟩ := hrel
                            obtain ⟨w24, rfl⟩ : ∃ x, x = wr := ⟨_, rfl⟩
                            have hbl := HBx.out
                            replace Hk := Lib.hid (LabR.frame _ _ _ _ Hk.out hbl)
                            replace Hr := Lib.hid (LabR.frame _ _ _ _ Hr.out hbl)
                            replace cell_k0 := (hbl.cell (p := ⟨w3.heap.size, 0, none⟩) mb_k).trans cell_k0
                            replace cell_k1 := (hbl.cell (p := ⟨w3.heap.size, 1, none⟩) mb_k).trans cell_k1
                            replace cell_k2 := (hbl.cell (p := ⟨w3.heap.size, 2, none⟩) mb_k).trans cell_k2
                            replace mb_k := Nat.lt_of_lt_of_le mb_k hbl.size
                            replace cell_r0 := (hbl.cell (p := ⟨w9.heap.size, 0, none⟩) mb_r).trans cell_r0
                            replace cell_r1 := (hbl.cell (p := ⟨w9.heap.size, 1, none⟩) mb_r).trans cell_r1
                            replace cell_r2 := (hbl.cell (p := ⟨w9.heap.size, 2, none⟩) mb_r).trans cell_r2
                            replace mb_r := Nat.lt_of_lt_of_le mb_r hbl.size
                            replace HB := Lib.hid (HB.out.trans (hbl.mono HB.out.size))
                            clear hbl
                            by_cases hxN : x < N
                            · have hxNi : (x : Int) < k.1 := by have := HN.out; omega
                              have hx0 : (0 : Int) ≤ (x : Int) := by omega
                              obtain ⟨g, rfl⟩ : ∃ y, gk = y + 1 := ⟨gk - 1, by omega⟩
                              have habc := fun w => abc_slice (x := x) (by omega) w
                              have hsz : ¬ (9223372036854775807 < (wordT [x]).size + st.size) := by have := Hst.out; rw [wordT_size]; simp; omega
                              obtain ⟨mr, hmr⟩ : ∃ s, s = wordT [x] ++ st := ⟨_, rfl⟩
                              have Hmr := Lib.hid (show mr = wordT (x :: wd) from by rw [hmr, Hstw.out]; exact word_cons x wd)
                              have hmr' := hmr.symm
                              have Hmz := Lib.hid (show mr.size ≤ 17 from by rw [hmr, ByteArray.size_append, wordT_size]; have := Hst.out; simp; omega)
                              clear hmr
                              obtain ⟨RM, h_RM⟩ : ∃ bb_, bb_ = readsM k mr := ⟨_, rfl⟩
                              have H_RM := Lib.hid h_RM
                              clear h_RM
                              by_cases hm16 : mr.size ≤ 16
                              · have hm16i : (mr.size : Int) ≤ 16 := by omega
                                cases RM with
                                | false =>
                                  have HBz := HBx
                                  have HQ := Lib.hid (spec_ReadsWord_c Hk.out (s := mr) (by unfold maxLen; have := Hmz.out; omega))
                                  rw [← H_RM.out] at HQ
                                  go_wp2_with fail
                                  (with_reducible refine HQ.out.mono ?_)
                                  clear HQ
                                  rintro e w25 ⟨rfl, hb⟩
                                  replace HBz := Lib.hid (HBz.out.trans (hb.mono HBz.out.size))
                                  replace Hk := Lib.hid (LabR.frame _ _ _ _ Hk.out hb)
                                  replace Hr := Lib.hid (LabR.frame _ _ _ _ Hr.out hb)
                                  replace cell_k0 := (hb.cell (p := ⟨w3.heap.size, 0, none⟩) mb_k).trans cell_k0
                                  replace cell_k1 := (hb.cell (p := ⟨w3.heap.size, 1, none⟩) mb_k).trans cell_k1
                                  replace cell_k2 := (hb.cell (p := ⟨w3.heap.size, 2, none⟩) mb_k).trans cell_k2
                                  replace mb_k := Nat.lt_of_lt_of_le mb_k hb.size
                                  replace cell_r0 := (hb.cell (p := ⟨w9.heap.size, 0, none⟩) mb_r).trans cell_r0
                                  replace cell_r1 := (hb.cell (p := ⟨w9.heap.size, 1, none⟩) mb_r).trans cell_r1
                                  replace cell_r2 := (hb.cell (p := ⟨w9.heap.size, 2, none⟩) mb_r).trans cell_r2
                                  replace mb_r := Nat.lt_of_lt_of_le mb_r hb.size
                                  replace HB := Lib.hid (HB.out.trans (hb.mono HB.out.size))
                                  clear hb
                                  go_wp2_with fail
                                  go_roundg g
                                  case measure => omega
                                  case rel => exact ⟨x + 1, by go_num, by omega, HBz⟩
                                | true =>
                                  have HBz := HBx
                                  have HQ := Lib.hid (spec_ReadsWord_c Hk.out (s := mr) (by unfold maxLen; have := Hmz.out; omega))
                                  rw [← H_RM.out] at HQ
                                  go_wp2_with fail
                                  (with_reducible refine HQ.out.mono ?_)
                                  clear HQ
                                  rintro e w26 ⟨rfl, hb⟩
                                  replace HBz := Lib.hid (HBz.out.trans (hb.mono HBz.out.size))
                                  replace Hk := Lib.hid (LabR.frame _ _ _ _ Hk.out hb)
                                  replace Hr := Lib.hid (LabR.frame _ _ _ _ Hr.out hb)
                                  replace cell_k0 := (hb.cell (p := ⟨w3.heap.size, 0, none⟩) mb_k).trans cell_k0
                                  replace cell_k1 := (hb.cell (p := ⟨w3.heap.size, 1, none⟩) mb_k).trans cell_k1
                                  replace cell_k2 := (hb.cell (p := ⟨w3.heap.size, 2, none⟩) mb_k).trans cell_k2
                                  replace mb_k := Nat.lt_of_lt_of_le mb_k hb.size
                                  replace cell_r0 := (hb.cell (p := ⟨w9.heap.size, 0, none⟩) mb_r).trans cell_r0
                                  replace cell_r1 := (hb.cell (p := ⟨w9.heap.size, 1, none⟩) mb_r).trans cell_r1
                                  replace cell_r2 := (hb.cell (p := ⟨w9.heap.size, 2, none⟩) mb_r).trans cell_r2
                                  replace mb_r := Nat.lt_of_lt_of_le mb_r hb.size
                                  replace HB := Lib.hid (HB.out.trans (hb.mono HB.out.size))
                                  clear hb
                                  have HJ := Lib.hid (show decide (rankM k mr = 1) = true from by rw [Hmr.out]; exact decide_eq_true (HMr.out x hxN (by rw [← wordT_size, ← Hmr.out]; exact hm16) (by rw [← Hmr.out]; exact H_RM.out.symm)))
                                  have HQ := Lib.hid (impl_IsSynchronizing_c Hk.out (s := mr) (by unfold maxLen; have := Hmz.out; omega))
                                  rw [HJ.out] at HQ
                                  go_wp2_with fail
                                  (with_reducible refine HQ.out.mono ?_)
                                  clear HQ
                                  rintro e w27 ⟨rfl, hb⟩
                                  replace HBz := Lib.hid (HBz.out.trans (hb.mono HBz.out.size))
                                  replace Hk := Lib.hid (LabR.frame _ _ _ _ Hk.out hb)
                                  replace Hr := Lib.hid (LabR.frame _ _ _ _ Hr.out hb)
                                  replace cell_k0 := (hb.cell (p := ⟨w3.heap.size, 0, none⟩) mb_k).trans cell_k0
                                  replace cell_k1 := (hb.cell (p := ⟨w3.heap.size, 1, none⟩) mb_k).trans cell_k1
                                  replace cell_k2 := (hb.cell (p := ⟨w3.heap.size, 2, none⟩) mb_k).trans cell_k2
                                  replace mb_k := Nat.lt_of_lt_of_le mb_k hb.size
                                  replace cell_r0 := (hb.cell (p := ⟨w9.heap.size, 0, none⟩) mb_r).trans cell_r0
                                  replace cell_r1 := (hb.cell (p := ⟨w9.heap.size, 1, none⟩) mb_r).trans cell_r1
                                  replace cell_r2 := (hb.cell (p := ⟨w9.heap.size, 2, none⟩) mb_r).trans cell_r2
                                  replace mb_r := Nat.lt_of_lt_of_le mb_r hb.size
                                  replace HB := Lib.hid (HB.out.trans (hb.mono HB.out.size))
                                  clear hb
                                  go_wp2_with fail
                                  go_roundg g
                                  case measure => omega
                                  case rel => exact ⟨x + 1, by go_num, by omega, HBz⟩
                              · have hm16i : ¬ ((mr.size : Int) ≤ 16) := by omega
                                have HBz := HBx
                                go_wp2_with fail
                                go_roundg g
                                case measure => omega
                                case rel => exact ⟨x + 1, by go_num, by omega, HBz⟩
                            · have hxNi : ¬ ((x : Int) < k.1) := by have := HN.out; omega
                              clear HBx
                              go_wp2_with fail
                              go_meet
                              case rel => exact ⟨HB, Hr, cell_r0, cell_r1, cell_r2, mb_r⟩
                      · have hi1i : ¬ ((i : Int) < (st.size : Int)) := by omega
                        go_wp2_with fail
                        clear HBl
                        obtain ⟨hL1, hL3⟩ : 1 ≤ k.1 ∧ k.1 ≤ 3 := by obtain ⟨-, -, -, h3, h4⟩ := resolv_facts Hrv.out; exact ⟨h3, h4⟩
                        obtain ⟨N, hN⟩ : ∃ N : Nat, k.1 = (N : Int) := ⟨k.1.toNat, by omega⟩
                        have HN := Lib.hid hN
                        have hN3 : N ≤ 3 := by omega
                        have HMr := Lib.hid (fun (x : Nat) (h1 : x < N) => short_more Hwd.out (x := x) (by rw [hN]; omega))
                        clear hL1 hL3 hN
                        go_loopg [16] N (fun g iv wr => ∃ x : Nat, iv = .int .i64 x ∧ x + g = N ∧ Hid (Below w22.heap.size w22 wr))
                        case atStart => exact ⟨0, rfl, by omega, Lib.hid (Below.refl _ _)⟩
                        case round =>
                          obtain ⟨x, rfl, hx, HBx⟩ := hrel
                          obtain ⟨w28, rfl⟩ : ∃ x, x = wr := ⟨_, rfl⟩
                          have hbl := HBx.out
                          replace Hk := Lib.hid (LabR.frame _ _ _ _ Hk.out hbl)
                          replace Hr := Lib.hid (LabR.frame _ _ _ _ Hr.out hbl)
                          replace cell_k0 := (hbl.cell (p := ⟨w3.heap.size, 0, none⟩) mb_k).trans cell_k0
                          replace cell_k1 := (hbl.cell (p := ⟨w3.heap.size, 1, none⟩) mb_k).trans cell_k1
                          replace cell_k2 := (hbl.cell (p := ⟨w3.heap.size, 2, none⟩) mb_k).trans cell_k2
                          replace mb_k := Nat.lt_of_lt_of_le mb_k hbl.size
                          replace cell_r0 := (hbl.cell (p := ⟨w9.heap.size, 0, none⟩) mb_r).trans cell_r0
                          replace cell_r1 := (hbl.cell (p := ⟨w9.heap.size, 1, none⟩) mb_r).trans cell_r1
                          replace cell_r2 := (hbl.cell (p := ⟨w9.heap.size, 2, none⟩) mb_r).trans cell_r2
                          replace mb_r := Nat.lt_of_lt_of_le mb_r hbl.size
                          replace HB := Lib.hid (HB.out.trans (hbl.mono HB.out.size))
                          clear hbl
                          by_cases hxN : x < N
                          · have hxNi : (x : Int) < k.1 := by have := HN.out; omega
                            have hx0 : (0 : Int) ≤ (x : Int) := by omega
                            obtain ⟨g, rfl⟩ : ∃ y, gk = y + 1 := ⟨gk - 1, by omega⟩
                            have habc := fun w => abc_slice (x := x) (by omega) w
                            have hsz : ¬ (9223372036854775807 < (wordT [x]).size + st.size) := by have := Hst.out; rw [wordT_size]; simp; omega
                            obtain ⟨mr, hmr⟩ : ∃ s, s = wordT [x] ++ st := ⟨_, rfl⟩
                            have Hmr := Lib.hid (show mr = wordT (x :: wd) from by rw [hmr, Hstw.out]; exact word_cons x wd)
                            have hmr' := hmr.symm
                            have Hmz := Lib.hid (show mr.size ≤ 17 from by rw [hmr, ByteArray.size_append, wordT_size]; have := Hst.out; simp; omega)
                            clear hmr
                            obtain ⟨RM, h_RM⟩ : ∃ bb_, bb_ = readsM k mr := ⟨_, rfl⟩
                            have H_RM := Lib.hid h_RM
                            clear h_RM
                            by_cases hm16 : mr.size ≤ 16
                            · have hm16i : (mr.size : Int) ≤ 16 := by omega
                              cases RM with
                              | false =>
                                have HBz := HBx
                                have HQ := Lib.hid (spec_ReadsWord_c Hk.out (s := mr) (by unfold maxLen; have := Hmz.out; omega))
                                rw [← H_RM.out] at HQ
                                go_wp2_with fail
                                (with_reducible refine HQ.out.mono ?_)
                                clear HQ
                                rintro e w29 ⟨rfl, hb⟩
                                replace HBz := Lib.hid (HBz.out.trans (hb.mono HBz.out.size))
                                replace Hk := Lib.hid (LabR.frame _ _ _ _ Hk.out hb)
                                replace Hr := Lib.hid (LabR.frame _ _ _ _ Hr.out hb)
                                replace cell_k0 := (hb.cell (p := ⟨w3.heap.size, 0, none⟩) mb_k).trans cell_k0
                                replace cell_k1 := (hb.cell (p := ⟨w3.heap.size, 1, none⟩) mb_k).trans cell_k1
                                replace cell_k2 := (hb.cell (p := ⟨w3.heap.size, 2, none⟩) mb_k).trans cell_k2
                                replace mb_k := Nat.lt_of_lt_of_le mb_k hb.size
                                replace cell_r0 := (hb.cell (p := ⟨w9.heap.size, 0, none⟩) mb_r).trans cell_r0
                                replace cell_r1 := (hb.cell (p := ⟨w9.heap.size, 1, none⟩) mb_r).trans cell_r1
                                replace cell_r2 := (hb.cell (p := ⟨w9.heap.size, 2, none⟩) mb_r).trans cell_r2
                                replace mb_r := Nat.lt_of_lt_of_le mb_r hb.size
                                replace HB := Lib.hid (HB.out.trans (hb.mono HB.out.size))
                                clear hb
                                go_wp2_with fail
                                go_roundg g
                                case measure => omega
                                case rel => exact ⟨x + 1, by go_num, by omega, HBz⟩
                              | true =>
                                have HBz := HBx
                                have HQ := Lib.hid (spec_ReadsWord_c Hk.out (s := mr) (by unfold maxLen; have := Hmz.out; omega))
                                rw [← H_RM.out] at HQ
                                go_wp2_with fail
                                (with_reducible refine HQ.out.mono ?_)
                                clear HQ
                                rintro e w30 ⟨rfl, hb⟩
                                replace HBz := Lib.hid (HBz.out.trans (hb.mono HBz.out.size))
                                replace Hk := Lib.hid (LabR.frame _ _ _ _ Hk.out hb)
                                replace Hr := Lib.hid (LabR.frame _ _ _ _ Hr.out hb)
                                replace cell_k0 := (hb.cell (p := ⟨w3.heap.size, 0, none⟩) mb_k).trans cell_k0
                                replace cell_k1 := (hb.cell (p := ⟨w3.heap.size, 1, none⟩) mb_k).trans cell_k1
                                replace cell_k2 := (hb.cell (p := ⟨w3.heap.size, 2, none⟩) mb_k).trans cell_k2
                                replace mb_k := Nat.lt_of_lt_of_le mb_k hb.size
                                replace cell_r0 := (hb.cell (p := ⟨w9.heap.size, 0, none⟩) mb_r).trans cell_r0
                                replace cell_r1 := (hb.cell (p := ⟨w9.heap.size, 1, none⟩) mb_r).trans cell_r1
                                replace cell_r2 := (hb.cell (p := ⟨w9.heap.size, 2, none⟩) mb_r).trans cell_r2
                                replace mb_r := Nat.lt_of_lt_of_le mb_r hb.size
                                replace HB := Lib.hid (HB.out.trans (hb.mono HB.out.size))
                                clear hb
                                have HJ := Lib.hid (show decide (rankM k mr = 1) = true from by rw [Hmr.out]; exact decide_eq_true (HMr.out x hxN (by rw [← wordT_size, ← Hmr.out]; exact hm16) (by rw [← Hmr.out]; exact H_RM.out.symm)))
                                have HQ := Lib.hid (impl_IsSynchronizing_c Hk.out (s := mr) (by unfold maxLen; have := Hmz.out; omega))
                                rw [HJ.out] at HQ
                                go_wp2_with fail
                                (with_reducible refine HQ.out.mono ?_)
                                clear HQ
                                rintro e w31 ⟨rfl, hb⟩
                                replace HBz := Lib.hid (HBz.out.trans (hb.mono HBz.out.size))
                                replace Hk := Lib.hid (LabR.frame _ _ _ _ Hk.out hb)
                                replace Hr := Lib.hid (LabR.frame _ _ _ _ Hr.out hb)
                                replace cell_k0 := (hb.cell (p := ⟨w3.heap.size, 0, none⟩) mb_k).trans cell_k0
                                replace cell_k1 := (hb.cell (p := ⟨w3.heap.size, 1, none⟩) mb_k).trans cell_k1
                                replace cell_k2 := (hb.cell (p := ⟨w3.heap.size, 2, none⟩) mb_k).trans cell_k2
                                replace mb_k := Nat.lt_of_lt_of_le mb_k hb.size
                                replace cell_r0 := (hb.cell (p := ⟨w9.heap.size, 0, none⟩) mb_r).trans cell_r0
                                replace cell_r1 := (hb.cell (p := ⟨w9.heap.size, 1, none⟩) mb_r).trans cell_r1
                                replace cell_r2 := (hb.cell (p := ⟨w9.heap.size, 2, none⟩) mb_r).trans cell_r2
                                replace mb_r := Nat.lt_of_lt_of_le mb_r hb.size
                                replace HB := Lib.hid (HB.out.trans (hb.mono HB.out.size))
                                clear hb
                                go_wp2_with fail
                                go_roundg g
                                case measure => omega
                                case rel => exact ⟨x + 1, by go_num, by omega, HBz⟩
                            · have hm16i : ¬ ((mr.size : Int) ≤ 16) := by omega
                              have HBz := HBx
                              go_wp2_with fail
                              go_roundg g
                              case measure => omega
                              case rel => exact ⟨x + 1, by go_num, by omega, HBz⟩
                          · have hxNi : ¬ ((x : Int) < k.1) := by have := HN.out; omega
                            clear HBx
                            go_wp2_with fail
                            go_meet
                            case rel => exact ⟨HB, Hr, cell_r0, cell_r1, cell_r2, mb_r⟩
              case rest =>
                as_aux_lemma =>
                  clear Hk
                  clear Hr
                  clear cell_k0 cell_k1 cell_k2 mb_k
                  clear cell_r0 cell_r1 cell_r2 mb_r
                  clear HB
                  obtain ⟨HB, Hr, cell_r0, cell_r1, cell_r2, mb_r⟩ := hcut
                  obtain ⟨w32, rfl⟩ : ∃ x, x = wc := ⟨_, rfl⟩
                  go_upto_region 28 with fail
                  obtain ⟨rr, h_rr⟩ : ∃ bb_, bb_ = resolvM r := ⟨_, rfl⟩
                  have H_rr := Lib.hid h_rr
                  clear h_rr
                  obtain ⟨wv, h_wv⟩ : ∃ bb_, bb_ = wordM r.1 t2 := ⟨_, rfl⟩
                  have H_wv := Lib.hid h_wv
                  clear h_wv
                  obtain ⟨LR, h_LR⟩ : ∃ bb_, bb_ = leastRM r := ⟨_, rfl⟩
                  have H_LR := Lib.hid h_LR
                  clear h_LR
                  have K1 := Lib.hid (fun (w' : World) (hb : Below w32.heap.size w32 w') => spec_IsResolving_c (LabR.frame _ _ _ _ Hr.out hb))
                  rw [← H_rr.out] at K1
                  have K2 := Lib.hid (fun (w' : World) => spec_IsWord_c r.1 t2 w' (by unfold maxLen; have := Ht2.out; omega))
                  rw [← H_wv.out] at K2
                  have K3 := Lib.hid (fun (w' : World) (hb : Below w32.heap.size w32 w') => impl_WordRank_c (LabR.frame _ _ _ _ Hr.out hb) (s := t2) (by unfold maxLen; have := Ht2.out; omega))
                  rw [← H_R2.out] at K3
                  have K4 := Lib.hid (fun (w' : World) (hb : Below w32.heap.size w32 w') => impl_LeastRank_c (LabR.frame _ _ _ _ Hr.out hb))
                  rw [← H_LR.out] at K4
                  have HSS := Lib.hid (fun (w' : World) (hb : Below w32.heap.size w32 w') => (show w'.cell? ⟨w9.heap.size, 0, none⟩ = some (.int .i64 r.1) ∧ w'.cell? ⟨w9.heap.size, 1, none⟩ = some (.int .i64 r.2.1) ∧ w'.cell? ⟨w9.heap.size, 2, none⟩ = some (.slice xa_r n_r xc_r) from ⟨(hb.cell (p := ⟨w9.heap.size, 0, none⟩) mb_r).trans cell_r0, (hb.cell (p := ⟨w9.heap.size, 1, none⟩) mb_r).trans cell_r1, (hb.cell (p := ⟨w9.heap.size, 2, none⟩) mb_r).trans cell_r2⟩))
                  have hS0 := HSS.out _ (Below.refl _ _)
                  have B1 := (Below.refl w32.heap.size w32).drew
                  have hSd := HSS.out _ B1
                  cases rr with
                  | false =>
                    refine wp_region_L (fun w' => w'.cell? ⟨w9.heap.size, 0, none⟩ = some (.int .i64 r.1) ∧ w'.cell? ⟨w9.heap.size, 1, none⟩ = some (.int .i64 r.2.1) ∧ w'.cell? ⟨w9.heap.size, 2, none⟩ = some (.slice xa_r n_r xc_r)) (by kernel_rfl) ?_
                    refine wpAnyL_take 0 (v := ?_) rfl (by kernel_rfl) (by kernel_rfl) (by kernel_rfl) (by kernel_rfl) (fun _ _ _ h => h) (Or.inl ⟨by rfl, ?_⟩) hSd ?_
                    rotate_left
                    · (intro w hSw; (try dsimp only at hSw); go_simp) <;> (try with_reducible rfl)
                    try simp only [Act.put, List.getElem_toArray, List.getElem_cons_zero, List.getElem_cons_succ, List.setIfInBounds_toArray, List.set_cons_zero, List.set_cons_succ]
                    refine wpAnyL_one 1 (by kernel_rfl) rfl (fun K hK => ?_)
                    go_simp
                    have HQ := K1.out _ B1
                    (with_reducible refine HQ.mono ?_)
                    clear HQ
                    rintro e u1 ⟨rfl, q1⟩
                    have B2 := B1.trans (q1.mono B1.size)
                    have hS2 := HSS.out _ B2
                    go_wp2_with fail
                    refine hK.out _ _ (fun _ => hS2) ?_
                    clear hK K
                    try simp only [Act.put, List.getElem_toArray, List.getElem_cons_zero, List.getElem_cons_succ, List.setIfInBounds_toArray, List.set_cons_zero, List.set_cons_succ]
                    refine wpAnyL_take 2 (v := ?_) rfl (by kernel_rfl) (by kernel_rfl) (by kernel_rfl) (by kernel_rfl) (fun _ _ _ h => h) (Or.inl ⟨by rfl, ?_⟩) hS2 ?_
                    rotate_left
                    · (intro w hSw; (try dsimp only at hSw); go_simp) <;> (try with_reducible rfl)
                    try simp only [Act.put, List.getElem_toArray, List.getElem_cons_zero, List.getElem_cons_succ, List.setIfInBounds_toArray, List.set_cons_zero, List.set_cons_succ]
                    refine wpAnyL_take 3 (v := ?_) rfl (by kernel_rfl) (by kernel_rfl) (by kernel_rfl) (by kernel_rfl) (fun _ _ _ h => h) (Or.inl ⟨by rfl, ?_⟩) hS2 ?_
                    rotate_left
                    · (intro w hSw; (try dsimp only at hSw); go_simp) <;> (try with_reducible rfl)
                    try simp only [Act.put, List.getElem_toArray, List.getElem_cons_zero, List.getElem_cons_succ, List.setIfInBounds_toArray, List.set_cons_zero, List.set_cons_succ]
                    refine wpAnyL_take 4 (v := undef) rfl (by kernel_rfl) (by kernel_rfl) (by kernel_rfl) (by kernel_rfl) (fun _ _ _ h => h) (Or.inr ⟨by rfl, rfl⟩) hS2 ?_
                    try simp only [Act.put, List.getElem_toArray, List.getElem_cons_zero, List.getElem_cons_succ, List.setIfInBounds_toArray, List.set_cons_zero, List.set_cons_succ]
                    refine wpAnyL_take 5 (v := undef) rfl (by kernel_rfl) (by kernel_rfl) (by kernel_rfl) (by kernel_rfl) (fun _ _ _ h => h) (Or.inr ⟨by rfl, rfl⟩) hS2 ?_
                    try simp only [Act.put, List.getElem_toArray, List.getElem_cons_zero, List.getElem_cons_succ, List.setIfInBounds_toArray, List.set_cons_zero, List.set_cons_succ]
                    refine wpAnyL_take 6 (v := undef) rfl (by kernel_rfl) (by kernel_rfl) (by kernel_rfl) (by kernel_rfl) (fun _ _ _ h => h) (Or.inr ⟨by rfl, rfl⟩) hS2 ?_
                    try simp only [Act.put, List.getElem_toArray, List.getElem_cons_zero, List.getElem_cons_succ, List.setIfInBounds_toArray, List.set_cons_zero, List.set_cons_succ]
                    refine wpAnyL_take 7 (v := undef) rfl (by kernel_rfl) (by kernel_rfl) (by kernel_rfl) (by kernel_rfl) (fun _ _ _ h => h) (Or.inr ⟨by rfl, rfl⟩) hS2 ?_
                    try simp only [Act.put, List.getElem_toArray, List.getElem_cons_zero, List.getElem_cons_succ, List.setIfInBounds_toArray, List.set_cons_zero, List.set_cons_succ]
                    refine wpAnyL_take 8 (v := undef) rfl (by kernel_rfl) (by kernel_rfl) (by kernel_rfl) (by kernel_rfl) (fun _ _ _ h => h) (Or.inr ⟨by rfl, rfl⟩) hS2 ?_
                    try simp only [Act.put, List.getElem_toArray, List.getElem_cons_zero, List.getElem_cons_succ, List.setIfInBounds_toArray, List.set_cons_zero, List.set_cons_succ]
                    refine wpAnyL_take 9 (v := ?_) rfl (by kernel_rfl) (by kernel_rfl) (by kernel_rfl) (by kernel_rfl) (fun _ _ _ h => h) (Or.inl ⟨by rfl, ?_⟩) hS2 ?_
                    rotate_left
                    · (intro w hSw; (try dsimp only at hSw); go_simp) <;> (try with_reducible rfl)
                    try simp only [Act.put, List.getElem_toArray, List.getElem_cons_zero, List.getElem_cons_succ, List.setIfInBounds_toArray, List.set_cons_zero, List.set_cons_succ]
                    refine wpAnyL_take 10 (v := ?_) rfl (by kernel_rfl) (by kernel_rfl) (by kernel_rfl) (by kernel_rfl) (fun _ _ _ h => h) (Or.inl ⟨by rfl, ?_⟩) hS2 ?_
                    rotate_left
                    · (intro w hSw; (try dsimp only at hSw); go_simp) <;> (try with_reducible rfl)
                    try simp only [Act.put, List.getElem_toArray, List.getElem_cons_zero, List.getElem_cons_succ, List.setIfInBounds_toArray, List.set_cons_zero, List.set_cons_succ]
                    refine wpAnyL_take 11 (v := undef) rfl (by kernel_rfl) (by kernel_rfl) (by kernel_rfl) (by kernel_rfl) (fun _ _ _ h => h) (Or.inr ⟨by rfl, rfl⟩) hS2 ?_
                    try simp only [Act.put, List.getElem_toArray, List.getElem_cons_zero, List.getElem_cons_succ, List.setIfInBounds_toArray, List.set_cons_zero, List.set_cons_succ]
                    refine wpAnyL_take 12 (v := undef) rfl (by kernel_rfl) (by kernel_rfl) (by kernel_rfl) (by kernel_rfl) (fun _ _ _ h => h) (Or.inr ⟨by rfl, rfl⟩) hS2 ?_
                    try simp only [Act.put, List.getElem_toArray, List.getElem_cons_zero, List.getElem_cons_succ, List.setIfInBounds_toArray, List.set_cons_zero, List.set_cons_succ]
                    refine wpAnyL_take 13 (v := undef) rfl (by kernel_rfl) (by kernel_rfl) (by kernel_rfl) (by kernel_rfl) (fun _ _ _ h => h) (Or.inr ⟨by rfl, rfl⟩) hS2 ?_
                    try simp only [Act.put, List.getElem_toArray, List.getElem_cons_zero, List.getElem_cons_succ, List.setIfInBounds_toArray, List.set_cons_zero, List.set_cons_succ]
                    refine wpAnyL_take 14 (v := undef) rfl (by kernel_rfl) (by kernel_rfl) (by kernel_rfl) (by kernel_rfl) (fun _ _ _ h => h) (Or.inr ⟨by rfl, rfl⟩) hS2 ?_
                    try simp only [Act.put, List.getElem_toArray, List.getElem_cons_zero, List.getElem_cons_succ, List.setIfInBounds_toArray, List.set_cons_zero, List.set_cons_succ]
                    refine wpAnyL_take 15 (v := ?_) rfl (by kernel_rfl) (by kernel_rfl) (by kernel_rfl) (by kernel_rfl) (fun _ _ _ h => h) (Or.inl ⟨by rfl, ?_⟩) hS2 ?_
                    rotate_left
                    · (intro w hSw; (try dsimp only at hSw); go_simp) <;> (try with_reducible rfl)
                    try simp only [Act.put, List.getElem_toArray, List.getElem_cons_zero, List.getElem_cons_succ, List.setIfInBounds_toArray, List.set_cons_zero, List.set_cons_succ]
                    refine wpAnyL_take 16 (v := ?_) rfl (by kernel_rfl) (by kernel_rfl) (by kernel_rfl) (by kernel_rfl) (fun _ _ _ h => h) (Or.inl ⟨by rfl, ?_⟩) hS2 ?_
                    rotate_left
                    · (intro w hSw; (try dsimp only at hSw); go_simp) <;> (try with_reducible rfl)
                    try simp only [Act.put, List.getElem_toArray, List.getElem_cons_zero, List.getElem_cons_succ, List.setIfInBounds_toArray, List.set_cons_zero, List.set_cons_succ]
                    refine wpAnyL_take 17 (v := undef) rfl (by kernel_rfl) (by kernel_rfl) (by kernel_rfl) (by kernel_rfl) (fun _ _ _ h => h) (Or.inr ⟨by rfl, rfl⟩) hS2 ?_
                    try simp only [Act.put, List.getElem_toArray, List.getElem_cons_zero, List.getElem_cons_succ, List.setIfInBounds_toArray, List.set_cons_zero, List.set_cons_succ]
                    refine wpAnyL_take 18 (v := undef) rfl (by kernel_rfl) (by kernel_rfl) (by kernel_rfl) (by kernel_rfl) (fun _ _ _ h => h) (Or.inr ⟨by rfl, rfl⟩) hS2 ?_
                    try simp only [Act.put, List.getElem_toArray, List.getElem_cons_zero, List.getElem_cons_succ, List.setIfInBounds_toArray, List.set_cons_zero, List.set_cons_succ]
                    refine wpAnyL_take 19 (v := undef) rfl (by kernel_rfl) (by kernel_rfl) (by kernel_rfl) (by kernel_rfl) (fun _ _ _ h => h) (Or.inr ⟨by rfl, rfl⟩) hS2 ?_
                    try simp only [Act.put, List.getElem_toArray, List.getElem_cons_zero, List.getElem_cons_succ, List.setIfInBounds_toArray, List.set_cons_zero, List.set_cons_succ]
                    refine wpAnyL_take 20 (v := undef) rfl (by kernel_rfl) (by kernel_rfl) (by kernel_rfl) (by kernel_rfl) (fun _ _ _ h => h) (Or.inr ⟨by rfl, rfl⟩) hS2 ?_
                    try simp only [Act.put, List.getElem_toArray, List.getElem_cons_zero, List.getElem_cons_succ, List.setIfInBounds_toArray, List.set_cons_zero, List.set_cons_succ]
                    refine wpAnyL_take 21 (v := undef) rfl (by kernel_rfl) (by kernel_rfl) (by kernel_rfl) (by kernel_rfl) (fun _ _ _ h => h) (Or.inr ⟨by rfl, rfl⟩) hS2 ?_
                    try simp only [Act.put, List.getElem_toArray, List.getElem_cons_zero, List.getElem_cons_succ, List.setIfInBounds_toArray, List.set_cons_zero, List.set_cons_succ]
                    refine wpAnyL_take 22 (v := undef) rfl (by kernel_rfl) (by kernel_rfl) (by kernel_rfl) (by kernel_rfl) (fun _ _ _ h => h) (Or.inr ⟨by rfl, rfl⟩) hS2 ?_
                    try simp only [Act.put, List.getElem_toArray, List.getElem_cons_zero, List.getElem_cons_succ, List.setIfInBounds_toArray, List.set_cons_zero, List.set_cons_succ]
                    refine wpAnyL_take 23 (v := ?_) rfl (by kernel_rfl) (by kernel_rfl) (by kernel_rfl) (by kernel_rfl) (fun _ _ _ h => h) (Or.inl ⟨by rfl, ?_⟩) hS2 ?_
                    rotate_left
                    · (intro w hSw; (try dsimp only at hSw); go_simp) <;> (try with_reducible rfl)
                    try simp only [Act.put, List.getElem_toArray, List.getElem_cons_zero, List.getElem_cons_succ, List.setIfInBounds_toArray, List.set_cons_zero, List.set_cons_succ]
                    refine wpAnyL_one 24 (by kernel_rfl) rfl (fun K hK => ?_)
                    go_simp
                    refine hK.out _ _ (fun h => absurd h (not_rem (by kernel_rfl))) ?_
                    clear hK K
                    try simp only [Act.put, List.getElem_toArray, List.getElem_cons_zero, List.getElem_cons_succ, List.setIfInBounds_toArray, List.set_cons_zero, List.set_cons_succ]
                    refine wpAnyL_done (by kernel_rfl) ?_ _
                    have HB2 := Lib.hid (HB.out.trans (B2.mono HB.out.size))
                    go_wp2_with fail
                    go_ret
                    exact ⟨rfl, HB2.out⟩
                  | true =>
                    cases wv with
                    | false =>
                      refine wp_region_L (fun w' => w'.cell? ⟨w9.heap.size, 0, none⟩ = some (.int .i64 r.1) ∧ w'.cell? ⟨w9.heap.size, 1, none⟩ = some (.int .i64 r.2.1) ∧ w'.cell? ⟨w9.heap.size, 2, none⟩ = some (.slice xa_r n_r xc_r)) (by kernel_rfl) ?_
                      refine wpAnyL_take 0 (v := ?_) rfl (by kernel_rfl) (by kernel_rfl) (by kernel_rfl) (by kernel_rfl) (fun _ _ _ h => h) (Or.inl ⟨by rfl, ?_⟩) hSd ?_
                      rotate_left
                      · (intro w hSw; (try dsimp only at hSw); go_simp) <;> (try with_reducible rfl)
                      try simp only [Act.put, List.getElem_toArray, List.getElem_cons_zero, List.getElem_cons_succ, List.setIfInBounds_toArray, List.set_cons_zero, List.set_cons_succ]
                      refine wpAnyL_one 1 (by kernel_rfl) rfl (fun K hK => ?_)
                      go_simp
                      have HQ := K1.out _ B1
                      (with_reducible refine HQ.mono ?_)
                      clear HQ
                      rintro e u1 ⟨rfl, q1⟩
                      have B2 := B1.trans (q1.mono B1.size)
                      have hS2 := HSS.out _ B2
                      go_wp2_with fail
                      refine hK.out _ _ (fun _ => hS2) ?_
                      clear hK K
                      try simp only [Act.put, List.getElem_toArray, List.getElem_cons_zero, List.getElem_cons_succ, List.setIfInBounds_toArray, List.set_cons_zero, List.set_cons_succ]
                      refine wpAnyL_take 2 (v := ?_) rfl (by kernel_rfl) (by kernel_rfl) (by kernel_rfl) (by kernel_rfl) (fun _ _ _ h => h) (Or.inl ⟨by rfl, ?_⟩) hS2 ?_
                      rotate_left
                      · (intro w hSw; (try dsimp only at hSw); go_simp) <;> (try with_reducible rfl)
                      try simp only [Act.put, List.getElem_toArray, List.getElem_cons_zero, List.getElem_cons_succ, List.setIfInBounds_toArray, List.set_cons_zero, List.set_cons_succ]
                      refine wpAnyL_take 3 (v := ?_) rfl (by kernel_rfl) (by kernel_rfl) (by kernel_rfl) (by kernel_rfl) (fun _ _ _ h => h) (Or.inl ⟨by rfl, ?_⟩) hS2 ?_
                      rotate_left
                      · (intro w hSw; (try dsimp only at hSw); go_simp) <;> (try with_reducible rfl)
                      try simp only [Act.put, List.getElem_toArray, List.getElem_cons_zero, List.getElem_cons_succ, List.setIfInBounds_toArray, List.set_cons_zero, List.set_cons_succ]
                      refine wpAnyL_take 4 (v := ?_) rfl (by kernel_rfl) (by kernel_rfl) (by kernel_rfl) (by kernel_rfl) (fun _ _ _ h => h) (Or.inl ⟨by rfl, ?_⟩) hS2 ?_
                      rotate_left
                      · (intro w hSw; (try dsimp only at hSw); go_simp) <;> (try with_reducible rfl)
                      try simp only [Act.put, List.getElem_toArray, List.getElem_cons_zero, List.getElem_cons_succ, List.setIfInBounds_toArray, List.set_cons_zero, List.set_cons_succ]
                      refine wpAnyL_take 5 (v := ?_) rfl (by kernel_rfl) (by kernel_rfl) (by kernel_rfl) (by kernel_rfl) (fun _ _ _ h => h) (Or.inl ⟨by rfl, ?_⟩) hS2 ?_
                      rotate_left
                      · (intro w hSw; (try dsimp only at hSw); go_simp) <;> (try with_reducible rfl)
                      try simp only [Act.put, List.getElem_toArray, List.getElem_cons_zero, List.getElem_cons_succ, List.setIfInBounds_toArray, List.set_cons_zero, List.set_cons_succ]
                      refine wpAnyL_take 6 (v := ?_) rfl (by kernel_rfl) (by kernel_rfl) (by kernel_rfl) (by kernel_rfl) (fun _ _ _ h => h) (Or.inl ⟨by rfl, ?_⟩) hS2 ?_
                      rotate_left
                      · (intro w hSw; (try dsimp only at hSw); go_simp) <;> (try with_reducible rfl)
                      try simp only [Act.put, List.getElem_toArray, List.getElem_cons_zero, List.getElem_cons_succ, List.setIfInBounds_toArray, List.set_cons_zero, List.set_cons_succ]
                      refine wpAnyL_one 7 (by kernel_rfl) rfl (fun K hK => ?_)
                      go_simp
                      (with_reducible refine (K2.out _).mono ?_)
                      rintro e w9 ⟨rfl, hw9⟩
                      rw [← hw9]
                      clear hw9 w9
                      go_wp2_with fail
                      refine hK.out _ _ (fun _ => hS2) ?_
                      clear hK K
                      try simp only [Act.put, List.getElem_toArray, List.getElem_cons_zero, List.getElem_cons_succ, List.setIfInBounds_toArray, List.set_cons_zero, List.set_cons_succ]
                      refine wpAnyL_take 8 (v := ?_) rfl (by kernel_rfl) (by kernel_rfl) (by kernel_rfl) (by kernel_rfl) (fun _ _ _ h => h) (Or.inl ⟨by rfl, ?_⟩) hS2 ?_
                      rotate_left
                      · (intro w hSw; (try dsimp only at hSw); go_simp) <;> (try with_reducible rfl)
                      try simp only [Act.put, List.getElem_toArray, List.getElem_cons_zero, List.getElem_cons_succ, List.setIfInBounds_toArray, List.set_cons_zero, List.set_cons_succ]
                      refine wpAnyL_take 9 (v := ?_) rfl (by kernel_rfl) (by kernel_rfl) (by kernel_rfl) (by kernel_rfl) (fun _ _ _ h => h) (Or.inl ⟨by rfl, ?_⟩) hS2 ?_
                      rotate_left
                      · (intro w hSw; (try dsimp only at hSw); go_simp) <;> (try with_reducible rfl)
                      try simp only [Act.put, List.getElem_toArray, List.getElem_cons_zero, List.getElem_cons_succ, List.setIfInBounds_toArray, List.set_cons_zero, List.set_cons_succ]
                      refine wpAnyL_take 10 (v := ?_) rfl (by kernel_rfl) (by kernel_rfl) (by kernel_rfl) (by kernel_rfl) (fun _ _ _ h => h) (Or.inl ⟨by rfl, ?_⟩) hS2 ?_
                      rotate_left
                      · (intro w hSw; (try dsimp only at hSw); go_simp) <;> (try with_reducible rfl)
                      try simp only [Act.put, List.getElem_toArray, List.getElem_cons_zero, List.getElem_cons_succ, List.setIfInBounds_toArray, List.set_cons_zero, List.set_cons_succ]
                      refine wpAnyL_take 11 (v := undef) rfl (by kernel_rfl) (by kernel_rfl) (by kernel_rfl) (by kernel_rfl) (fun _ _ _ h => h) (Or.inr ⟨by rfl, rfl⟩) hS2 ?_
                      try simp only [Act.put, List.getElem_toArray, List.getElem_cons_zero, List.getElem_cons_succ, List.setIfInBounds_toArray, List.set_cons_zero, List.set_cons_succ]
                      refine wpAnyL_take 12 (v := undef) rfl (by kernel_rfl) (by kernel_rfl) (by kernel_rfl) (by kernel_rfl) (fun _ _ _ h => h) (Or.inr ⟨by rfl, rfl⟩) hS2 ?_
                      try simp only [Act.put, List.getElem_toArray, List.getElem_cons_zero, List.getElem_cons_succ, List.setIfInBounds_toArray, List.set_cons_zero, List.set_cons_succ]
                      refine wpAnyL_take 13 (v := undef) rfl (by kernel_rfl) (by kernel_rfl) (by kernel_rfl) (by kernel_rfl) (fun _ _ _ h => h) (Or.inr ⟨by rfl, rfl⟩) hS2 ?_
                      try simp only [Act.put, List.getElem_toArray, List.getElem_cons_zero, List.getElem_cons_succ, List.setIfInBounds_toArray, List.set_cons_zero, List.set_cons_succ]
                      refine wpAnyL_take 14 (v := undef) rfl (by kernel_rfl) (by kernel_rfl) (by kernel_rfl) (by kernel_rfl) (fun _ _ _ h => h) (Or.inr ⟨by rfl, rfl⟩) hS2 ?_
                      try simp only [Act.put, List.getElem_toArray, List.getElem_cons_zero, List.getElem_cons_succ, List.setIfInBounds_toArray, List.set_cons_zero, List.set_cons_succ]
                      refine wpAnyL_take 15 (v := ?_) rfl (by kernel_rfl) (by kernel_rfl) (by kernel_rfl) (by kernel_rfl) (fun _ _ _ h => h) (Or.inl ⟨by rfl, ?_⟩) hS2 ?_
                      rotate_left
                      · (intro w hSw; (try dsimp only at hSw); go_simp) <;> (try with_reducible rfl)
                      try simp only [Act.put, List.getElem_toArray, List.getElem_cons_zero, List.getElem_cons_succ, List.setIfInBounds_toArray, List.set_cons_zero, List.set_cons_succ]
                      refine wpAnyL_take 16 (v := ?_) rfl (by kernel_rfl) (by kernel_rfl) (by kernel_rfl) (by kernel_rfl) (fun _ _ _ h => h) (Or.inl ⟨by rfl, ?_⟩) hS2 ?_
                      rotate_left
                      · (intro w hSw; (try dsimp only at hSw); go_simp) <;> (try with_reducible rfl)
                      try simp only [Act.put, List.getElem_toArray, List.getElem_cons_zero, List.getElem_cons_succ, List.setIfInBounds_toArray, List.set_cons_zero, List.set_cons_succ]
                      refine wpAnyL_take 17 (v := undef) rfl (by kernel_rfl) (by kernel_rfl) (by kernel_rfl) (by kernel_rfl) (fun _ _ _ h => h) (Or.inr ⟨by rfl, rfl⟩) hS2 ?_
                      try simp only [Act.put, List.getElem_toArray, List.getElem_cons_zero, List.getElem_cons_succ, List.setIfInBounds_toArray, List.set_cons_zero, List.set_cons_succ]
                      refine wpAnyL_take 18 (v := undef) rfl (by kernel_rfl) (by kernel_rfl) (by kernel_rfl) (by kernel_rfl) (fun _ _ _ h => h) (Or.inr ⟨by rfl, rfl⟩) hS2 ?_
                      try simp only [Act.put, List.getElem_toArray, List.getElem_cons_zero, List.getElem_cons_succ, List.setIfInBounds_toArray, List.set_cons_zero, List.set_cons_succ]
                      refine wpAnyL_take 19 (v := undef) rfl (by kernel_rfl) (by kernel_rfl) (by kernel_rfl) (by kernel_rfl) (fun _ _ _ h => h) (Or.inr ⟨by rfl, rfl⟩) hS2 ?_
                      try simp only [Act.put, List.getElem_toArray, List.getElem_cons_zero, List.getElem_cons_succ, List.setIfInBounds_toArray, List.set_cons_zero, List.set_cons_succ]
                      refine wpAnyL_take 20 (v := undef) rfl (by kernel_rfl) (by kernel_rfl) (by kernel_rfl) (by kernel_rfl) (fun _ _ _ h => h) (Or.inr ⟨by rfl, rfl⟩) hS2 ?_
                      try simp only [Act.put, List.getElem_toArray, List.getElem_cons_zero, List.getElem_cons_succ, List.setIfInBounds_toArray, List.set_cons_zero, List.set_cons_succ]
                      refine wpAnyL_take 21 (v := undef) rfl (by kernel_rfl) (by kernel_rfl) (by kernel_rfl) (by kernel_rfl) (fun _ _ _ h => h) (Or.inr ⟨by rfl, rfl⟩) hS2 ?_
                      try simp only [Act.put, List.getElem_toArray, List.getElem_cons_zero, List.getElem_cons_succ, List.setIfInBounds_toArray, List.set_cons_zero, List.set_cons_succ]
                      refine wpAnyL_take 22 (v := undef) rfl (by kernel_rfl) (by kernel_rfl) (by kernel_rfl) (by kernel_rfl) (fun _ _ _ h => h) (Or.inr ⟨by rfl, rfl⟩) hS2 ?_
                      try simp only [Act.put, List.getElem_toArray, List.getElem_cons_zero, List.getElem_cons_succ, List.setIfInBounds_toArray, List.set_cons_zero, List.set_cons_succ]
                      refine wpAnyL_take 23 (v := ?_) rfl (by kernel_rfl) (by kernel_rfl) (by kernel_rfl) (by kernel_rfl) (fun _ _ _ h => h) (Or.inl ⟨by rfl, ?_⟩) hS2 ?_
                      rotate_left
                      · (intro w hSw; (try dsimp only at hSw); go_simp) <;> (try with_reducible rfl)
                      try simp only [Act.put, List.getElem_toArray, List.getElem_cons_zero, List.getElem_cons_succ, List.setIfInBounds_toArray, List.set_cons_zero, List.set_cons_succ]
                      refine wpAnyL_one 24 (by kernel_rfl) rfl (fun K hK => ?_)
                      go_simp
                      refine hK.out _ _ (fun h => absurd h (not_rem (by kernel_rfl))) ?_
                      clear hK K
                      try simp only [Act.put, List.getElem_toArray, List.getElem_cons_zero, List.getElem_cons_succ, List.setIfInBounds_toArray, List.set_cons_zero, List.set_cons_succ]
                      refine wpAnyL_done (by kernel_rfl) ?_ _
                      have HB2 := Lib.hid (HB.out.trans (B2.mono HB.out.size))
                      go_wp2_with fail
                      go_ret
                      exact ⟨rfl, HB2.out⟩
                    | true =>
                      have HLR := Lib.hid (show R2 = 0 ∨ LR ≤ R2 from by rw [H_R2.out, H_LR.out]; exact rank_least H_rr.out.symm H_wv.out.symm)
                      by_cases h0 : R2 = 0
                      · have h00 : (R2 == 0) = true := by simp [h0]
                        clear h0
                        refine wp_region_L (fun w' => w'.cell? ⟨w9.heap.size, 0, none⟩ = some (.int .i64 r.1) ∧ w'.cell? ⟨w9.heap.size, 1, none⟩ = some (.int .i64 r.2.1) ∧ w'.cell? ⟨w9.heap.size, 2, none⟩ = some (.slice xa_r n_r xc_r)) (by kernel_rfl) ?_
                        refine wpAnyL_take 0 (v := ?_) rfl (by kernel_rfl) (by kernel_rfl) (by kernel_rfl) (by kernel_rfl) (fun _ _ _ h => h) (Or.inl ⟨by rfl, ?_⟩) hSd ?_
                        rotate_left
                        · (intro w hSw; (try dsimp only at hSw); go_simp) <;> (try with_reducible rfl)
                        try simp only [Act.put, List.getElem_toArray, List.getElem_cons_zero, List.getElem_cons_succ, List.setIfInBounds_toArray, List.set_cons_zero, List.set_cons_succ]
                        refine wpAnyL_one 1 (by kernel_rfl) rfl (fun K hK => ?_)
                        go_simp
                        have HQ := K1.out _ B1
                        (with_reducible refine HQ.mono ?_)
                        clear HQ
                        rintro e u1 ⟨rfl, q1⟩
                        have B2 := B1.trans (q1.mono B1.size)
                        have hS2 := HSS.out _ B2
                        go_wp2_with fail
                        refine hK.out _ _ (fun _ => hS2) ?_
                        clear hK K
                        try simp only [Act.put, List.getElem_toArray, List.getElem_cons_zero, List.getElem_cons_succ, List.setIfInBounds_toArray, List.set_cons_zero, List.set_cons_succ]
                        refine wpAnyL_take 2 (v := ?_) rfl (by kernel_rfl) (by kernel_rfl) (by kernel_rfl) (by kernel_rfl) (fun _ _ _ h => h) (Or.inl ⟨by rfl, ?_⟩) hS2 ?_
                        rotate_left
                        · (intro w hSw; (try dsimp only at hSw); go_simp) <;> (try with_reducible rfl)
                        try simp only [Act.put, List.getElem_toArray, List.getElem_cons_zero, List.getElem_cons_succ, List.setIfInBounds_toArray, List.set_cons_zero, List.set_cons_succ]
                        refine wpAnyL_take 3 (v := ?_) rfl (by kernel_rfl) (by kernel_rfl) (by kernel_rfl) (by kernel_rfl) (fun _ _ _ h => h) (Or.inl ⟨by rfl, ?_⟩) hS2 ?_
                        rotate_left
                        · (intro w hSw; (try dsimp only at hSw); go_simp) <;> (try with_reducible rfl)
                        try simp only [Act.put, List.getElem_toArray, List.getElem_cons_zero, List.getElem_cons_succ, List.setIfInBounds_toArray, List.set_cons_zero, List.set_cons_succ]
                        refine wpAnyL_take 4 (v := ?_) rfl (by kernel_rfl) (by kernel_rfl) (by kernel_rfl) (by kernel_rfl) (fun _ _ _ h => h) (Or.inl ⟨by rfl, ?_⟩) hS2 ?_
                        rotate_left
                        · (intro w hSw; (try dsimp only at hSw); go_simp) <;> (try with_reducible rfl)
                        try simp only [Act.put, List.getElem_toArray, List.getElem_cons_zero, List.getElem_cons_succ, List.setIfInBounds_toArray, List.set_cons_zero, List.set_cons_succ]
                        refine wpAnyL_take 5 (v := ?_) rfl (by kernel_rfl) (by kernel_rfl) (by kernel_rfl) (by kernel_rfl) (fun _ _ _ h => h) (Or.inl ⟨by rfl, ?_⟩) hS2 ?_
                        rotate_left
                        · (intro w hSw; (try dsimp only at hSw); go_simp) <;> (try with_reducible rfl)
                        try simp only [Act.put, List.getElem_toArray, List.getElem_cons_zero, List.getElem_cons_succ, List.setIfInBounds_toArray, List.set_cons_zero, List.set_cons_succ]
                        refine wpAnyL_take 6 (v := ?_) rfl (by kernel_rfl) (by kernel_rfl) (by kernel_rfl) (by kernel_rfl) (fun _ _ _ h => h) (Or.inl ⟨by rfl, ?_⟩) hS2 ?_
                        rotate_left
                        · (intro w hSw; (try dsimp only at hSw); go_simp) <;> (try with_reducible rfl)
                        try simp only [Act.put, List.getElem_toArray, List.getElem_cons_zero, List.getElem_cons_succ, List.setIfInBounds_toArray, List.set_cons_zero, List.set_cons_succ]
                        refine wpAnyL_one 7 (by kernel_rfl) rfl (fun K hK => ?_)
                        go_simp
                        (with_reducible refine (K2.out _).mono ?_)
                        rintro e w9 ⟨rfl, hw9⟩
                        rw [← hw9]
                        clear hw9 w9
                        go_wp2_with fail
                        refine hK.out _ _ (fun _ => hS2) ?_
                        clear hK K
                        try simp only [Act.put, List.getElem_toArray, List.getElem_cons_zero, List.getElem_cons_succ, List.setIfInBounds_toArray, List.set_cons_zero, List.set_cons_succ]
                        refine wpAnyL_take 8 (v := ?_) rfl (by kernel_rfl) (by kernel_rfl) (by kernel_rfl) (by kernel_rfl) (fun _ _ _ h => h) (Or.inl ⟨by rfl, ?_⟩) hS2 ?_
                        rotate_left
                        · (intro w hSw; (try dsimp only at hSw); go_simp) <;> (try with_reducible rfl)
                        try simp only [Act.put, List.getElem_toArray, List.getElem_cons_zero, List.getElem_cons_succ, List.setIfInBounds_toArray, List.set_cons_zero, List.set_cons_succ]
                        refine wpAnyL_take 9 (v := ?_) rfl (by kernel_rfl) (by kernel_rfl) (by kernel_rfl) (by kernel_rfl) (fun _ _ _ h => h) (Or.inl ⟨by rfl, ?_⟩) hS2 ?_
                        rotate_left
                        · (intro w hSw; (try dsimp only at hSw); go_simp) <;> (try with_reducible rfl)
                        try simp only [Act.put, List.getElem_toArray, List.getElem_cons_zero, List.getElem_cons_succ, List.setIfInBounds_toArray, List.set_cons_zero, List.set_cons_succ]
                        refine wpAnyL_take 10 (v := ?_) rfl (by kernel_rfl) (by kernel_rfl) (by kernel_rfl) (by kernel_rfl) (fun _ _ _ h => h) (Or.inl ⟨by rfl, ?_⟩) hS2 ?_
                        rotate_left
                        · (intro w hSw; (try dsimp only at hSw); go_simp) <;> (try with_reducible rfl)
                        try simp only [Act.put, List.getElem_toArray, List.getElem_cons_zero, List.getElem_cons_succ, List.setIfInBounds_toArray, List.set_cons_zero, List.set_cons_succ]
                        refine wpAnyL_take 11 (v := ?_) rfl (by kernel_rfl) (by kernel_rfl) (by kernel_rfl) (by kernel_rfl) (fun _ _ _ h => h) (Or.inl ⟨by rfl, ?_⟩) hS2 ?_
                        rotate_left
                        · (intro w hSw; (try dsimp only at hSw); go_simp) <;> (try with_reducible rfl)
                        try simp only [Act.put, List.getElem_toArray, List.getElem_cons_zero, List.getElem_cons_succ, List.setIfInBounds_toArray, List.set_cons_zero, List.set_cons_succ]
                        refine wpAnyL_take 12 (v := ?_) rfl (by kernel_rfl) (by kernel_rfl) (by kernel_rfl) (by kernel_rfl) (fun _ _ _ h => h) (Or.inl ⟨by rfl, ?_⟩) hS2 ?_
                        rotate_left
                        · (intro w hSw; (try dsimp only at hSw); go_simp) <;> (try with_reducible rfl)
                        try simp only [Act.put, List.getElem_toArray, List.getElem_cons_zero, List.getElem_cons_succ, List.setIfInBounds_toArray, List.set_cons_zero, List.set_cons_succ]
                        refine wpAnyL_one 13 (by kernel_rfl) rfl (fun K hK => ?_)
                        go_simp
                        have HQ := K3.out _ B2
                        (with_reducible refine HQ.mono ?_)
                        clear HQ
                        rintro e u2 ⟨rfl, q2⟩
                        have B3 := B2.trans (q2.mono B2.size)
                        have hS3 := HSS.out _ B3
                        go_wp2_with fail
                        refine hK.out _ _ (fun _ => hS3) ?_
                        clear hK K
                        try simp only [Act.put, List.getElem_toArray, List.getElem_cons_zero, List.getElem_cons_succ, List.setIfInBounds_toArray, List.set_cons_zero, List.set_cons_succ]
                        refine wpAnyL_take 14 (v := ?_) rfl (by kernel_rfl) (by kernel_rfl) (by kernel_rfl) (by kernel_rfl) (fun _ _ _ h => h) (Or.inl ⟨by rfl, ?_⟩) hS3 ?_
                        rotate_left
                        · (intro w hSw; (try dsimp only at hSw); go_simp) <;> (try with_reducible rfl)
                        try simp only [Act.put, List.getElem_toArray, List.getElem_cons_zero, List.getElem_cons_succ, List.setIfInBounds_toArray, List.set_cons_zero, List.set_cons_succ]
                        refine wpAnyL_take 15 (v := ?_) rfl (by kernel_rfl) (by kernel_rfl) (by kernel_rfl) (by kernel_rfl) (fun _ _ _ h => h) (Or.inl ⟨by rfl, ?_⟩) hS3 ?_
                        rotate_left
                        · (intro w hSw; (try dsimp only at hSw); go_simp) <;> (try with_reducible rfl)
                        try simp only [Act.put, List.getElem_toArray, List.getElem_cons_zero, List.getElem_cons_succ, List.setIfInBounds_toArray, List.set_cons_zero, List.set_cons_succ]
                        refine wpAnyL_take 16 (v := ?_) rfl (by kernel_rfl) (by kernel_rfl) (by kernel_rfl) (by kernel_rfl) (fun _ _ _ h => h) (Or.inl ⟨by rfl, ?_⟩) hS3 ?_
                        rotate_left
                        · (intro w hSw; (try dsimp only at hSw); go_simp) <;> (try with_reducible rfl)
                        try simp only [Act.put, List.getElem_toArray, List.getElem_cons_zero, List.getElem_cons_succ, List.setIfInBounds_toArray, List.set_cons_zero, List.set_cons_succ]
                        refine wpAnyL_take 17 (v := undef) rfl (by kernel_rfl) (by kernel_rfl) (by kernel_rfl) (by kernel_rfl) (fun _ _ _ h => h) (Or.inr ⟨by rfl, rfl⟩) hS3 ?_
                        try simp only [Act.put, List.getElem_toArray, List.getElem_cons_zero, List.getElem_cons_succ, List.setIfInBounds_toArray, List.set_cons_zero, List.set_cons_succ]
                        refine wpAnyL_take 18 (v := undef) rfl (by kernel_rfl) (by kernel_rfl) (by kernel_rfl) (by kernel_rfl) (fun _ _ _ h => h) (Or.inr ⟨by rfl, rfl⟩) hS3 ?_
                        try simp only [Act.put, List.getElem_toArray, List.getElem_cons_zero, List.getElem_cons_succ, List.setIfInBounds_toArray, List.set_cons_zero, List.set_cons_succ]
                        refine wpAnyL_take 19 (v := undef) rfl (by kernel_rfl) (by kernel_rfl) (by kernel_rfl) (by kernel_rfl) (fun _ _ _ h => h) (Or.inr ⟨by rfl, rfl⟩) hS3 ?_
                        try simp only [Act.put, List.getElem_toArray, List.getElem_cons_zero, List.getElem_cons_succ, List.setIfInBounds_toArray, List.set_cons_zero, List.set_cons_succ]
                        refine wpAnyL_take 20 (v := undef) rfl (by kernel_rfl) (by kernel_rfl) (by kernel_rfl) (by kernel_rfl) (fun _ _ _ h => h) (Or.inr ⟨by rfl, rfl⟩) hS3 ?_
                        try simp only [Act.put, List.getElem_toArray, List.getElem_cons_zero, List.getElem_cons_succ, List.setIfInBounds_toArray, List.set_cons_zero, List.set_cons_succ]
                        refine wpAnyL_take 21 (v := undef) rfl (by kernel_rfl) (by kernel_rfl) (by kernel_rfl) (by kernel_rfl) (fun _ _ _ h => h) (Or.inr ⟨by rfl, rfl⟩) hS3 ?_
                        try simp only [Act.put, List.getElem_toArray, List.getElem_cons_zero, List.getElem_cons_succ, List.setIfInBounds_toArray, List.set_cons_zero, List.set_cons_succ]
                        refine wpAnyL_take 22 (v := undef) rfl (by kernel_rfl) (by kernel_rfl) (by kernel_rfl) (by kernel_rfl) (fun _ _ _ h => h) (Or.inr ⟨by rfl, rfl⟩) hS3 ?_
                        try simp only [Act.put, List.getElem_toArray, List.getElem_cons_zero, List.getElem_cons_succ, List.setIfInBounds_toArray, List.set_cons_zero, List.set_cons_succ]
                        refine wpAnyL_take 23 (v := ?_) rfl (by kernel_rfl) (by kernel_rfl) (by kernel_rfl) (by kernel_rfl) (fun _ _ _ h => h) (Or.inl ⟨by rfl, ?_⟩) hS3 ?_
                        rotate_left
                        · (intro w hSw; (try dsimp only at hSw); go_simp) <;> (try with_reducible rfl)
                        try simp only [Act.put, List.getElem_toArray, List.getElem_cons_zero, List.getElem_cons_succ, List.setIfInBounds_toArray, List.set_cons_zero, List.set_cons_succ]
                        refine wpAnyL_one 24 (by kernel_rfl) rfl (fun K hK => ?_)
                        go_simp
                        refine hK.out _ _ (fun h => absurd h (not_rem (by kernel_rfl))) ?_
                        clear hK K
                        try simp only [Act.put, List.getElem_toArray, List.getElem_cons_zero, List.getElem_cons_succ, List.setIfInBounds_toArray, List.set_cons_zero, List.set_cons_succ]
                        refine wpAnyL_done (by kernel_rfl) ?_ _
                        have HB2 := Lib.hid (HB.out.trans (B3.mono HB.out.size))
                        go_wp2_with fail
                        go_ret
                        exact ⟨rfl, HB2.out⟩
                      · have h00 : (R2 == 0) = false := by simpa using h0
                        have hge : LR ≤ R2 := HLR.out.resolve_left h0
                        have hged : decide (LR ≤ R2) = true := decide_eq_true hge
                        clear h0
                        refine wp_region_L (fun w' => w'.cell? ⟨w9.heap.size, 0, none⟩ = some (.int .i64 r.1) ∧ w'.cell? ⟨w9.heap.size, 1, none⟩ = some (.int .i64 r.2.1) ∧ w'.cell? ⟨w9.heap.size, 2, none⟩ = some (.slice xa_r n_r xc_r)) (by kernel_rfl) ?_
                        refine wpAnyL_take 0 (v := ?_) rfl (by kernel_rfl) (by kernel_rfl) (by kernel_rfl) (by kernel_rfl) (fun _ _ _ h => h) (Or.inl ⟨by rfl, ?_⟩) hSd ?_
                        rotate_left
                        · (intro w hSw; (try dsimp only at hSw); go_simp) <;> (try with_reducible rfl)
                        try simp only [Act.put, List.getElem_toArray, List.getElem_cons_zero, List.getElem_cons_succ, List.setIfInBounds_toArray, List.set_cons_zero, List.set_cons_succ]
                        refine wpAnyL_one 1 (by kernel_rfl) rfl (fun K hK => ?_)
                        go_simp
                        have HQ := K1.out _ B1
                        (with_reducible refine HQ.mono ?_)
                        clear HQ
                        rintro e u1 ⟨rfl, q1⟩
                        have B2 := B1.trans (q1.mono B1.size)
                        have hS2 := HSS.out _ B2
                        go_wp2_with fail
                        refine hK.out _ _ (fun _ => hS2) ?_
                        clear hK K
                        try simp only [Act.put, List.getElem_toArray, List.getElem_cons_zero, List.getElem_cons_succ, List.setIfInBounds_toArray, List.set_cons_zero, List.set_cons_succ]
                        refine wpAnyL_take 2 (v := ?_) rfl (by kernel_rfl) (by kernel_rfl) (by kernel_rfl) (by kernel_rfl) (fun _ _ _ h => h) (Or.inl ⟨by rfl, ?_⟩) hS2 ?_
                        rotate_left
                        · (intro w hSw; (try dsimp only at hSw); go_simp) <;> (try with_reducible rfl)
                        try simp only [Act.put, List.getElem_toArray, List.getElem_cons_zero, List.getElem_cons_succ, List.setIfInBounds_toArray, List.set_cons_zero, List.set_cons_succ]
                        refine wpAnyL_take 3 (v := ?_) rfl (by kernel_rfl) (by kernel_rfl) (by kernel_rfl) (by kernel_rfl) (fun _ _ _ h => h) (Or.inl ⟨by rfl, ?_⟩) hS2 ?_
                        rotate_left
                        · (intro w hSw; (try dsimp only at hSw); go_simp) <;> (try with_reducible rfl)
                        try simp only [Act.put, List.getElem_toArray, List.getElem_cons_zero, List.getElem_cons_succ, List.setIfInBounds_toArray, List.set_cons_zero, List.set_cons_succ]
                        refine wpAnyL_take 4 (v := ?_) rfl (by kernel_rfl) (by kernel_rfl) (by kernel_rfl) (by kernel_rfl) (fun _ _ _ h => h) (Or.inl ⟨by rfl, ?_⟩) hS2 ?_
                        rotate_left
                        · (intro w hSw; (try dsimp only at hSw); go_simp) <;> (try with_reducible rfl)
                        try simp only [Act.put, List.getElem_toArray, List.getElem_cons_zero, List.getElem_cons_succ, List.setIfInBounds_toArray, List.set_cons_zero, List.set_cons_succ]
                        refine wpAnyL_take 5 (v := ?_) rfl (by kernel_rfl) (by kernel_rfl) (by kernel_rfl) (by kernel_rfl) (fun _ _ _ h => h) (Or.inl ⟨by rfl, ?_⟩) hS2 ?_
                        rotate_left
                        · (intro w hSw; (try dsimp only at hSw); go_simp) <;> (try with_reducible rfl)
                        try simp only [Act.put, List.getElem_toArray, List.getElem_cons_zero, List.getElem_cons_succ, List.setIfInBounds_toArray, List.set_cons_zero, List.set_cons_succ]
                        refine wpAnyL_take 6 (v := ?_) rfl (by kernel_rfl) (by kernel_rfl) (by kernel_rfl) (by kernel_rfl) (fun _ _ _ h => h) (Or.inl ⟨by rfl, ?_⟩) hS2 ?_
                        rotate_left
                        · (intro w hSw; (try dsimp only at hSw); go_simp) <;> (try with_reducible rfl)
                        try simp only [Act.put, List.getElem_toArray, List.getElem_cons_zero, List.getElem_cons_succ, List.setIfInBounds_toArray, List.set_cons_zero, List.set_cons_succ]
                        refine wpAnyL_one 7 (by kernel_rfl) rfl (fun K hK => ?_)
                        go_simp
                        (with_reducible refine (K2.out _).mono ?_)
                        rintro e w9 ⟨rfl, hw9⟩
                        rw [← hw9]
                        clear hw9 w9
                        go_wp2_with fail
                        refine hK.out _ _ (fun _ => hS2) ?_
                        clear hK K
                        try simp only [Act.put, List.getElem_toArray, List.getElem_cons_zero, List.getElem_cons_succ, List.setIfInBounds_toArray, List.set_cons_zero, List.set_cons_succ]
                        refine wpAnyL_take 8 (v := ?_) rfl (by kernel_rfl) (by kernel_rfl) (by kernel_rfl) (by kernel_rfl) (fun _ _ _ h => h) (Or.inl ⟨by rfl, ?_⟩) hS2 ?_
                        rotate_left
                        · (intro w hSw; (try dsimp only at hSw); go_simp) <;> (try with_reducible rfl)
                        try simp only [Act.put, List.getElem_toArray, List.getElem_cons_zero, List.getElem_cons_succ, List.setIfInBounds_toArray, List.set_cons_zero, List.set_cons_succ]
                        refine wpAnyL_take 9 (v := ?_) rfl (by kernel_rfl) (by kernel_rfl) (by kernel_rfl) (by kernel_rfl) (fun _ _ _ h => h) (Or.inl ⟨by rfl, ?_⟩) hS2 ?_
                        rotate_left
                        · (intro w hSw; (try dsimp only at hSw); go_simp) <;> (try with_reducible rfl)
                        try simp only [Act.put, List.getElem_toArray, List.getElem_cons_zero, List.getElem_cons_succ, List.setIfInBounds_toArray, List.set_cons_zero, List.set_cons_succ]
                        refine wpAnyL_take 10 (v := ?_) rfl (by kernel_rfl) (by kernel_rfl) (by kernel_rfl) (by kernel_rfl) (fun _ _ _ h => h) (Or.inl ⟨by rfl, ?_⟩) hS2 ?_
                        rotate_left
                        · (intro w hSw; (try dsimp only at hSw); go_simp) <;> (try with_reducible rfl)
                        try simp only [Act.put, List.getElem_toArray, List.getElem_cons_zero, List.getElem_cons_succ, List.setIfInBounds_toArray, List.set_cons_zero, List.set_cons_succ]
                        refine wpAnyL_take 11 (v := ?_) rfl (by kernel_rfl) (by kernel_rfl) (by kernel_rfl) (by kernel_rfl) (fun _ _ _ h => h) (Or.inl ⟨by rfl, ?_⟩) hS2 ?_
                        rotate_left
                        · (intro w hSw; (try dsimp only at hSw); go_simp) <;> (try with_reducible rfl)
                        try simp only [Act.put, List.getElem_toArray, List.getElem_cons_zero, List.getElem_cons_succ, List.setIfInBounds_toArray, List.set_cons_zero, List.set_cons_succ]
                        refine wpAnyL_take 12 (v := ?_) rfl (by kernel_rfl) (by kernel_rfl) (by kernel_rfl) (by kernel_rfl) (fun _ _ _ h => h) (Or.inl ⟨by rfl, ?_⟩) hS2 ?_
                        rotate_left
                        · (intro w hSw; (try dsimp only at hSw); go_simp) <;> (try with_reducible rfl)
                        try simp only [Act.put, List.getElem_toArray, List.getElem_cons_zero, List.getElem_cons_succ, List.setIfInBounds_toArray, List.set_cons_zero, List.set_cons_succ]
                        refine wpAnyL_one 13 (by kernel_rfl) rfl (fun K hK => ?_)
                        go_simp
                        have HQ := K3.out _ B2
                        (with_reducible refine HQ.mono ?_)
                        clear HQ
                        rintro e u2 ⟨rfl, q2⟩
                        have B3 := B2.trans (q2.mono B2.size)
                        have hS3 := HSS.out _ B3
                        go_wp2_with fail
                        refine hK.out _ _ (fun _ => hS3) ?_
                        clear hK K
                        try simp only [Act.put, List.getElem_toArray, List.getElem_cons_zero, List.getElem_cons_succ, List.setIfInBounds_toArray, List.set_cons_zero, List.set_cons_succ]
                        refine wpAnyL_take 14 (v := ?_) rfl (by kernel_rfl) (by kernel_rfl) (by kernel_rfl) (by kernel_rfl) (fun _ _ _ h => h) (Or.inl ⟨by rfl, ?_⟩) hS3 ?_
                        rotate_left
                        · (intro w hSw; (try dsimp only at hSw); go_simp) <;> (try with_reducible rfl)
                        try simp only [Act.put, List.getElem_toArray, List.getElem_cons_zero, List.getElem_cons_succ, List.setIfInBounds_toArray, List.set_cons_zero, List.set_cons_succ]
                        refine wpAnyL_take 15 (v := ?_) rfl (by kernel_rfl) (by kernel_rfl) (by kernel_rfl) (by kernel_rfl) (fun _ _ _ h => h) (Or.inl ⟨by rfl, ?_⟩) hS3 ?_
                        rotate_left
                        · (intro w hSw; (try dsimp only at hSw); go_simp) <;> (try with_reducible rfl)
                        try simp only [Act.put, List.getElem_toArray, List.getElem_cons_zero, List.getElem_cons_succ, List.setIfInBounds_toArray, List.set_cons_zero, List.set_cons_succ]
                        refine wpAnyL_take 16 (v := ?_) rfl (by kernel_rfl) (by kernel_rfl) (by kernel_rfl) (by kernel_rfl) (fun _ _ _ h => h) (Or.inl ⟨by rfl, ?_⟩) hS3 ?_
                        rotate_left
                        · (intro w hSw; (try dsimp only at hSw); go_simp) <;> (try with_reducible rfl)
                        try simp only [Act.put, List.getElem_toArray, List.getElem_cons_zero, List.getElem_cons_succ, List.setIfInBounds_toArray, List.set_cons_zero, List.set_cons_succ]
                        refine wpAnyL_take 17 (v := ?_) rfl (by kernel_rfl) (by kernel_rfl) (by kernel_rfl) (by kernel_rfl) (fun _ _ _ h => h) (Or.inl ⟨by rfl, ?_⟩) hS3 ?_
                        rotate_left
                        · (intro w hSw; (try dsimp only at hSw); go_simp) <;> (try with_reducible rfl)
                        try simp only [Act.put, List.getElem_toArray, List.getElem_cons_zero, List.getElem_cons_succ, List.setIfInBounds_toArray, List.set_cons_zero, List.set_cons_succ]
                        refine wpAnyL_take 18 (v := ?_) rfl (by kernel_rfl) (by kernel_rfl) (by kernel_rfl) (by kernel_rfl) (fun _ _ _ h => h) (Or.inl ⟨by rfl, ?_⟩) hS3 ?_
                        rotate_left
                        · (intro w hSw; (try dsimp only at hSw); go_simp) <;> (try with_reducible rfl)
                        try simp only [Act.put, List.getElem_toArray, List.getElem_cons_zero, List.getElem_cons_succ, List.setIfInBounds_toArray, List.set_cons_zero, List.set_cons_succ]
                        refine wpAnyL_take 20 (v := ?_) rfl (by kernel_rfl) (by kernel_rfl) (by kernel_rfl) (by kernel_rfl) (fun _ _ _ h => h) (Or.inl ⟨by rfl, ?_⟩) hS3 ?_
                        rotate_left
                        · (intro w hSw; (try dsimp only at hSw); go_simp) <;> (try with_reducible rfl)
                        try simp only [Act.put, List.getElem_toArray, List.getElem_cons_zero, List.getElem_cons_succ, List.setIfInBounds_toArray, List.set_cons_zero, List.set_cons_succ]
                        refine wpAnyL_one 19 (by kernel_rfl) rfl (fun K hK => ?_)
                        go_simp
                        have HQ := K3.out _ B3
                        (with_reducible refine HQ.mono ?_)
                        clear HQ
                        rintro e u3 ⟨rfl, q3⟩
                        have B4 := B3.trans (q3.mono B3.size)
                        have hS4 := HSS.out _ B4
                        go_wp2_with fail
                        refine hK.out _ _ (fun _ => hS4) ?_
                        clear hK K
                        try simp only [Act.put, List.getElem_toArray, List.getElem_cons_zero, List.getElem_cons_succ, List.setIfInBounds_toArray, List.set_cons_zero, List.set_cons_succ]
                        refine wpAnyL_one 21 (by kernel_rfl) rfl (fun K hK => ?_)
                        go_simp
                        have HQ := K4.out _ B4
                        (with_reducible refine HQ.mono ?_)
                        clear HQ
                        rintro e u4 ⟨rfl, q4⟩
                        have B5 := B4.trans (q4.mono B4.size)
                        have hS5 := HSS.out _ B5
                        go_wp2_with fail
                        refine hK.out _ _ (fun _ => hS5) ?_
                        clear hK K
                        try simp only [Act.put, List.getElem_toArray, List.getElem_cons_zero, List.getElem_cons_succ, List.setIfInBounds_toArray, List.set_cons_zero, List.set_cons_succ]
                        refine wpAnyL_take 22 (v := ?_) rfl (by kernel_rfl) (by kernel_rfl) (by kernel_rfl) (by kernel_rfl) (fun _ _ _ h => h) (Or.inl ⟨by rfl, ?_⟩) hS5 ?_
                        rotate_left
                        · (intro w hSw; (try dsimp only at hSw); go_simp) <;> (try with_reducible rfl)
                        try simp only [Act.put, List.getElem_toArray, List.getElem_cons_zero, List.getElem_cons_succ, List.setIfInBounds_toArray, List.set_cons_zero, List.set_cons_succ]
                        refine wpAnyL_take 23 (v := ?_) rfl (by kernel_rfl) (by kernel_rfl) (by kernel_rfl) (by kernel_rfl) (fun _ _ _ h => h) (Or.inl ⟨by rfl, ?_⟩) hS5 ?_
                        rotate_left
                        · (intro w hSw; (try dsimp only at hSw); go_simp) <;> (try with_reducible rfl)
                        try simp only [Act.put, List.getElem_toArray, List.getElem_cons_zero, List.getElem_cons_succ, List.setIfInBounds_toArray, List.set_cons_zero, List.set_cons_succ]
                        refine wpAnyL_one 24 (by kernel_rfl) rfl (fun K hK => ?_)
                        go_simp
                        refine hK.out _ _ (fun h => absurd h (not_rem (by kernel_rfl))) ?_
                        clear hK K
                        try simp only [Act.put, List.getElem_toArray, List.getElem_cons_zero, List.getElem_cons_succ, List.setIfInBounds_toArray, List.set_cons_zero, List.set_cons_succ]
                        refine wpAnyL_done (by kernel_rfl) ?_ _
                        have HB2 := Lib.hid (HB.out.trans (B5.mono HB.out.size))
                        go_wp2_with fail
                        go_ret
                        exact ⟨rfl, HB2.out⟩
end Go.Proofs.YtcilgihmaaobeaaDoor
end
