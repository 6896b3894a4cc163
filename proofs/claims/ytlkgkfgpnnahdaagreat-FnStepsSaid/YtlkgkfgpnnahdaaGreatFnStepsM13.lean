/-
  Texts of this claim joined: laws for its walks, contracts of the functions that the law reaches.
-/
import Derived.Test.YtlkgkfgpnnahdaaGreatFnStepsM7
import Derived.Test.YtlkgkfgpnnahdaaGreatFnStepsM9
import Derived.Test.YtlkgkfgpnnahdaaGreatFnStepsM10
import Derived.Test.YtlkgkfgpnnahdaaGreatFnStepsM12
import Derived.Test.YtlkgkfgpnnahdaaGreatFnStepsM1
import Derived.OwnWalk
import Derived.Test.YtlkgkfgpnnahdaaGreatRows
import Derived.Test.YtlkgkfgpnnahdaaGreatFnStepsM3
import Derived.Test.YtlkgkfgpnnahdaaGreatFnStepsM4
section
/-
  The draws of steps: a matrix with a vertex and a part of its row; a step; small linked matrices.
-/
namespace Go.Proofs.YtlkgkfgpnnahdaaGreat
open Go.RowKit Go.Deep Go.Sd
set_option linter.unusedSimpArgs false
theorem l1Min_g (a b : Int) (w : World) : Calls Tryz.prog 68 #[.int .i64 a, .int .i64 b] w fun e w' => ∃ y : Int, e = .returned (.int .i64 y) ∧ y = min a b ∧ w = w' := by
  by_cases h : a < b
  · go_enter Tryz.func68, Tryz.ntmps68
    go_wp2
    go_ret
    exact ⟨a, rfl, by omega, rfl⟩
  · go_enter Tryz.func68, Tryz.ntmps68
    go_wp2
    go_ret
    exact ⟨b, rfl, by omega, rfl⟩
theorem l1Max_g (a b : Int) (w : World) : Calls Tryz.prog 33 #[.int .i64 a, .int .i64 b] w fun e w' => ∃ y : Int, e = .returned (.int .i64 y) ∧ y = max a b ∧ w = w' := by
  by_cases h : a > b
  · go_enter Tryz.func33, Tryz.ntmps33
    go_wp2
    go_ret
    exact ⟨a, rfl, by omega, rfl⟩
  · go_enter Tryz.func33, Tryz.ntmps33
    go_wp2
    go_ret
    exact ⟨b, rfl, by omega, rfl⟩
theorem l1Bit_g (b : Bool) (w : World) : Calls Tryz.prog 67 #[.bool b] w fun e w' => ∃ y : Nat, e = .returned (.int .i64 y) ∧ y ≤ 1 ∧ w = w' := by
  cases b with
  | true =>
    go_enter Tryz.func67, Tryz.ntmps67
    go_wp2
    go_ret
    exact ⟨1, rfl, by omega, rfl⟩
  | false =>
    go_enter Tryz.func67, Tryz.ntmps67
    go_wp2
    go_ret
    exact ⟨0, rfl, by omega, rfl⟩
/-- What is drawn for a split. -/
def CaseP (lo : Nat) (w' : World) (v vp : Value) : Prop := ∃ (m : List (List Int)) (P : List Int), (1 ≤ m.length ∧ m.length ≤ 5 ∧ ∀ r, r ∈ m → r.length ≤ 5) ∧ Far lo w' v m ∧ Ints w' vp P
set_option maxHeartbeats 4000000 in
set_option maxRecDepth 100000 in
theorem l17Case_c {w : World} {vc : Value} {xs : List Int} (h : BytR w vc xs) :
    Calls Tryz.prog 27 #[vc, .bool false] w fun e w' => ∃ (v : Value) (i : Int) (vp : Value), e = .returned (.tuple #[v, .int .i64 i, vp]) ∧ CaseP w.heap.size w' v vp ∧ Below w.heap.size w w' := by
  have HN := Lib.hid (l1New_c h)
  have HK := Lib.hid (fun w' (hb : Below w.heap.size w w') => BytR.frame _ _ _ _ h hb)
  obtain ⟨a, c, rfl, -⟩ := h.cellsB
  clear h
  go_enter Tryz.func27, Tryz.ntmps27
  go_wp2_with fail
  (with_reducible refine HN.out.mono ?_)
  rintro e w1 ⟨rfl, ⟨hh, hs⟩, hb⟩
  have HB := Lib.hid hb
  have HL := Lib.hid (l4Bent_c (cb := w.heap.size) (lo := w.heap.size) (rs := []) (K := .slice a xs.length c) (xs := xs) (w := w1) (fun w' hb' => HK.out w' (hb.trans hb')) ⟨0, hh, Nat.zero_le _, hs⟩ hb.size)
  clear hs hb HN
  go_wp2_with fail
  (with_reducible refine HL.out.mono ?_)
  rintro e w2 ⟨v0, rfl, m, h9, hc, hb⟩
  have HB2 := Lib.hid (HB.out.trans hb)
  have hz2 : w.heap.size ≤ w2.heap.size := HB2.out.size
  have H9 := Lib.hid h9
  have hm1 := h9.1.1
  have hm5 := h9.1.2.1
  obtain ⟨ma, mc, rfl, -, -, hcell⟩ := (hc.out.headNew).tab.shape
  obtain ⟨mb, mo, rfl, -, -⟩ := hcell hm1
  generalize hn : m.length = n at hc hm1 hm5 ⊢
  have Hn := Lib.hid hn
  have HP := Lib.hid (l1Below_c (N := n) (fun w' hb' => HK.out w' (HB2.out.trans hb')) hc hz2 hm1 (by omega))
  clear hb HB HL hc h9 hn hcell
  go_wp2_with fail
  (with_reducible refine HP.out.mono ?_)
  rintro e w3 ⟨x, rfl, hx, hc, hb, -⟩
  have HB3 := Lib.hid (HB2.out.trans hb)
  have HO := Lib.hid (l1Once_i (z := 16) (fun w' hb' => HK.out w' (HB3.out.trans hb')) hc HB3.out.size (by decide) (by decide))
  clear hc hb HP HB2 hz2
  go_wp2_with fail
  (with_reducible refine HO.out.mono ?_)
  rintro e w4 ⟨q, rfl, hc, hb, -⟩
  have HB4 := Lib.hid (HB3.out.trans hb)
  have hz4 : w.heap.size ≤ w4.heap.size := HB4.out.size
  have HBit := Lib.hid (l1Bit_g q w4)
  have HC4 := Lib.hid (hc.new (OInts.kept 3).held ((Below.refl w4.heap.size w4).alloc (Nat.le_refl _) (.cells #[] 3)) hz4 (New.empty w4 (Nat.le_refl _)))
  have HB5 := Lib.hid (HB4.out.alloc hz4 (.cells #[] 3))
  clear hc hb HO HB3
  go_wp2_with fail
  (with_reducible refine HBit.out.mono ?_)
  rintro e w9 ⟨y, rfl, hy, hw9⟩
  rw [← hw9]
  clear hw9 w9 HBit HB4 hz4
  obtain ⟨I, hI⟩ : ∃ I : Int, I = (x : Int) - (y : Int) := ⟨_, rfl⟩
  have hI1 : -1 ≤ I := by omega
  have hI2 : I < (n : Int) := by omega
  go_wp2
  rw [← hI]
  clear hI hx hy
  go_loopg [10, 11] n (fun g pv jv wr => ∃ (j : Nat) (pa : Option Addr) (pc : Nat) (P : List Int), pv = .slice pa j pc ∧ jv = .int .i64 j ∧ j + g = n ∧ Hid (P.length = j) ∧ Hid (Cur w.heap.size wr w.heap.size (.slice a xs.length c) xs.length [Res.ints 3 (.slice pa j pc) P, ResM (.slice (some ⟨mb, mo, none⟩) n mc) m]) ∧ Hid (Below w.heap.size w wr))
  case atStart => exact ⟨0, _, 0, [], rfl, rfl, by omega, Lib.hid rfl, HC4, HB5⟩
  case round =>
    clear HC4 HB5
    obtain ⟨j, pa, pc, P, rfl, rfl, hj, HPl, HC, HB⟩ := hrel
    obtain ⟨w5, rfl⟩ : ∃ x, x = wr := ⟨_, rfl⟩
    have hz : w.heap.size ≤ w5.heap.size := HB.out.size
    by_cases hjn : j < n
    · have hji : (j : Int) < (n : Int) := by omega
      obtain ⟨g, rfl⟩ : ∃ x, gk = x + 1 := ⟨gk - 1, by omega⟩
      have hT := HC.out.tabOf (v := .slice (some ⟨mb, mo, none⟩) n mc) (m := m) (by simp)
      obtain ⟨ma', mc', hv, -, -, hcell⟩ := hT.shape
      simp only [Value.slice.injEq] at hv
      obtain ⟨rfl, -, rfl⟩ := hv
      obtain ⟨b0, o0, hv, hb0, hx0⟩ := hcell (by rw [Hn.out]; omega)
      simp only [Option.some.injEq, Addr.mk.injEq] at hv
      obtain ⟨rfl, rfl, -⟩ := hv
      obtain ⟨r1, hr1, -⟩ := at_lt (xs := m) (k := j) (by rw [Hn.out]; exact hjn)
      obtain ⟨u1, hu1, hru1⟩ := hx0 j r1 hr1
      obtain ⟨ra1, rc1, rfl, -⟩ := hru1.shape
      obtain ⟨i', hi'⟩ : ∃ i' : Nat, (i' : Int) = max 0 I := ⟨(max 0 I).toNat, by omega⟩
      have hin : i' < n := by omega
      have hini : (i' : Int) < (n : Int) := by omega
      obtain ⟨r, hr, -⟩ := at_lt (xs := m) (k := i') (by rw [Hn.out]; exact hin)
      obtain ⟨u, hu, hru⟩ := hx0 i' r hr
      obtain ⟨ra, rc, rfl, hrl, hrc, hcr⟩ := hru.shape
      have hr1' := H9.out.2.2 r (List.mem_of_getElem? hr)
      have hr5 := H9.out.1.2.2 r (List.mem_of_getElem? hr)
      obtain ⟨rb, ro, rfl, hrb, hrx⟩ := hcr hr1'
      obtain ⟨Q, hQ⟩ : ∃ Q : Nat, (Q : Int) = max 0 (min (j : Int) ((r.length : Int) - 1)) := ⟨(max 0 (min (j : Int) ((r.length : Int) - 1))).toNat, by omega⟩
      have hQl : Q < r.length := by omega
      obtain ⟨x, hx, -⟩ := at_lt hQl
      obtain ⟨ux, hux, rfl⟩ := hrx Q x hx
      have hxb := hr5.2 x (List.mem_of_getElem? hx)
      have HM0 := Lib.hid (l1Max_g 0 I w5)
      have HBy := Lib.hid (fun w' hb => HK.out w' (HB.out.trans hb))
      obtain ⟨L, hL⟩ : ∃ L, L = r.length := ⟨_, rfl⟩
      have hr5l := hr5.1
      rw [← hL] at hu hQ hQl hr1' hr5l
      generalize r1.length = l1 at hu1
      have HMn := Lib.hid (l1Min_g (j : Int) ((L : Int) - 1) w5)
      have HMx := Lib.hid (fun y => l1Max_g 0 y w5)
      have HMn9 := Lib.hid (l1Min_g 9 x w5)
      have hQi : (Q : Int) < (L : Int) := by omega
      obtain ⟨hx1, hx2⟩ := hxb
      have HI := Lib.hid hi'
      have HQ := Lib.hid hQ
      clear hT hcell hx0 hr1 hru1 hr hru hcr hrx hx hr5 hL hrl hrc hb0 hrb hi' hQ
      go_wp2_with fail
      (with_reducible refine HM0.out.mono ?_)
      rintro e w9 ⟨y0, rfl, hy0, hw9⟩
      rw [← hw9]
      clear hw9 w9 HM0
      obtain rfl : y0 = (i' : Int) := by have := HI.out; omega
      clear hy0
      go_wp2_with fail
      (with_reducible refine HMn.out.mono ?_)
      rintro e w9 ⟨y1, rfl, hy1, hw9⟩
      rw [← hw9]
      have HY1 := Lib.hid hy1
      clear hw9 w9 HMn hy1
      go_wp2_with fail
      (with_reducible refine (HMx.out y1).mono ?_)
      rintro e w9 ⟨y2, rfl, hy2, hw9⟩
      rw [← hw9]
      clear hw9 w9
      obtain rfl : y2 = (Q : Int) := by have := HQ.out; have := HY1.out; omega
      clear HY1 hy2 HQ HI
      go_wp2_with fail
      (with_reducible refine HMn9.out.mono ?_)
      rintro e w9 ⟨y3, rfl, hy3, hw9⟩
      rw [← hw9]
      have HY3 := Lib.hid hy3
      clear hw9 w9 HMn9 hy3
      go_wp2_with fail
      (with_reducible refine (HMx.out y3).mono ?_)
      rintro e w9 ⟨y4, rfl, hy4, hw9⟩
      rw [← hw9]
      clear hw9 w9 HMx
      have h40 : 0 ≤ y4 := by omega
      have h49 : y4 ≤ 9 := by have := HY3.out; omega
      have HP := Lib.hid (l1Below_i (z := 1 + y4) HBy.out HC.out hz (by omega) (by omega))
      clear HY3 hy4 hx1 hx2
      go_wp2_with fail
      (with_reducible refine HP.out.mono ?_)
      rintro e w6 ⟨t, rfl, -, hc, hb, -⟩
      have hz6 : w.heap.size ≤ w6.heap.size := Nat.le_trans hz hb.size
      obtain ⟨pa', pc', w7, hr7, hc7, hb7⟩ := hc.pushInt hz6 (t : Int) (by have := HPl.out; omega)
      rw [HPl.out] at hr7 hc7
      have Hr7 := Lib.hid hr7
      have HC7 := Lib.hid hc7
      have HB7 := Lib.hid ((HB.out.trans hb).trans hb7)
      have HPl7 := Lib.hid (show (P ++ [(t : Int)]).length = j + 1 from by simp [HPl.out])
      clear hc hb hr7 hc7 hb7 HP HBy HC HB hu hu1 hux
      go_wp2_with (at_builtin; refine wpl_append_run rfl (.tmp 46) (.tmp 61) 46 rfl rfl rfl Hr7.out ?_)
      go_roundg g
      case measure => omega
      case rel => exact ⟨j + 1, pa', pc', P ++ [(t : Int)], rfl, by go_num, by omega, HPl7, HC7, HB7⟩
    · have hji : ¬ ((j : Int) < (n : Int)) := by omega
      have HO := Lib.hid (l1Once_i (z := 12) (fun w' hb' => HK.out w' (HB.out.trans hb')) HC.out hz (by decide) (by decide))
      have Hsz := Lib.hid (show 1 ≤ m.length ∧ m.length ≤ 5 ∧ ∀ r, r ∈ m → r.length ≤ 5 from ⟨by rw [Hn.out]; exact hm1, by rw [Hn.out]; exact hm5, fun r hr => (H9.out.1.2.2 r hr).1⟩)
      go_wp2_with fail
      (with_reducible refine HO.out.mono ?_)
      rintro e w6 ⟨q, rfl, hc, hb, -⟩
      have HB6 := Lib.hid (HB.out.trans hb)
      have hz6 : w.heap.size ≤ w6.heap.size := HB6.out.size
      cases q with
      | false =>
        have HF := Lib.hid (show CaseP w.heap.size w6 (.slice (some ⟨mb, mo, none⟩) n mc) (.slice pa j pc) from ⟨m, P, Hsz.out, hc.farOf (by simp), hc.intsOf (List.mem_cons_self)⟩)
        clear hc hb HO HC HB hz hz6
        go_wp2
        go_ret3
        exact ⟨_, _, _, rfl, HF.out, HB6.out⟩
      | true =>
        obtain ⟨pa', pc', w7, hr7, hc7, hb7⟩ := hc.pushInt hz6 0 (by have := HPl.out; omega)
        rw [HPl.out] at hr7 hc7
        have Hr7 := Lib.hid hr7
        have HF := Lib.hid (show CaseP w.heap.size w7 (.slice (some ⟨mb, mo, none⟩) n mc) (.slice pa' (j + 1) pc') from ⟨m, _, Hsz.out, hc7.farOf (by simp), hc7.intsOf (List.mem_cons_self)⟩)
        have HB7 := Lib.hid (HB6.out.trans hb7)
        clear hc hb HO HC HB hz hz6 hr7 hc7 hb7
        go_wp2_with (at_builtin; refine wpl_append_run rfl (.tmp 65) (.tmp 66) 46 rfl rfl rfl Hr7.out ?_)
        go_ret3
        exact ⟨_, _, _, rfl, HF.out, HB7.out⟩
theorem l1Max_1' {n : Nat} (hn : 1 ≤ n) (w : World) : Calls Tryz.prog 33 #[.int .i64 1, .int .i64 n] w fun e w' => e = .returned (.int .i64 n) ∧ w = w' := by
  refine (l1Max_g 1 (n : Int) w).mono ?_
  rintro e w' ⟨y, rfl, hy, rfl⟩
  obtain rfl : y = (n : Int) := by omega
  exact ⟨rfl, rfl⟩
/-- Two matrices and a step. -/
def StpDP (lo : Nat) (w' : World) (v vb vx : Value) : Prop := ∃ (a b : List (List Int)) (x : Tb × Tb) (v1 v2 : Value), Far lo w' v a ∧ Far lo w' vb b ∧ vx = .agg #[v1, v2] ∧ Far lo w' v1 x.1 ∧ Far lo w' v2 x.2 ∧ StpSz x
theorem stored_cell {w : World} {B : Nat} {u0 u1 : Value} (c0 : w.cell? ⟨B, 0, none⟩ = some u0) (c1 : w.cell? ⟨B, 1, none⟩ = some u1) (v1 v2 : Value) :
    ((w.setCell ⟨B, 0, none⟩ v1).setCell ⟨B, 1, none⟩ v2).cell? ⟨B, 0, none⟩ = some v1 ∧ ((w.setCell ⟨B, 0, none⟩ v1).setCell ⟨B, 1, none⟩ v2).cell? ⟨B, 1, none⟩ = some v2 ∧ Off [B] w ((w.setCell ⟨B, 0, none⟩ v1).setCell ⟨B, 1, none⟩ v2) := by
  refine ⟨?_, ?_, ?_⟩
  · exact (World.cell?_setCell_other _ _ _ _ (by simp)).trans (World.cell?_setCell_same _ _ _ c0)
  · exact World.cell?_setCell_same _ _ _ ((World.cell?_setCell_other _ _ _ _ (by simp)).trans c1)
  · exact (Off.setCell (p := ⟨B, 0, none⟩) (by simp) _).trans (Off.setCell (p := ⟨B, 1, none⟩) (by simp) _)
set_option maxHeartbeats 4000000 in
set_option maxRecDepth 100000 in
theorem DrawIsStep_c {w : World} {vc : Value} {xs : List Int} (h : BytR w vc xs) :
    Calls Tryz.prog 5 #[vc] w fun e w' => ∃ v vb vx : Value, e = .returned (.tuple #[v, vb, vx]) ∧ StpDP (w.heap.size + 1) w' v vb vx ∧ Below w.heap.size w w' := by
  obtain ⟨w0, e0, hb0, c0, c1, m0⟩ := boxA_ex w 26 (.slice none 0 0) (.slice none 0 0)
  have f0 : w0.frozen? ⟨w.heap.size, 0, none⟩ = false := by rw [← e0]; simp [go_sem]
  have f1 : w0.frozen? ⟨w.heap.size, 1, none⟩ = false := by rw [← e0]; simp [go_sem]
  have h0 := BytR.frame _ _ _ _ h hb0
  have HC := Lib.hid (l17Case_c h0)
  have HK := Lib.hid (fun w' (hb : Below w0.heap.size w0 w') => BytR.frame _ _ _ _ h0 hb)
  have HB0 := Lib.hid hb0
  have HC01 := Lib.hid (⟨c0, c1, f0, f1⟩ : _ ∧ _ ∧ _ ∧ _)
  obtain ⟨a, c, rfl, -⟩ := h.cellsB
  clear h h0 hb0 c0 c1 f0 f1
  have hB1 : w.heap.size + 1 ≤ w0.heap.size := m0
  go_enter Tryz.func5, Tryz.ntmps5
  go_wp2_with fail
  (with_reducible refine HC.out.mono ?_)
  rintro e w1 ⟨v, i, vp, rfl, ⟨m, P, hsz, hm, hp⟩, hb⟩
  have HB1 := Lib.hid hb
  have HM := Lib.hid (hm.mono hB1)
  have HSz := Lib.hid hsz
  have HSp := Lib.hid (spec_SplitPair_c (i := i) hm.tab hp)
  have HP := Lib.hid hp
  obtain ⟨ma, mc, rfl, -⟩ := hm.tab.shape
  obtain ⟨pa, pc, rfl, -⟩ := hp.shape
  generalize hn : m.length = n at HM HSz HSp ⊢
  clear hm hp hb HC e0 hsz hn
  generalize P.length = np at HP HSp ⊢
  go_wp2_with fail
  (with_reducible refine HSp.out.mono ?_)
  rintro e w2 ⟨r, s, rfl, ⟨F, G, hF, hG, fF, fG, -⟩, hb⟩
  have hz1 : w.heap.size + 1 ≤ w1.heap.size := Nat.le_trans hB1 HB1.out.size
  have HB2 := Lib.hid (HB1.out.trans (hb.mono HB1.out.size))
  replace HM := Lib.hid (HM.out.below hb)
  have HP2 := Lib.hid (Ints.frame _ _ _ _ HP.out hb)
  have HR := Lib.hid (show Far (w.heap.size + 1) w2 r (pairRV m i P) from ⟨F, hF, fun b hb => Nat.le_trans hz1 (fF.2 b hb)⟩)
  have HS := Lib.hid (show Far (w.heap.size + 1) w2 s (pairSV m i P) from ⟨G, hG, fun b hb => Nat.le_trans hz1 (fG.2 b hb)⟩)
  have HSz1 := Lib.hid (show StpSz (pairRV m i P, pairSV m i P) from ⟨⟨Nat.le_trans (pairRV_bd m i P).1 (by decide), fun r hr => Nat.le_trans ((pairRV_bd m i P).2 r hr) (by decide)⟩, Nat.le_trans (pairSV_bd m i P).1 (by decide), fun r hr => Nat.le_trans ((pairSV_bd m i P).2 r hr) (by decide)⟩)
  have HSO := Lib.hid (spec_SplitOut_c (i := i) HM.out.tab HP2.out)
  obtain ⟨ra, rc, rfl, -⟩ := HR.out.tab.shape
  obtain ⟨sa, sc, rfl, -⟩ := HS.out.tab.shape
  generalize hpR : pairRV m i P = R at HR HSz1 ⊢
  generalize hpS : pairSV m i P = S at HS HSz1 ⊢
  generalize hrn : R.length = rn at HR ⊢
  generalize hsn : S.length = sn at HS ⊢
  clear hF hG fF fG hb HSp HP HB1 hpR hpS hrn hsn
  obtain ⟨ok, hok⟩ : ∃ ok, ok = splitOk m i P := ⟨_, rfl⟩
  rw [← hok] at HSO ⊢
  clear hok
  go_wp2_with fail
  (with_reducible refine HSO.out.mono ?_)
  rintro e w3 ⟨vn, rfl, hn, hb⟩
  have hz2 : w.heap.size + 1 ≤ w2.heap.size := Nat.le_trans hB1 HB2.out.size
  have HB3 := Lib.hid (HB2.out.trans (hb.mono HB2.out.size))
  replace HM := Lib.hid (HM.out.below hb)
  replace HR := Lib.hid (HR.out.below hb)
  replace HS := Lib.hid (HS.out.below hb)
  have HN := Lib.hid ((Far.new hn).mono hz2)
  obtain ⟨na, nc, rfl, -⟩ := hn.tab.shape
  generalize splitV m i P = V at HN ⊢
  generalize V.length = vn at HN ⊢
  have HNew := Lib.hid (l1New_c (HK.out _ HB3.out))
  clear hn hb HSO HB2 HP2 hz1 hz2
  go_wp2_with fail
  (with_reducible refine HNew.out.mono ?_)
  rintro e w4 ⟨rfl, ⟨hh, hs⟩, hb⟩
  have HB4 := Lib.hid (HB3.out.trans (hb.mono HB3.out.size))
  have HK4 := Lib.hid (fun w' (hb' : Below w3.heap.size w4 w') => HK.out w' (HB3.out.trans ((hb.trans hb').mono HB3.out.size)))
  have HO := Lib.hid (l1Once_i (z := 2) (lo := w3.heap.size) (cb := w3.heap.size) (rs := []) (K := .slice a xs.length c) (xs := xs) (w := w4) HK4.out ⟨0, hh, Nat.zero_le _, hs⟩ hb.size (by decide) (by decide))
  have HB34 := Lib.hid hb
  clear hs hb HNew HK HK4
  have hFo : ∀ b, b ∈ [w.heap.size] → b < w.heap.size + 1 := by simp
  have Hfin := Lib.hid (fun (wE : World) (u1 u2 : Value) (hE : Below w0.heap.size w0 wE) => (show _ ∧ Below w.heap.size w ((wE.setCell ⟨w.heap.size, 0, none⟩ u1).setCell ⟨w.heap.size, 1, none⟩ u2) from ⟨stored_cell ((hE.cell (p := ⟨w.heap.size, 0, none⟩) m0).trans HC01.out.1) ((hE.cell (p := ⟨w.heap.size, 1, none⟩) m0).trans HC01.out.2.1) u1 u2, ((HB0.out.trans (hE.mono (Nat.le_of_lt m0))).setCell (p := ⟨w.heap.size, 0, none⟩) (Nat.le_refl _) _).setCell (p := ⟨w.heap.size, 1, none⟩) (Nat.le_refl _) _⟩))
  cases ok with
  | true =>
    go_wp2_with fail
    (with_reducible refine HO.out.mono ?_)
    rintro e w5 ⟨q, rfl, -, hb, -⟩
    have hb35 := HB34.out.trans hb
    have HB5 := Lib.hid (HB3.out.trans (hb35.mono HB3.out.size))
    replace HM := Lib.hid (HM.out.below hb35)
    replace HR := Lib.hid (HR.out.below hb35)
    replace HS := Lib.hid (HS.out.below hb35)
    replace HN := Lib.hid (HN.out.below hb35)
    have g0 := (HB5.out.cell (p := ⟨w.heap.size, 0, none⟩) m0).trans HC01.out.1
    have g1 := (HB5.out.cell (p := ⟨w.heap.size, 1, none⟩) m0).trans HC01.out.2.1
    have k0 := (HB5.out.frozen (p := ⟨w.heap.size, 0, none⟩) m0).trans HC01.out.2.2.1
    have k1 := (HB5.out.frozen (p := ⟨w.heap.size, 1, none⟩) m0).trans HC01.out.2.2.2
    clear hb hb35 HO HB34 HB3 HB4
    cases q with
    | true =>
      obtain ⟨⟨r0, r1, ho⟩, hbF⟩ := Hfin.out w5 (.slice ra rn rc) (.slice sa sn sc) HB5.out
      have HL := Lib.hid (show StpDP (w.heap.size + 1) ((w5.setCell ⟨w.heap.size, 0, none⟩ (.slice ra rn rc)).setCell ⟨w.heap.size, 1, none⟩ (.slice sa sn sc)) (.slice ma n mc) (.slice na vn nc) (.agg #[.slice ra rn rc, .slice sa sn sc]) from ⟨m, V, (R, S), _, _, HM.out.off ho hFo, HN.out.off ho hFo, rfl, HR.out.off ho hFo, HS.out.off ho hFo, HSz1.out⟩)
      have HBF := Lib.hid hbF
      clear ho hbF
      go_wp2
      refine bodyPost_ret (v := .tuple #[.slice ma n mc, .slice na vn nc, .agg #[.slice ra rn rc, .slice sa sn sc]]) (by simp [results, Tryz.results5, go_sem, r0, r1]) rfl ?_
      exact ⟨_, _, _, rfl, HL.out, HBF.out⟩
    | false =>
      obtain ⟨⟨r0, r1, ho⟩, hbF⟩ := Hfin.out w5 (.slice sa sn sc) (.slice ra rn rc) HB5.out
      have HL := Lib.hid (show StpDP (w.heap.size + 1) ((w5.setCell ⟨w.heap.size, 0, none⟩ (.slice sa sn sc)).setCell ⟨w.heap.size, 1, none⟩ (.slice ra rn rc)) (.slice na vn nc) (.slice ma n mc) (.agg #[.slice sa sn sc, .slice ra rn rc]) from ⟨V, m, (S, R), _, _, HN.out.off ho hFo, HM.out.off ho hFo, rfl, HS.out.off ho hFo, HR.out.off ho hFo, ⟨HSz1.out.2, HSz1.out.1⟩⟩)
      have HBF := Lib.hid hbF
      clear ho hbF
      go_wp2
      refine bodyPost_ret (v := .tuple #[.slice na vn nc, .slice ma n mc, .agg #[.slice sa sn sc, .slice ra rn rc]]) (by simp [results, Tryz.results5, go_sem, r0, r1]) rfl ?_
      exact ⟨_, _, _, rfl, HL.out, HBF.out⟩
  | false =>
    have HMx := Lib.hid (l1Max_1' HSz.out.1 w4)
    have HOn := Lib.hid (l4One_c (w := w4) (n := n) (by have := HSz.out.1; omega) (by have := HSz.out.2.1; omega))
    replace HM := Lib.hid (HM.out.below HB34.out)
    have hz4 : w.heap.size + 1 ≤ w4.heap.size := Nat.le_trans hB1 HB4.out.size
    go_wp2_with fail
    (with_reducible refine HMx.out.mono ?_)
    rintro e w9 ⟨rfl, hw9⟩
    rw [← hw9]
    clear hw9 w9 HMx
    go_wp2_with fail
    (with_reducible refine HOn.out.mono ?_)
    rintro e w5 ⟨v6, rfl, hn, hb⟩
    have HB5 := Lib.hid (HB4.out.trans (hb.mono HB4.out.size))
    replace HM := Lib.hid (HM.out.below hb)
    have HO6 := Lib.hid ((Far.new hn).mono hz4)
    obtain ⟨o1, o2, o3, rfl⟩ := hn.slice
    have g0 := (HB5.out.cell (p := ⟨w.heap.size, 0, none⟩) m0).trans HC01.out.1
    have g1 := (HB5.out.cell (p := ⟨w.heap.size, 1, none⟩) m0).trans HC01.out.2.1
    have k0 := (HB5.out.frozen (p := ⟨w.heap.size, 0, none⟩) m0).trans HC01.out.2.2.1
    have k1 := (HB5.out.frozen (p := ⟨w.heap.size, 1, none⟩) m0).trans HC01.out.2.2.2
    obtain ⟨⟨r0, r1, ho⟩, hbF⟩ := Hfin.out w5 (.slice ma n mc) (.slice o1 o2 o3) HB5.out
    have HL := Lib.hid (show StpDP (w.heap.size + 1) ((w5.setCell ⟨w.heap.size, 0, none⟩ (.slice ma n mc)).setCell ⟨w.heap.size, 1, none⟩ (.slice o1 o2 o3)) (.slice ma n mc) (.slice ma n mc) (.agg #[.slice ma n mc, .slice o1 o2 o3]) from ⟨m, m, (m, unitT n), _, _, HM.out.off ho hFo, HM.out.off ho hFo, rfl, HM.out.off ho hFo, HO6.out.off ho hFo, ⟨⟨Nat.le_trans (by have := HM.out.tab.shape; obtain ⟨a', c', hv, -⟩ := this; simp only [Value.slice.injEq] at hv; rw [← hv.2.1]; exact HSz.out.2.1) (by decide), fun r hr => Nat.le_trans (HSz.out.2.2 r hr) (by decide)⟩, by
        have e1 : (unitT n).length = n := tabOf_len _ _ _
        refine ⟨by rw [e1]; exact Nat.le_trans HSz.out.2.1 (by decide), fun r hr => ?_⟩
        rw [show r.length = n from mem_tabOf hr]
        exact Nat.le_trans HSz.out.2.1 (by decide)⟩⟩)
    have HBF := Lib.hid hbF
    clear ho hbF hn hb HOn HB4 hz4 HB34 HO
    go_wp2
    refine bodyPost_ret (v := .tuple #[.slice ma n mc, .slice ma n mc, .agg #[.slice ma n mc, .slice o1 o2 o3]]) (by simp [results, Tryz.results5, go_sem, r0, r1]) rfl ?_
    exact ⟨_, _, _, rfl, HL.out, HBF.out⟩
set_option maxHeartbeats 2000000 in
set_option maxRecDepth 100000 in
theorem DrawTurnStep_c {w : World} {vc : Value} {xs : List Int} (h : BytR w vc xs) :
    Calls Tryz.prog 10 #[vc] w fun e w' => ∃ vx : Value, e = .returned vx ∧ ∃ x : Tb × Tb, StepR w' vx x ∧ StpSz x ∧ Below w.heap.size w w' := by
  obtain ⟨w0, e0, hb0, c0, c1, m0⟩ := boxA_ex w 26 (.slice none 0 0) (.slice none 0 0)
  have f0 : w0.frozen? ⟨w.heap.size, 0, none⟩ = false := by rw [← e0]; simp [go_sem]
  have f1 : w0.frozen? ⟨w.heap.size, 1, none⟩ = false := by rw [← e0]; simp [go_sem]
  have HD := Lib.hid (DrawIsStep_c (BytR.frame _ _ _ _ h hb0))
  have HB0 := Lib.hid hb0
  obtain ⟨a, c, rfl, -⟩ := h.cellsB
  clear h hb0
  go_enter Tryz.func10, Tryz.ntmps10
  go_wp2_with fail
  (with_reducible refine HD.out.mono ?_)
  rintro e w1 ⟨v, vb, vx, rfl, ⟨ma, mb, x, v1, v2, ta, tb, rfl, t1, t2, hsz⟩, hb⟩
  have HB1 := Lib.hid hb
  replace c0 := (hb.cell (p := ⟨w.heap.size, 0, none⟩) m0).trans c0
  replace c1 := (hb.cell (p := ⟨w.heap.size, 1, none⟩) m0).trans c1
  replace f0 := (hb.frozen (p := ⟨w.heap.size, 0, none⟩) m0).trans f0
  replace f1 := (hb.frozen (p := ⟨w.heap.size, 1, none⟩) m0).trans f1
  obtain ⟨p1, p3, rfl, -⟩ := t1.tab.shape
  obtain ⟨q1, q3, rfl, -⟩ := t2.tab.shape
  obtain ⟨aa, ac, rfl, -⟩ := ta.tab.shape
  obtain ⟨ba, bc, rfl, -⟩ := tb.tab.shape
  have HT1 := Lib.hid (t1.mono (show w.heap.size + 1 ≤ w0.heap.size + 1 by omega))
  have HT2 := Lib.hid (t2.mono (show w.heap.size + 1 ≤ w0.heap.size + 1 by omega))
  have HSz := Lib.hid hsz
  generalize x.1.length = p2 at HT1 ⊢
  generalize x.2.length = q2 at HT2 ⊢
  generalize ma.length = na
  generalize mb.length = nb
  have m1 : w.heap.size < w1.heap.size := Nat.lt_of_lt_of_le m0 hb.size
  clear ta tb t1 t2 hb HD hsz e0
  obtain ⟨w2, e2, hb2, d0, d1, m2⟩ := boxA_ex w1 26 (.slice p1 p2 p3) (.slice q1 q2 q3)
  have HB2 := Lib.hid ((HB0.out.trans (HB1.out.mono (Nat.le_of_lt m0))).trans (hb2.mono (Nat.le_of_lt m1)))
  replace HT1 := Lib.hid (HT1.out.below hb2)
  replace HT2 := Lib.hid (HT2.out.below hb2)
  replace c0 := (hb2.cell (p := ⟨w.heap.size, 0, none⟩) m1).trans c0
  replace c1 := (hb2.cell (p := ⟨w.heap.size, 1, none⟩) m1).trans c1
  replace f0 := (hb2.frozen (p := ⟨w.heap.size, 0, none⟩) m1).trans f0
  replace f1 := (hb2.frozen (p := ⟨w.heap.size, 1, none⟩) m1).trans f1
  obtain ⟨r0, r1, ho⟩ := stored_cell c0 c1 (.slice p1 p2 p3) (.slice q1 q2 q3)
  have hFo : ∀ b, b ∈ [w.heap.size] → b < w.heap.size + 1 := by simp
  have HF := Lib.hid (show StepR ((w2.setCell ⟨w.heap.size, 0, none⟩ (.slice p1 p2 p3)).setCell ⟨w.heap.size, 1, none⟩ (.slice q1 q2 q3)) (.agg #[.slice p1 p2 p3, .slice q1 q2 q3]) x from ⟨_, _, rfl, (HT1.out.off ho hFo).tab, (HT2.out.off ho hFo).tab⟩)
  have HBF := Lib.hid ((HB2.out.setCell (p := ⟨w.heap.size, 0, none⟩) (Nat.le_refl _) (.slice p1 p2 p3)).setCell (p := ⟨w.heap.size, 1, none⟩) (Nat.le_refl _) (.slice q1 q2 q3))
  have hne : w1.heap.size ≠ w.heap.size := by omega
  clear ho hb2
  go_wp2
  refine bodyPost_ret (v := .agg #[.slice p1 p2 p3, .slice q1 q2 q3]) (by simp [results, Tryz.results10, go_sem, r0, r1]) rfl ?_
  exact ⟨_, rfl, x, HF.out, HSz.out, HBF.out⟩
set_option maxHeartbeats 1000000 in
set_option maxRecDepth 100000 in
theorem DrawStepsFrom_c {w : World} {vc : Value} {xs : List Int} (h : BytR w vc xs) :
    Calls Tryz.prog 11 #[vc] w fun e w' => ∃ v : Value, e = .returned v ∧ ∃ m : List (List Int), Tab w' v m ∧ Below w.heap.size w w' := by
  have HN := Lib.hid (l1New_c h)
  have HK := Lib.hid (fun w' (hb : Below w.heap.size w w') => BytR.frame _ _ _ _ h hb)
  obtain ⟨a, c, rfl, -⟩ := h.cellsB
  clear h
  go_enter Tryz.func11, Tryz.ntmps11
  go_wp2_with fail
  (with_reducible refine HN.out.mono ?_)
  rintro e w1 ⟨rfl, ⟨hh, hs⟩, hb⟩
  have HB := Lib.hid hb
  have HD := Lib.hid (show Calls Tryz.prog 41 #[.pointer (some ⟨w.heap.size, 0, none⟩), .int .i64 3] w1 _ from l4Draw_c (most := 3) (lo := w.heap.size) (cb := w.heap.size) (rs := []) (K := .slice a xs.length c) (xs := xs) (fun w' hb' => HK.out w' (hb.trans hb')) ⟨0, hh, Nat.zero_le _, hs⟩ hb.size (by omega) (by omega))
  clear hs hb HN
  go_wp2_with fail
  (with_reducible refine HD.out.mono ?_)
  rintro e w2 ⟨v, rfl, m, -, hc, hb⟩
  have HT := Lib.hid (hc.tabOf (v := v) (m := m) (by simp))
  have HB2 := Lib.hid (HB.out.trans hb)
  clear hc hb HD
  go_wp2
  go_ret
  exact ⟨_, rfl, m, HT.out, HB2.out⟩
end Go.Proofs.YtlkgkfgpnnahdaaGreat
end

section
/-
  What a table is for a product; TableTimes, the program's and the reference's.
-/
namespace Go.Proofs.YtlkgkfgpnnahdaaGreat
open Go.RowKit Go.Deep Go.Sd

def tabEnt (x : Int) : Bool := decide (-1000 ≤ x ∧ x ≤ 1000)
def tabRow (n : Nat) (r : List Int) : Bool := decide (r.length = n) && r.all tabEnt
def isTab (l : Nat) (m : List (List Int)) : Bool := decide (1 ≤ m.length ∧ m.length ≤ 9 ∧ 1 ≤ l ∧ l ≤ 9) && m.all (tabRow l)
theorem tabRow_no {n : Nat} {r : List Int} (h : r.length ≠ n) : tabRow n r = false := by unfold tabRow; simp [h]
theorem tabRow_yes {n : Nat} {r : List Int} (h : r.length = n) : tabRow n r = r.all tabEnt := by unfold tabRow; simp [h]

set_option maxHeartbeats 400000 in
theorem isTable_c {w : World} {v : Value} {m : List (List Int)} {l : Nat} (h : Tab w v m) (hl0 : l ≤ 9223372036854775807) :
    Calls Tryz.prog 111 #[v, .int .i64 l] w fun e w' => e = .returned (.bool (isTab l m)) ∧ w = w' := by
  have hlen := h.len
  obtain ⟨a, c, rfl, _, _, hcell⟩ := h.shape
  clear h
  by_cases hs : 1 ≤ m.length ∧ m.length ≤ 9 ∧ 1 ≤ l ∧ l ≤ 9
  · obtain ⟨hs1, hs2, hs3, hs4⟩ := hs
    have H0 := Lib.hid (show isTab l m = (m.drop 0).all (tabRow l) from by unfold isTab; simp [hs1, hs2, hs3, hs4])
    go_enter Tryz.func111, Tryz.ntmps111
    go_wp2
    go_loopg [27] (m.length) (fun g i wr => ∃ (k : Nat), i = .int .i64 k ∧ k + g = m.length ∧ Hid (isTab l m = (m.drop k).all (tabRow l)) ∧ w = wr)
    case atStart => exact ⟨0, rfl, by omega, H0, rfl⟩
    case round =>
      obtain ⟨k, rfl, hk, H, rfl⟩ := hrel
      by_cases hlt : k < m.length
      · obtain ⟨b, o, rfl, hb, hx0⟩ := hcell (by omega)
        obtain ⟨r, hr, hd⟩ := at_lt hlt
        obtain ⟨u, hu, hru⟩ := hx0 k r hr
        have hrl := hru.len
        obtain ⟨ra, rc, rfl, _, _, hrc⟩ := hru.shape
        have H1 := Lib.hid (show isTab l m = (tabRow l r && (m.drop (k + 1)).all (tabRow l)) from by rw [H.out, hd]; rfl)
        clear H hr hd hx0 hcell hru H0
        by_cases hl : r.length = l
        · have H2 := Lib.hid (show isTab l m = ((r.drop 0).all tabEnt && (m.drop (k + 1)).all (tabRow l)) from by rw [H1.out, tabRow_yes hl]; rfl)
          have t1 : ((r.length : Int) != (l : Int)) = false := by simp [hl]
          clear H1 hl
          go_wp2
          go_loopg [37] (r.length) (fun g i wr => ∃ (j : Nat), i = .int .i64 j ∧ j + g = r.length ∧ Hid (isTab l m = ((r.drop j).all tabEnt && (m.drop (k + 1)).all (tabRow l))) ∧ w = wr)
          case atStart => exact ⟨0, rfl, by omega, H2, rfl⟩
          case round =>
            obtain ⟨j, rfl, hj, H, rfl⟩ := hrel
            clear H2
            by_cases hlt2 : j < r.length
            · obtain ⟨b2, o2, rfl, hb2, hx2⟩ := hrc (by omega)
              obtain ⟨x, hx, hdx⟩ := at_lt hlt2
              obtain ⟨u2, hu2, rfl⟩ := hx2 j x hx
              have H1 := Lib.hid (show isTab l m = (tabEnt x && (r.drop (j + 1)).all tabEnt && (m.drop (k + 1)).all (tabRow l)) from by rw [H.out, hdx]; rfl)
              clear H hx hdx hx2 hrc
              by_cases hx1 : x < -1000
              · have H3 := Lib.hid (show isTab l m = false from by rw [H1.out, show tabEnt x = false from by unfold tabEnt; simp; omega]; rfl)
                clear H1
                go_wp2
                go_ret
                exact ⟨by rw [H3.out]; rfl, rfl⟩
              by_cases hx2 : 1000 < x
              · have H3 := Lib.hid (show isTab l m = false from by rw [H1.out, show tabEnt x = false from by unfold tabEnt; simp; omega]; rfl)
                clear H1
                go_wp2
                go_ret
                exact ⟨by rw [H3.out]; rfl, rfl⟩
              have H3 := Lib.hid (show isTab l m = ((r.drop (j + 1)).all tabEnt && (m.drop (k + 1)).all (tabRow l)) from by rw [H1.out, show tabEnt x = true from by unfold tabEnt; simp; omega]; rfl)
              clear H1
              go_wp2
              go_roundg (r.length - (j + 1))
              case measure => omega
              case rel => exact ⟨j + 1, by go_num, by omega, H3, rfl⟩
            · have H1 := Lib.hid (show isTab l m = (m.drop (k + 1)).all (tabRow l) from by rw [H.out, drop_len hlt2]; rfl)
              clear H
              go_wp2
              go_roundg (m.length - (k + 1))
              case measure => omega
              case rel => exact ⟨k + 1, by go_num, by omega, H1, rfl⟩
        · have H2 := Lib.hid (show isTab l m = false from by rw [H1.out, tabRow_no hl]; rfl)
          have t1 : ((r.length : Int) != (l : Int)) = true := by simp; omega
          clear H1
          go_wp2
          go_ret
          exact ⟨by rw [H2.out]; rfl, rfl⟩
      · have H1 := Lib.hid (show isTab l m = true from by rw [H.out, drop_len hlt]; rfl)
        clear H
        go_wp2
        go_ret
        exact ⟨by rw [H1.out]; rfl, rfl⟩
  · have H := Lib.hid (show isTab l m = false from by unfold isTab; simp [hs])
    by_cases h1 : m.length < 1
    · go_enter Tryz.func111, Tryz.ntmps111
      go_wp2
      go_ret
      exact ⟨by rw [H.out]; rfl, rfl⟩
    by_cases h2 : 9 < m.length
    · go_enter Tryz.func111, Tryz.ntmps111
      go_wp2
      go_ret
      exact ⟨by rw [H.out]; rfl, rfl⟩
    by_cases h3 : l < 1
    · go_enter Tryz.func111, Tryz.ntmps111
      go_wp2
      go_ret
      exact ⟨by rw [H.out]; rfl, rfl⟩
    have h4 : 9 < l := by omega
    go_enter Tryz.func111, Tryz.ntmps111
    go_wp2
    go_ret
    exact ⟨by rw [H.out]; rfl, rfl⟩

set_option maxHeartbeats 800000 in
theorem l17Table_c {w : World} {v : Value} {m : List (List Int)} {l : Nat} (h : Tab w v m) (hl0 : l ≤ 9223372036854775807) :
    Calls Tryz.prog 95 #[v, .int .i64 l] w fun e w' => e = .returned (.bool (isTab l m)) ∧ w = w' := by
  have hlen := h.len
  obtain ⟨a, c, rfl, _, _, hcell⟩ := h.shape
  clear h
  have H0 := Lib.hid (show isTab l m = (decide (1 ≤ m.length ∧ m.length ≤ 9 ∧ 1 ≤ l ∧ l ≤ 9) && (m.drop 0).all (tabRow l)) from rfl)
  go_enter Tryz.func95, Tryz.ntmps95
  go_wp2
  go_loopg [5] (m.length) (fun g i wr => ∃ (k : Nat), i = .int .i64 k ∧ k + g = m.length ∧ Hid (isTab l m = (decide (1 ≤ m.length ∧ m.length ≤ 9 ∧ 1 ≤ l ∧ l ≤ 9) && (m.drop k).all (tabRow l))) ∧ w = wr)
  case atStart => exact ⟨0, rfl, by omega, H0, rfl⟩
  case round =>
    obtain ⟨k, rfl, hk, H, rfl⟩ := hrel
    by_cases hlt : k < m.length
    · obtain ⟨b, o, rfl, hb, hx0⟩ := hcell (by omega)
      obtain ⟨r, hr, hd⟩ := at_lt hlt
      obtain ⟨u, hu, hru⟩ := hx0 k r hr
      have hrl := hru.len
      obtain ⟨ra, rc, rfl, _, _, hrc⟩ := hru.shape
      have H1 := Lib.hid (show isTab l m = (decide (1 ≤ m.length ∧ m.length ≤ 9 ∧ 1 ≤ l ∧ l ≤ 9) && (tabRow l r && (m.drop (k + 1)).all (tabRow l))) from by rw [H.out, hd]; rfl)
      clear H hr hd hx0 hcell hru H0
      by_cases hl : r.length = l
      · have H2 := Lib.hid (show isTab l m = (decide (1 ≤ m.length ∧ m.length ≤ 9 ∧ 1 ≤ l ∧ l ≤ 9) && ((r.drop 0).all tabEnt && (m.drop (k + 1)).all (tabRow l))) from by rw [H1.out, tabRow_yes hl]; rfl)
        have t1 : ((r.length : Int) != (l : Int)) = false := by simp [hl]
        have Hl := Lib.hid hl
        have hle : l ≤ r.length := by omega
        clear H1 hl
        go_wp2
        go_loopg [6] l (fun g i wr => ∃ (j : Nat), i = .int .i64 j ∧ j + g = l ∧ Hid (isTab l m = (decide (1 ≤ m.length ∧ m.length ≤ 9 ∧ 1 ≤ l ∧ l ≤ 9) && ((r.drop j).all tabEnt && (m.drop (k + 1)).all (tabRow l)))) ∧ w = wr)
        case atStart => exact ⟨0, rfl, by omega, H2, rfl⟩
        case round =>
          obtain ⟨j, rfl, hj, H, rfl⟩ := hrel
          clear H2
          by_cases hlt2 : j < l
          · obtain ⟨b2, o2, rfl, hb2, hx2⟩ := hrc (by omega)
            obtain ⟨x, hx, hdx⟩ := at_lt (xs := r) (k := j) (by omega)
            obtain ⟨u2, hu2, rfl⟩ := hx2 j x hx
            have H1 := Lib.hid (show isTab l m = (decide (1 ≤ m.length ∧ m.length ≤ 9 ∧ 1 ≤ l ∧ l ≤ 9) && (tabEnt x && (r.drop (j + 1)).all tabEnt && (m.drop (k + 1)).all (tabRow l))) from by rw [H.out, hdx]; rfl)
            clear H hx hdx hx2 hrc
            by_cases hx1 : -1000 ≤ x ∧ x ≤ 1000
            · have H3 := Lib.hid (show isTab l m = (decide (1 ≤ m.length ∧ m.length ≤ 9 ∧ 1 ≤ l ∧ l ≤ 9) && ((r.drop (j + 1)).all tabEnt && (m.drop (k + 1)).all (tabRow l))) from by rw [H1.out, show tabEnt x = true from by unfold tabEnt; simp [hx1]]; rfl)
              have Hc := Lib.hid (l1In_yes w hx1.1 hx1.2)
              clear H1 hx1
              go_wp2_with (go_at_call 58; refine Hc.out.mono ?_; rintro e w' ⟨rfl, rfl⟩)
              go_roundg (l - (j + 1))
              case measure => omega
              case rel => exact ⟨j + 1, by go_num, by omega, H3, rfl⟩
            · have H3 := Lib.hid (show isTab l m = false from by rw [H1.out, show tabEnt x = false from by unfold tabEnt; simp [hx1]]; simp)
              have Hc := Lib.hid (l1In_no (a := x) (b := -1000) (c := 1000) w (by omega))
              clear H1 hx1
              go_wp2_with (go_at_call 58; refine Hc.out.mono ?_; rintro e w' ⟨rfl, rfl⟩)
              go_ret
              exact ⟨by rw [H3.out]; rfl, rfl⟩
          · have H1 := Lib.hid (show isTab l m = (decide (1 ≤ m.length ∧ m.length ≤ 9 ∧ 1 ≤ l ∧ l ≤ 9) && (m.drop (k + 1)).all (tabRow l)) from by rw [H.out, drop_len (by have := Hl.out; omega)]; rfl)
            clear H
            go_wp2
            go_roundg (m.length - (k + 1))
            case measure => omega
            case rel => exact ⟨k + 1, by go_num, by omega, H1, rfl⟩
      · have H2 := Lib.hid (show isTab l m = false from by rw [H1.out, tabRow_no hl]; simp)
        have t1 : ((r.length : Int) != (l : Int)) = true := by simp; omega
        clear H1
        go_wp2
        go_ret
        exact ⟨by rw [H2.out]; rfl, rfl⟩
    · have H1 := Lib.hid (show isTab l m = ((decide (1 ≤ (m.length : Int)) && decide ((m.length : Int) ≤ 9)) && (decide (1 ≤ (l : Int)) && decide ((l : Int) ≤ 9))) from by
        rw [H.out, drop_len hlt]
        by_cases h1 : 1 ≤ m.length <;> by_cases h2 : m.length ≤ 9 <;> by_cases h3 : 1 ≤ l <;> by_cases h4 : l ≤ 9 <;> simp [h1, h2, h3, h4] <;> omega)
      have Hc := Lib.hid (l1In_c (m.length : Int) 1 9 w)
      have Hd := Lib.hid (l1In_c (l : Int) 1 9 w)
      clear H
      generalize (decide (1 ≤ (m.length : Int)) && decide ((m.length : Int) ≤ 9)) = B1 at H1 Hc
      generalize (decide (1 ≤ (l : Int)) && decide ((l : Int) ≤ 9)) = B2 at H1 Hd
      cases B1 with
      | false =>
        go_wp2_with fail
        refine Hc.out.mono ?_
        rintro e w' ⟨rfl, rfl⟩
        go_wp2
        go_ret
        exact ⟨by rw [H1.out]; rfl, rfl⟩
      | true =>
        go_wp2_with fail
        refine Hc.out.mono ?_
        rintro e w' ⟨rfl, rfl⟩
        go_wp2_with fail
        refine Hd.out.mono ?_
        rintro e w' ⟨rfl, rfl⟩
        go_wp2
        go_ret
        exact ⟨by rw [H1.out]; rfl, rfl⟩

def ttOk (a b : List (List Int)) : Bool := decide (b.length ≠ 0) && isTab b.length a && isTab (b.headD []).length b
def ttV (a b : List (List Int)) : List (List Int) := if ttOk a b = true then prodT a b a.length b.length (b.headD []).length else []

theorem _root_.Go.Sd.Bd.mono {B B' : Int} {m : List (List Int)} (h : Bd B m) (hb : B ≤ B') : Bd B' m := fun r hr x hx => by have := h r hr x hx; omega

theorem isTab_sq {l : Nat} {m : List (List Int)} (h : isTab l m = true) : (∀ r, r ∈ m → r.length = l) ∧ Bd 1000 m ∧ 1 ≤ m.length ∧ m.length ≤ 9 ∧ 1 ≤ l ∧ l ≤ 9 := by
  unfold isTab at h
  simp only [Bool.and_eq_true, decide_eq_true_eq, List.all_eq_true] at h
  refine ⟨fun r hr => ?_, fun r hr x hx => ?_, h.1⟩
  · have := h.2 r hr
    unfold tabRow at this
    simp at this
    exact this.1
  · have := h.2 r hr
    unfold tabRow at this
    simp at this
    have := this.2 x hx
    unfold tabEnt at this
    simpa using this

set_option maxHeartbeats 1000000 in
theorem impl_TableTimes_c {w : World} {va vb : Value} {a b : List (List Int)} (h1 : Tab w va a) (h2 : Tab w vb b) :
    Calls Tryz.prog 94 #[va, vb] w (Makes2 (OTab 3 46) w (ttV a b) (ttOk a b)) := by
  have hlb := h2.len
  by_cases hb0 : b.length = 0
  · have HK := Lib.hid (show ttOk a b = false from by unfold ttOk; simp [hb0])
    have HV := Lib.hid (show ttV a b = [] from by unfold ttV; rw [HK.out]; rfl)
    obtain ⟨ba, bc, rfl, _, _, _⟩ := h2.shape
    rw [hb0] at *
    rw [HK.out]
    clear h1 h2
    go_enter Tryz.func94, Tryz.ntmps94
    go_wp2
    go_ret2
    exact ⟨_, rfl, by rw [HV.out]; exact New.nil _ _, Below.refl _ _⟩
  · obtain ⟨r0, hr0, hd0⟩ := at_lt (xs := b) (k := 0) (by omega)
    have hbs := h2.shape
    obtain ⟨ba, bc, rfl, _, _, hbx⟩ := hbs
    obtain ⟨b', o', rfl, hb', hx⟩ := hbx (by omega)
    obtain ⟨u, hu, hur⟩ := hx 0 r0 hr0
    have hu0 : w.cell? ⟨b', o', none⟩ = some u := hu
    have hrl := hur.len
    obtain ⟨ua, uc, rfl, _, _, _⟩ := hur.shape
    have hhd : b.headD [] = r0 := by cases b with | nil => simp at hr0 | cons x xs => simpa using hr0
    have Hc := Lib.hid (isTable_c (l := b.length) h1 hlb)
    have Hd := Lib.hid (isTable_c (l := r0.length) h2 hrl)
    have t0 : ((b.length : Int) == 0) = false := by simp; intro h; simp [h] at hb0
    have ti : (0 : Int) < (b.length : Int) := Int.natCast_pos.2 (Nat.pos_of_ne_zero hb0)
    cases ha : isTab b.length a with
    | false =>
      have HK := Lib.hid (show ttOk a b = false from by unfold ttOk; rw [ha]; simp)
      have HV := Lib.hid (show ttV a b = [] from by unfold ttV; rw [HK.out]; rfl)
      rw [ha] at Hc
      rw [HK.out]
      clear ha h1 h2 hbx hx hr0 hd0 hhd hu hur Hd hb0
      go_enter Tryz.func94, Tryz.ntmps94
      go_wp2_with fail
      refine Hc.out.mono ?_
      rintro e w' ⟨rfl, rfl⟩
      go_wp2
      go_ret2
      exact ⟨_, rfl, by rw [HV.out]; exact New.nil _ _, Below.refl _ _⟩
    | true =>
      rw [ha] at Hc
      cases hb : isTab r0.length b with
      | false =>
        have HK := Lib.hid (show ttOk a b = false from by unfold ttOk; rw [hhd, hb]; simp)
        have HV := Lib.hid (show ttV a b = [] from by unfold ttV; rw [HK.out]; rfl)
        rw [hb] at Hd
        rw [HK.out]
        clear ha hb h1 h2 hbx hx hr0 hd0 hhd hu hur hb0
        go_enter Tryz.func94, Tryz.ntmps94
        go_wp2_with fail
        refine Hc.out.mono ?_
        rintro e w' ⟨rfl, rfl⟩
        go_wp2_with fail
        refine Hd.out.mono ?_
        rintro e w' ⟨rfl, rfl⟩
        go_wp2
        go_ret2
        exact ⟨_, rfl, by rw [HV.out]; exact New.nil _ _, Below.refl _ _⟩
      | true =>
        have HK := Lib.hid (show ttOk a b = true from by unfold ttOk; rw [hhd, ha, hb]; simp [hb0])
        have HV := Lib.hid (show ttV a b = prodT a b a.length b.length r0.length from by unfold ttV; rw [HK.out, hhd]; rfl)
        have sa := isTab_sq ha
        have sb := isTab_sq hb
        have Hm := Lib.hid (times_c h1 h2 rfl sa.1 rfl sb.1 (by omega) (by omega) (by omega) (by omega) (by omega) (by omega) (sa.2.1.mono (by omega)) (sb.2.1.mono (by omega)))
        rw [hb] at Hd
        rw [HK.out]
        clear ha hb h1 h2 hbx hx hr0 hd0 hhd hu hur hb0 sa sb
        go_enter Tryz.func94, Tryz.ntmps94
        go_wp2_with fail
        refine Hc.out.mono ?_
        rintro e w' ⟨rfl, rfl⟩
        go_wp2_with fail
        refine Hd.out.mono ?_
        rintro e w' ⟨rfl, rfl⟩
        go_wp2_with fail
        refine Hm.out.mono ?_
        rintro e w1 ⟨v1, rfl, hn1, hb1⟩
        go_wp2
        go_ret2
        exact ⟨_, rfl, by rw [HV.out]; exact hn1, hb1⟩

set_option maxHeartbeats 1000000 in
theorem spec_TableTimes_c {w : World} {va vb : Value} {a b : List (List Int)} (h1 : Tab w va a) (h2 : Tab w vb b) :
    Calls Tryz.prog 57 #[va, vb] w (Makes2 (OTab 3 46) w (ttV a b) (ttOk a b)) := by
  have hlb := h2.len
  by_cases hb0 : b.length = 0
  · have HK := Lib.hid (show ttOk a b = false from by unfold ttOk; simp [hb0])
    have HV := Lib.hid (show ttV a b = [] from by unfold ttV; rw [HK.out]; rfl)
    obtain ⟨ba, bc, rfl, _, _, _⟩ := h2.shape
    rw [hb0] at *
    rw [HK.out]
    clear h1 h2
    go_enter Tryz.func57, Tryz.ntmps57
    go_wp2
    go_ret2
    exact ⟨_, rfl, by rw [HV.out]; exact New.empty w (Nat.le_refl _), (Below.refl _ _).alloc (Nat.le_refl _) _⟩
  · obtain ⟨r0, hr0, hd0⟩ := at_lt (xs := b) (k := 0) (by omega)
    have hbs := h2.shape
    obtain ⟨ba, bc, rfl, _, _, hbx⟩ := hbs
    obtain ⟨b', o', rfl, hb', hx⟩ := hbx (by omega)
    obtain ⟨u, hu, hur⟩ := hx 0 r0 hr0
    have hu0 : w.cell? ⟨b', o', none⟩ = some u := hu
    have hrl := hur.len
    obtain ⟨ua, uc, rfl, _, _, _⟩ := hur.shape
    have hhd : b.headD [] = r0 := by cases b with | nil => simp at hr0 | cons x xs => simpa using hr0
    have Hc := Lib.hid (l17Table_c (l := b.length) h1 hlb)
    have Hd := Lib.hid (l17Table_c (l := r0.length) h2 hrl)
    have t0 : ((b.length : Int) == 0) = false := by simp; intro h; simp [h] at hb0
    have ti : (0 : Int) < (b.length : Int) := Int.natCast_pos.2 (Nat.pos_of_ne_zero hb0)
    cases ha : isTab b.length a with
    | false =>
      have HK := Lib.hid (show ttOk a b = false from by unfold ttOk; rw [ha]; simp)
      have HV := Lib.hid (show ttV a b = [] from by unfold ttV; rw [HK.out]; rfl)
      rw [ha] at Hc
      rw [HK.out]
      clear ha h1 h2 hbx hx hr0 hd0 hhd hu hur Hd hb0
      go_enter Tryz.func57, Tryz.ntmps57
      go_wp2_with fail
      refine Hc.out.mono ?_
      rintro e w' ⟨rfl, rfl⟩
      go_wp2
      go_ret2
      exact ⟨_, rfl, by rw [HV.out]; exact New.empty w (Nat.le_refl _), (Below.refl _ _).alloc (Nat.le_refl _) _⟩
    | true =>
      rw [ha] at Hc
      cases hb : isTab r0.length b with
      | false =>
        have HK := Lib.hid (show ttOk a b = false from by unfold ttOk; rw [hhd, hb]; simp)
        have HV := Lib.hid (show ttV a b = [] from by unfold ttV; rw [HK.out]; rfl)
        rw [hb] at Hd
        rw [HK.out]
        clear ha hb h1 h2 hbx hx hr0 hd0 hhd hu hur hb0
        go_enter Tryz.func57, Tryz.ntmps57
        go_wp2_with fail
        refine Hc.out.mono ?_
        rintro e w' ⟨rfl, rfl⟩
        go_wp2_with fail
        refine Hd.out.mono ?_
        rintro e w' ⟨rfl, rfl⟩
        go_wp2
        go_ret2
        exact ⟨_, rfl, by rw [HV.out]; exact New.empty w (Nat.le_refl _), (Below.refl _ _).alloc (Nat.le_refl _) _⟩
      | true =>
        have HK := Lib.hid (show ttOk a b = true from by unfold ttOk; rw [hhd, ha, hb]; simp [hb0])
        have HV := Lib.hid (show ttV a b = prodT a b a.length b.length r0.length from by unfold ttV; rw [HK.out, hhd]; rfl)
        have sa := isTab_sq ha
        have sb := isTab_sq hb
        have Hm := Lib.hid (l4Times_c h1 h2 rfl sa.1 rfl sb.1 (by omega) (by omega) (by omega) (by omega) (by omega) (by omega) (sa.2.1.mono (by omega)) (sb.2.1.mono (by omega)))
        rw [hb] at Hd
        rw [HK.out]
        clear ha hb h1 h2 hbx hx hr0 hd0 hhd hu hur hb0 sa sb
        go_enter Tryz.func57, Tryz.ntmps57
        go_wp2_with fail
        refine Hc.out.mono ?_
        rintro e w' ⟨rfl, rfl⟩
        go_wp2_with fail
        refine Hd.out.mono ?_
        rintro e w' ⟨rfl, rfl⟩
        go_wp2_with fail
        refine Hm.out.mono ?_
        rintro e w1 ⟨v1, rfl, hn1, hb1⟩
        go_wp2
        go_ret2
        exact ⟨_, rfl, by rw [HV.out]; exact hn1, hb1⟩

theorem ttV_bd (a b : List (List Int)) : (ttV a b).length ≤ 9 ∧ ∀ x, x ∈ ttV a b → x.length ≤ 9 := by
  unfold ttV
  split
  · rename_i h
    unfold ttOk at h
    simp only [Bool.and_eq_true] at h
    have h1 := isTab_sq h.1.2
    have h2 := isTab_sq h.2
    refine ⟨by unfold prodT; rw [tabOf_len]; omega, fun x hx => by rw [mem_tabOf hx]; omega⟩
  · simp
end Go.Proofs.YtlkgkfgpnnahdaaGreat
end

section
/-
  Tables with no number less than 0, both sides.
-/
namespace Go.Proofs.YtlkgkfgpnnahdaaGreat
open Go.RowKit Go.Deep Go.Sd

def nnOk (x : Int) : Bool := decide (0 ≤ x)
def countM (m : List (List Int)) : Bool := m.all (fun r => r.all nnOk)

set_option maxHeartbeats 400000 in
theorem isCounted_c {w : World} {v : Value} {m : List (List Int)} (h : Tab w v m) :
    Calls Tryz.prog 54 #[v] w fun e w' => e = .returned (.bool (countM m)) ∧ w = w' := by
  have hlen := h.len
  obtain ⟨a, c, rfl, _, _, hcell⟩ := h.shape
  clear h
  have H0 := Lib.hid (show countM m = countM (m.drop 0) from rfl)
  go_enter Tryz.func54, Tryz.ntmps54
  go_wp2
  go_loopg [9] (m.length) (fun g i wr => ∃ (k : Nat), i = .int .i64 k ∧ k + g = m.length ∧ Hid (countM m = countM (m.drop k)) ∧ w = wr)
  case atStart => exact ⟨0, rfl, by omega, H0, rfl⟩
  case round =>
    obtain ⟨k, rfl, hk, H, rfl⟩ := hrel
    by_cases hlt : k < m.length
    · obtain ⟨b, o, rfl, hb, hx0⟩ := hcell (by omega)
      obtain ⟨r, hr, hd⟩ := at_lt hlt
      obtain ⟨u, hu, hru⟩ := hx0 k r hr
      have hrl := hru.len
      obtain ⟨ra, rc, rfl, _, _, hrc⟩ := hru.shape
      have H2 := Lib.hid (show countM m = ((r.drop 0).all nnOk && countM (m.drop (k + 1))) from by rw [H.out, hd]; rfl)
      clear H hr hd hx0 hcell hru H0
      go_wp2
      go_loopg [15] (r.length) (fun g i wr => ∃ (j : Nat), i = .int .i64 j ∧ j + g = r.length ∧ Hid (countM m = ((r.drop j).all nnOk && countM (m.drop (k + 1)))) ∧ w = wr)
      case atStart => exact ⟨0, rfl, by omega, H2, rfl⟩
      case round =>
        obtain ⟨j, rfl, hj, H, rfl⟩ := hrel
        clear H2
        by_cases hlt2 : j < r.length
        · obtain ⟨b2, o2, rfl, hb2, hx2⟩ := hrc (by omega)
          obtain ⟨x, hx, hdx⟩ := at_lt hlt2
          obtain ⟨u2, hu2, rfl⟩ := hx2 j x hx
          have H1 := Lib.hid (show countM m = (nnOk x && (r.drop (j + 1)).all nnOk && countM (m.drop (k + 1))) from by rw [H.out, hdx]; rfl)
          clear H hx hdx hx2 hrc
          by_cases hx1 : x < 0
          · have H3 := Lib.hid (show countM m = false from by rw [H1.out, show nnOk x = false from by unfold nnOk; simp; omega]; rfl)
            clear H1
            go_wp2
            go_ret
            exact ⟨by rw [H3.out]; rfl, rfl⟩
          have H3 := Lib.hid (show countM m = ((r.drop (j + 1)).all nnOk && countM (m.drop (k + 1))) from by rw [H1.out, show nnOk x = true from by unfold nnOk; simp; omega]; rfl)
          clear H1
          go_wp2
          go_roundg (r.length - (j + 1))
          case measure => omega
          case rel => exact ⟨j + 1, by go_num, by omega, H3, rfl⟩
        · have H1 := Lib.hid (show countM m = countM (m.drop (k + 1)) from by rw [H.out, drop_len hlt2]; rfl)
          clear H
          go_wp2
          go_roundg (m.length - (k + 1))
          case measure => omega
          case rel => exact ⟨k + 1, by go_num, by omega, H1, rfl⟩
    · have H1 := Lib.hid (show countM m = true from by rw [H.out, drop_len hlt]; rfl)
      clear H
      go_wp2
      go_ret
      exact ⟨by rw [H1.out]; rfl, rfl⟩
set_option maxHeartbeats 400000 in
theorem l19Rows_c {w : World} {v : Value} {m : List (List Int)} (h : Tab w v m) :
    Calls Tryz.prog 56 #[v] w fun e w' => e = .returned (.bool (countM m)) ∧ w = w' := by
  have hlen := h.len
  obtain ⟨a, c, rfl, _, _, hcell⟩ := h.shape
  clear h
  have H0 := Lib.hid (show countM m = countM (m.drop 0) from rfl)
  go_enter Tryz.func56, Tryz.ntmps56
  go_wp2
  go_loopg [3] (m.length) (fun g i wr => ∃ (k : Nat), i = .int .i64 k ∧ k + g = m.length ∧ Hid (countM m = countM (m.drop k)) ∧ w = wr)
  case atStart => exact ⟨0, rfl, by omega, H0, rfl⟩
  case round =>
    obtain ⟨k, rfl, hk, H, rfl⟩ := hrel
    by_cases hlt : k < m.length
    · obtain ⟨b, o, rfl, hb, hx0⟩ := hcell (by omega)
      obtain ⟨r, hr, hd⟩ := at_lt hlt
      obtain ⟨u, hu, hru⟩ := hx0 k r hr
      have hrl := hru.len
      obtain ⟨ra, rc, rfl, _, _, hrc⟩ := hru.shape
      have H2 := Lib.hid (show countM m = ((r.drop 0).all nnOk && countM (m.drop (k + 1))) from by rw [H.out, hd]; rfl)
      have hi1 : (k : Int) < (m.length : Int) := by omega
      clear H hr hd hx0 hcell hru H0
      go_wp2
      go_loopg [4] (r.length) (fun g i wr => ∃ (j : Nat), i = .int .i64 j ∧ j + g = r.length ∧ Hid (countM m = ((r.drop j).all nnOk && countM (m.drop (k + 1)))) ∧ w = wr)
      case atStart => exact ⟨0, rfl, by omega, H2, rfl⟩
      case round =>
        obtain ⟨j, rfl, hj, H, rfl⟩ := hrel
        clear H2
        by_cases hlt2 : j < r.length
        · obtain ⟨b2, o2, rfl, hb2, hx2⟩ := hrc (by omega)
          obtain ⟨x, hx, hdx⟩ := at_lt hlt2
          obtain ⟨u2, hu2, rfl⟩ := hx2 j x hx
          have H1 := Lib.hid (show countM m = (nnOk x && (r.drop (j + 1)).all nnOk && countM (m.drop (k + 1))) from by rw [H.out, hdx]; rfl)
          clear H hx hdx hx2 hrc
          by_cases hx1 : x < 0
          · have H3 := Lib.hid (show countM m = false from by rw [H1.out, show nnOk x = false from by unfold nnOk; simp; omega]; rfl)
            clear H1
            go_wp2
            go_ret
            exact ⟨by rw [H3.out]; rfl, rfl⟩
          have H3 := Lib.hid (show countM m = ((r.drop (j + 1)).all nnOk && countM (m.drop (k + 1))) from by rw [H1.out, show nnOk x = true from by unfold nnOk; simp; omega]; rfl)
          clear H1
          go_wp2
          go_roundg (r.length - (j + 1))
          case measure => omega
          case rel => exact ⟨j + 1, by go_num, by omega, H3, rfl⟩
        · have H1 := Lib.hid (show countM m = countM (m.drop (k + 1)) from by rw [H.out, drop_len hlt2]; rfl)
          clear H
          go_wp2
          go_roundg (m.length - (k + 1))
          case measure => omega
          case rel => exact ⟨k + 1, by go_num, by omega, H1, rfl⟩
    · have H1 := Lib.hid (show countM m = true from by rw [H.out, drop_len hlt]; rfl)
      clear H
      go_wp2
      go_ret
      exact ⟨by rw [H1.out]; rfl, rfl⟩
end Go.Proofs.YtlkgkfgpnnahdaaGreat
end

section
/-
  IsStep, both sides.
-/
namespace Go.Proofs.YtlkgkfgpnnahdaaGreat
open Go.RowKit Go.Deep Go.Sd

def prodIs (a b c : List (List Int)) : Bool := ttOk a b && decide (ttV a b = c)
def stepM (a b : List (List Int)) (x : Tb × Tb) : Bool := isMat a && (isMat b && (countM x.1 && (countM x.2 && (prodIs x.1 x.2 a && prodIs x.2 x.1 b))))

set_option maxHeartbeats 400000 in
theorem isProduct_c {w : World} {va vb vc : Value} {a b c : List (List Int)} (h1 : Tab w va a) (h2 : Tab w vb b) (h3 : Tab w vc c) :
    Calls Tryz.prog 55 #[va, vb, vc] w fun e w' => e = .returned (.bool (prodIs a b c)) ∧ Below w.heap.size w w' := by
  have Hc := Lib.hid (impl_TableTimes_c h1 h2)
  have He := Lib.hid (fun w1 v (hb : Below w.heap.size w w1) (h : Tab w1 v (ttV a b)) => impl_EqualMatrix_c h (Tab.frame _ _ _ _ h3 hb))
  have H := Lib.hid (show prodIs a b c = (ttOk a b && decide (ttV a b = c)) from rfl)
  obtain ⟨_, _, rfl, _, _, _⟩ := h1.shape
  obtain ⟨_, _, rfl, _, _, _⟩ := h2.shape
  obtain ⟨_, _, rfl, _, _, _⟩ := h3.shape
  clear h1 h2 h3
  generalize prodIs a b c = T at H ⊢
  generalize decide (ttV a b = c) = d at H He
  generalize ttOk a b = k at H Hc
  go_enter Tryz.func55, Tryz.ntmps55
  go_wp2_with fail
  refine Hc.out.mono ?_
  rintro e w1 ⟨v1, rfl, hn1, hb1⟩
  have Hb1 := Lib.hid hb1
  have He1 := Lib.hid (He.out w1 v1 hb1 hn1.tab)
  obtain ⟨_, _, _, rfl⟩ := hn1.slice
  clear hn1 hb1 He
  cases k with
  | false =>
    go_wp2
    go_ret
    exact ⟨by rw [H.out]; rfl, Hb1.out⟩
  | true =>
    go_wp2_with fail
    refine He1.out.mono ?_
    rintro e w2 ⟨rfl, hd⟩
    have Hb2 := Lib.hid (Hb1.out.trans (hd.below _))
    clear hd
    go_wp2
    go_ret
    exact ⟨by rw [H.out]; rfl, Hb2.out⟩
set_option maxHeartbeats 1000000 in
theorem impl_IsStep_c {w : World} {va vb vx : Value} {a b : List (List Int)} {x : Tb × Tb} (h1 : Tab w va a) (h2 : Tab w vb b) (h3 : StepR w vx x) :
    Calls Tryz.prog 15 #[va, vb, vx] w fun e w' => e = .returned (.bool (stepM a b x)) ∧ Below w.heap.size w w' := by
  have H := Lib.hid (show stepM a b x = (isMat a && (isMat b && (countM x.1 && (countM x.2 && (prodIs x.1 x.2 a && prodIs x.2 x.1 b))))) from rfl)
  generalize stepM a b x = T at H ⊢
  obtain ⟨v1, v2, rfl, t1, t2⟩ := h3
  have Ha := Lib.hid (fun w1 (hb : Below w.heap.size w w1) => impl_IsMatrix_c (Tab.frame _ _ _ _ h1 hb))
  have Hb := Lib.hid (fun w1 (hb : Below w.heap.size w w1) => impl_IsMatrix_c (Tab.frame _ _ _ _ h2 hb))
  have Hr := Lib.hid (fun w1 (hb : Below w.heap.size w w1) => isCounted_c (Tab.frame _ _ _ _ t1 hb))
  have Hs := Lib.hid (fun w1 (hb : Below w.heap.size w w1) => isCounted_c (Tab.frame _ _ _ _ t2 hb))
  have Hp := Lib.hid (fun w1 (hb : Below w.heap.size w w1) => isProduct_c (Tab.frame _ _ _ _ t1 hb) (Tab.frame _ _ _ _ t2 hb) (Tab.frame _ _ _ _ h1 hb))
  have Hq := Lib.hid (fun w1 (hb : Below w.heap.size w w1) => isProduct_c (Tab.frame _ _ _ _ t2 hb) (Tab.frame _ _ _ _ t1 hb) (Tab.frame _ _ _ _ h2 hb))
  generalize isMat a = ma at *
  generalize isMat b = mb at *
  generalize countM x.1 = cr at *
  generalize countM x.2 = cs at *
  generalize prodIs x.1 x.2 a = pr at *
  generalize prodIs x.2 x.1 b = ps at *
  obtain ⟨_, _, rfl, _, _, _⟩ := h1.shape
  obtain ⟨_, _, rfl, _, _, _⟩ := h2.shape
  obtain ⟨xa, xc, rfl, _, _, _⟩ := t1.shape
  obtain ⟨ya, yc, rfl, _, _, _⟩ := t2.shape
  clear h1 h2 t1 t2
  go_enter Tryz.func15, Tryz.ntmps15
  go_wp2_with fail
  obtain ⟨w1, ex, A0, c0, c1, m1⟩ := boxA_ex w 26 (.slice xa x.1.length xc) (.slice ya x.2.length yc)
  change Calls Tryz.prog _ _ (w.alloc (.cells #[.slice xa x.1.length xc, .slice ya x.2.length yc] 26)) _
  rw [ex]
  clear ex
  refine (Ha.out _ A0).mono ?_
  rintro e w' ⟨rfl, rfl⟩
  cases ma with
  | false => go_wp2; go_ret; exact ⟨by rw [H.out]; rfl, A0⟩
  | true =>
  go_wp2_with fail
  refine (Hb.out _ A0).mono ?_
  rintro e w' ⟨rfl, rfl⟩
  cases mb with
  | false => go_wp2; go_ret; exact ⟨by rw [H.out]; rfl, A0⟩
  | true =>
  go_wp2_with fail
  refine (Hr.out _ A0).mono ?_
  rintro e w' ⟨rfl, rfl⟩
  cases cr with
  | false => go_wp2; go_ret; exact ⟨by rw [H.out]; rfl, A0⟩
  | true =>
  go_wp2_with fail
  refine (Hs.out _ A0).mono ?_
  rintro e w' ⟨rfl, rfl⟩
  cases cs with
  | false => go_wp2; go_ret; exact ⟨by rw [H.out]; rfl, A0⟩
  | true =>
  go_wp2_with fail
  refine (Hp.out _ A0).mono ?_
  rintro e w2 ⟨rfl, hb2⟩
  replace c0 := (hb2.cell (p := ⟨w.heap.size, 0, none⟩) m1).trans c0
  replace c1 := (hb2.cell (p := ⟨w.heap.size, 1, none⟩) m1).trans c1
  replace A0 := A0.trans (hb2.mono A0.size)
  clear hb2
  cases pr with
  | false => go_wp2; go_ret; exact ⟨by rw [H.out]; rfl, A0⟩
  | true =>
  go_wp2_with fail
  refine (Hq.out _ A0).mono ?_
  rintro e w3 ⟨rfl, hb3⟩
  replace A0 := A0.trans (hb3.mono A0.size)
  clear hb3
  go_wp2
  go_ret
  exact ⟨by rw [H.out]; rfl, A0⟩
set_option maxHeartbeats 1000000 in
theorem spec_IsStep_c {w : World} {va vb vx : Value} {a b : List (List Int)} {x : Tb × Tb} (h1 : Tab w va a) (h2 : Tab w vb b) (h3 : StepR w vx x) :
    Calls Tryz.prog 16 #[va, vb, vx] w fun e w' => e = .returned (.bool (stepM a b x)) ∧ Below w.heap.size w w' := by
  have H := Lib.hid (show stepM a b x = (isMat a && (isMat b && (countM x.1 && (countM x.2 && ((ttOk x.1 x.2 && decide (ttV x.1 x.2 = a)) && (ttOk x.2 x.1 && decide (ttV x.2 x.1 = b))))))) from rfl)
  generalize stepM a b x = T at H ⊢
  obtain ⟨v1, v2, rfl, t1, t2⟩ := h3
  have Ha := Lib.hid (fun w1 (hb : Below w.heap.size w w1) => spec_IsMatrix_c (Tab.frame _ _ _ _ h1 hb))
  have Hb := Lib.hid (fun w1 (hb : Below w.heap.size w w1) => spec_IsMatrix_c (Tab.frame _ _ _ _ h2 hb))
  have Hr := Lib.hid (fun w1 (hb : Below w.heap.size w w1) => l19Rows_c (Tab.frame _ _ _ _ t1 hb))
  have Hs := Lib.hid (fun w1 (hb : Below w.heap.size w w1) => l19Rows_c (Tab.frame _ _ _ _ t2 hb))
  have Hp := Lib.hid (fun w1 (hb : Below w.heap.size w w1) => spec_TableTimes_c (Tab.frame _ _ _ _ t1 hb) (Tab.frame _ _ _ _ t2 hb))
  have Hq := Lib.hid (fun w1 (hb : Below w.heap.size w w1) => spec_TableTimes_c (Tab.frame _ _ _ _ t2 hb) (Tab.frame _ _ _ _ t1 hb))
  have Hpe := Lib.hid (fun w1 v (hb : Below w.heap.size w w1) (h : Tab w1 v (ttV x.1 x.2)) => spec_EqualMatrix_c h (Tab.frame _ _ _ _ h1 hb))
  have Hqe := Lib.hid (fun w1 v (hb : Below w.heap.size w w1) (h : Tab w1 v (ttV x.2 x.1)) => spec_EqualMatrix_c h (Tab.frame _ _ _ _ h2 hb))
  generalize isMat a = ma at *
  generalize isMat b = mb at *
  generalize countM x.1 = cr at *
  generalize countM x.2 = cs at *
  generalize decide (ttV x.1 x.2 = a) = d1 at *
  generalize decide (ttV x.2 x.1 = b) = d2 at *
  generalize ttV x.1 x.2 = z1 at *
  generalize ttV x.2 x.1 = z2 at *
  generalize ttOk x.1 x.2 = k1 at *
  generalize ttOk x.2 x.1 = k2 at *
  obtain ⟨_, _, rfl, _, _, _⟩ := h1.shape
  obtain ⟨_, _, rfl, _, _, _⟩ := h2.shape
  obtain ⟨xa, xc, rfl, _, _, _⟩ := t1.shape
  obtain ⟨ya, yc, rfl, _, _, _⟩ := t2.shape
  clear h1 h2 t1 t2
  go_enter Tryz.func16, Tryz.ntmps16
  go_wp2_with fail
  obtain ⟨w1, ex, A0, c0, c1, m1⟩ := boxA_ex w 26 (.slice xa x.1.length xc) (.slice ya x.2.length yc)
  change Calls Tryz.prog _ _ (w.alloc (.cells #[.slice xa x.1.length xc, .slice ya x.2.length yc] 26)) _
  rw [ex]
  clear ex
  refine (Ha.out _ A0).mono ?_
  rintro e w' ⟨rfl, rfl⟩
  cases ma with
  | false => go_wp2; go_ret; exact ⟨by rw [H.out]; rfl, A0⟩
  | true =>
  go_wp2_with fail
  refine (Hb.out _ A0).mono ?_
  rintro e w' ⟨rfl, rfl⟩
  cases mb with
  | false => go_wp2; go_ret; exact ⟨by rw [H.out]; rfl, A0⟩
  | true =>
  go_wp2_with fail
  refine (Hr.out _ A0).mono ?_
  rintro e w' ⟨rfl, rfl⟩
  cases cr with
  | false => go_wp2; go_ret; exact ⟨by rw [H.out]; rfl, A0⟩
  | true =>
  go_wp2_with fail
  refine (Hs.out _ A0).mono ?_
  rintro e w' ⟨rfl, rfl⟩
  cases cs with
  | false => go_wp2; go_ret; exact ⟨by rw [H.out]; rfl, A0⟩
  | true =>
  go_wp2_with fail
  refine (Hp.out _ A0).mono ?_
  rintro e w2 ⟨u1, rfl, hn2, hb2⟩
  replace c0 := (hb2.cell (p := ⟨w.heap.size, 0, none⟩) m1).trans c0
  replace c1 := (hb2.cell (p := ⟨w.heap.size, 1, none⟩) m1).trans c1
  replace A0 := A0.trans (hb2.mono A0.size)
  have R1 := hn2.tab
  obtain ⟨_, _, _, rfl⟩ := hn2.slice
  clear hb2 hn2
  have HR1 := Lib.hid R1
  clear R1
  go_wp2_with fail
  refine (Hq.out _ A0).mono ?_
  rintro e w3 ⟨u2, rfl, hn3, hb3⟩
  have HR1' := Lib.hid (Tab.frame _ _ _ _ HR1.out hb3)
  replace A0 := A0.trans (hb3.mono A0.size)
  have HR2 := Lib.hid hn3.tab
  obtain ⟨_, _, _, rfl⟩ := hn3.slice
  clear hb3 hn3 c0 c1
  cases k1 with
  | false => go_wp2; go_ret; exact ⟨by rw [H.out]; rfl, A0⟩
  | true =>
  cases k2 with
  | false => go_wp2; go_ret; exact ⟨by rw [H.out]; cases d1 <;> rfl, A0⟩
  | true =>
  go_wp2_with fail
  refine (Hpe.out _ _ A0 HR1'.out).mono ?_
  rintro e w4 ⟨rfl, hd4⟩
  have HR2' := Lib.hid (hd4.read Tab.frame HR2.out)
  replace A0 := A0.trans (hd4.below _)
  clear hd4
  cases d1 with
  | false => go_wp2; go_ret; exact ⟨by rw [H.out]; rfl, A0⟩
  | true =>
  go_wp2_with fail
  refine (Hqe.out _ _ A0 HR2'.out).mono ?_
  rintro e w5 ⟨rfl, hd5⟩
  replace A0 := A0.trans (hd5.below _)
  clear hd5
  go_wp2
  go_ret
  exact ⟨by rw [H.out]; rfl, A0⟩
end Go.Proofs.YtlkgkfgpnnahdaaGreat
end
