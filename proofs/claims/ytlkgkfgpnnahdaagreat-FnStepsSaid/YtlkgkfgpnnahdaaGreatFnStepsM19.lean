/-
  Texts of this claim joined: laws for its walks, contracts of the functions that the law reaches.
-/
import Derived.Test.YtlkgkfgpnnahdaaGreatRows
import Derived.Test.YtlkgkfgpnnahdaaGreatFnStepsM1
import Derived.Test.YtlkgkfgpnnahdaaGreatFnStepsM3
import Derived.Test.YtlkgkfgpnnahdaaGreatFnStepsM4
import Derived.Test.YtlkgkfgpnnahdaaGreatFnStepsM10
import Derived.Test.YtlkgkfgpnnahdaaGreatFnStepsM14
import Derived.Test.YtlkgkfgpnnahdaaGreatFnStepsM18
import Derived.Deep.RegionLaw
import Derived.WalkSpells
import Derived.IntWalk
import Derived.StillTailTactics
import Derived.Test.YtlkgkfgpnnahdaaGreatFnStepsM2
import Derived.Test.YtlkgkfgpnnahdaaGreatFnStepsM12
import Derived.Test.YtlkgkfgpnnahdaaGreatFnStepsM13
import Derived.Deep.RegionHeld3
import Derived.Deep.DeepCutAuto
import Derived.Test.YtlkgkfgpnnahdaaGreatFnStepsM6
section
/-
  FindStep, the reference's, whole.
-/
namespace Go.Proofs.YtlkgkfgpnnahdaaGreat
open Go.RowKit Go.Deep Go.Sd

set_option maxHeartbeats 4000000 in
set_option maxRecDepth 10000 in
theorem spec_FindStep_c {w : World} {va vb : Value} {a b : Tb} (h1 : Tab w va a) (h2 : Tab w vb b) :
    Calls Tryz.prog 8 #[va, vb] w (Makes2 (OStep 3 46) w (found (findV a b)) (findV a b).isSome) := by
  have H1 := Lib.hid (fun w1 (hb : Below w.heap.size w w1) => Tab.frame _ _ _ _ h1 hb)
  have H2 := Lib.hid (fun w1 (hb : Below w.heap.size w w1) => Tab.frame _ _ _ _ h2 hb)
  have HV := Lib.hid (show findV a b = if (isMat a && (isMat b && (decide (a.length ≤ 2) && decide (b.length ≤ 2)))) = true then findR (stepM a b) (tabsN b.length a.length) (tabsN a.length b.length) else none from rfl)
  have HS := Lib.hid (fun (hm : isMat a = true) (hn : isMat b = true) x y => stepM_N (a := a) (b := b) (n := x) (m := y) hm hn (isMat_len hm).1 (isMat_len hm).2 (isMat_len hn).1 (isMat_len hn).2)
  have Hl1 := Lib.hid (fun (hm : isMat a = true) => isMat_len hm)
  have Hl2 := Lib.hid (fun (hm : isMat b = true) => isMat_len hm)
  have HM1 := Lib.hid (fun w1 (hb : Below w.heap.size w w1) => spec_IsMatrix_c (Tab.frame _ _ _ _ h1 hb))
  have HM2 := Lib.hid (fun w1 (hb : Below w.heap.size w w1) => spec_IsMatrix_c (Tab.frame _ _ _ _ h2 hb))
  generalize findV a b = V at HV ⊢
  generalize stepM a b = P at HV HS
  generalize hma : isMat a = ma at *
  generalize hmb : isMat b = mb at *
  clear hma hmb
  obtain ⟨_, _, rfl, _, _, _⟩ := h1.shape
  obtain ⟨_, _, rfl, _, _, _⟩ := h2.shape
  clear h1 h2
  generalize hp : a.length = p at *
  generalize hq : b.length = q at *
  clear hp hq
  go_enter Tryz.func8, Tryz.ntmps8
  go_wp2_with fail
  have fz0 : (w.alloc (.cells #[.slice none 0 0, .slice none 0 0] 26)).frozen? ⟨w.heap.size, 0, none⟩ = false := by simp [go_sem]
  have fz1 : (w.alloc (.cells #[.slice none 0 0, .slice none 0 0] 26)).frozen? ⟨w.heap.size, 1, none⟩ = false := by simp [go_sem]
  obtain ⟨w0, ex, A0, c0, c1, m1⟩ := boxA_ex w 26 (.slice none 0 0) (.slice none 0 0)
  rw [ex] at fz0 fz1
  change Calls Tryz.prog _ _ (w.alloc (.cells #[.slice none 0 0, .slice none 0 0] 26)) _
  rw [ex]
  clear ex
  refine (HM1.out _ A0).mono ?_
  rintro e w' ⟨rfl, rfl⟩
  cases ma with
  | false =>
    have HK := Lib.hid (show V = none from by rw [HV.out]; rfl)
    clear HV HS Hl1 Hl2 HM1 HM2
    go_wp2
    have r0 := World.cell?_setCell_same w0 _ (.slice none 0 0) c0
    have s1 : ((w0.setCell ⟨w.heap.size, 0, none⟩ (.slice none 0 0)).cell? ⟨w.heap.size, 1, none⟩) = some (.slice none 0 0) := (World.cell?_setCell_other _ _ _ _ (by simp)).trans c1
    have r1 := World.cell?_setCell_same _ _ (.slice none 0 0) s1
    refine bodyPost_ret (v := .tuple #[.agg #[.slice none 0 0, .slice none 0 0], .bool false]) (by simp [results, Tryz.results8, go_sem, r0, r1]) rfl ?_
    exact ⟨_, by rw [HK.out]; rfl, by rw [HK.out]; exact New.none2 (by simp; have := (A0).size; omega), ((A0).setCell (p := ⟨w.heap.size, 0, none⟩) (Nat.le_refl _) _).setCell (p := ⟨w.heap.size, 1, none⟩) (Nat.le_refl _) _⟩
  | true =>
  go_wp2_with fail
  refine (HM2.out _ A0).mono ?_
  rintro e w' ⟨rfl, rfl⟩
  cases mb with
  | false =>
    have HK := Lib.hid (show V = none from by rw [HV.out]; rfl)
    clear HV HS Hl1 Hl2 HM1 HM2
    go_wp2
    have r0 := World.cell?_setCell_same w0 _ (.slice none 0 0) c0
    have s1 : ((w0.setCell ⟨w.heap.size, 0, none⟩ (.slice none 0 0)).cell? ⟨w.heap.size, 1, none⟩) = some (.slice none 0 0) := (World.cell?_setCell_other _ _ _ _ (by simp)).trans c1
    have r1 := World.cell?_setCell_same _ _ (.slice none 0 0) s1
    refine bodyPost_ret (v := .tuple #[.agg #[.slice none 0 0, .slice none 0 0], .bool false]) (by simp [results, Tryz.results8, go_sem, r0, r1]) rfl ?_
    exact ⟨_, by rw [HK.out]; rfl, by rw [HK.out]; exact New.none2 (by simp; have := (A0).size; omega), ((A0).setCell (p := ⟨w.heap.size, 0, none⟩) (Nat.le_refl _) _).setCell (p := ⟨w.heap.size, 1, none⟩) (Nat.le_refl _) _⟩
  | true =>
  by_cases hp2 : p ≤ 2
  rotate_left
  · have HK := Lib.hid (show V = none from by rw [HV.out, decide_eq_false hp2]; rfl)
    have hp2' : 2 < p := by omega
    clear HV HS Hl1 Hl2 HM1 HM2
    go_wp2
    have r0 := World.cell?_setCell_same w0 _ (.slice none 0 0) c0
    have s1 : ((w0.setCell ⟨w.heap.size, 0, none⟩ (.slice none 0 0)).cell? ⟨w.heap.size, 1, none⟩) = some (.slice none 0 0) := (World.cell?_setCell_other _ _ _ _ (by simp)).trans c1
    have r1 := World.cell?_setCell_same _ _ (.slice none 0 0) s1
    refine bodyPost_ret (v := .tuple #[.agg #[.slice none 0 0, .slice none 0 0], .bool false]) (by simp [results, Tryz.results8, go_sem, r0, r1]) rfl ?_
    exact ⟨_, by rw [HK.out]; rfl, by rw [HK.out]; exact New.none2 (by simp; have := (A0).size; omega), ((A0).setCell (p := ⟨w.heap.size, 0, none⟩) (Nat.le_refl _) _).setCell (p := ⟨w.heap.size, 1, none⟩) (Nat.le_refl _) _⟩
  by_cases hq2 : q ≤ 2
  rotate_left
  · have HK := Lib.hid (show V = none from by rw [HV.out, decide_eq_false hq2, Bool.and_false]; rfl)
    have hq2' : 2 < q := by omega
    clear HV HS Hl1 Hl2 HM1 HM2
    go_wp2
    have r0 := World.cell?_setCell_same w0 _ (.slice none 0 0) c0
    have s1 : ((w0.setCell ⟨w.heap.size, 0, none⟩ (.slice none 0 0)).cell? ⟨w.heap.size, 1, none⟩) = some (.slice none 0 0) := (World.cell?_setCell_other _ _ _ _ (by simp)).trans c1
    have r1 := World.cell?_setCell_same _ _ (.slice none 0 0) s1
    refine bodyPost_ret (v := .tuple #[.agg #[.slice none 0 0, .slice none 0 0], .bool false]) (by simp [results, Tryz.results8, go_sem, r0, r1]) rfl ?_
    exact ⟨_, by rw [HK.out]; rfl, by rw [HK.out]; exact New.none2 (by simp; have := (A0).size; omega), ((A0).setCell (p := ⟨w.heap.size, 0, none⟩) (Nat.le_refl _) _).setCell (p := ⟨w.heap.size, 1, none⟩) (Nat.le_refl _) _⟩
  have hp0 := (Hl1.out (by first | rfl | trivial)).1
  have hq0 := (Hl2.out (by first | rfl | trivial)).1
  have HSS := Lib.hid (HS.out (by first | rfl | trivial) (by first | rfl | trivial))
  have HVV := Lib.hid (show V = findR P (tabsN q p) (tabsN p q) from by rw [HV.out, decide_eq_true hp2, decide_eq_true hq2]; rfl)
  clear HV HS Hl1 Hl2 HM1 HM2
  have hpq : p * q ≤ 4 := Nat.mul_le_mul hp2 hq2
  have hpqI : ((p : Int) * (q : Int)) = ((p * q : Nat) : Int) := by push_cast; rfl
  have HpqI := Lib.hid hpqI
  have hm0 : (p : Int) * (q : Int) ≤ 4 := by rw [hpqI]; omega
  have hm1 : 0 ≤ (p : Int) * (q : Int) := by rw [hpqI]; omega
  clear hpqI
  obtain ⟨M, hM⟩ : ∃ M, M = 3 ^ (p * q) := ⟨_, rfl⟩
  have HM := Lib.hid hM
  have hM81 : M ≤ 81 := by rw [hM]; exact Nat.le_trans (Nat.pow_le_pow_right (by decide) hpq) (by decide)
  obtain ⟨rs, hrs⟩ : ∃ rs, rs = tabsN p q := ⟨_, rfl⟩
  obtain ⟨ss, hss⟩ : ∃ ss, ss = tabsN q p := ⟨_, rfl⟩
  have HV0 := Lib.hid (show V = findR P ss (rs.drop 0) from by rw [hrs, hss]; exact HVV.out)
  have Hrl := Lib.hid (show rs.length = M from by rw [hrs, hM]; simp [tabsN])
  have Hsl := Lib.hid (show ss.length = M from by rw [hss, hM, Nat.mul_comm p q]; simp [tabsN])
  have Hra := Lib.hid (show ∀ x, x < M → rs[x]? = some (tabN x p q) from fun x hx => by rw [hrs]; unfold tabsN; rw [← hM, List.getElem?_map, List.getElem?_range hx]; rfl)
  have Hsa := Lib.hid (show ∀ x, x < M → ss[x]? = some (tabN x q p) from fun x hx => by rw [hss]; unfold tabsN; rw [Nat.mul_comm q p, ← hM, List.getElem?_map, List.getElem?_range hx]; rfl)
  clear hM hrs hss HVV
  have A0' := Lib.hid A0
  clear A0
  go_wp2
  go_loopg [6, 7] (p * q) (fun g av kv wr => ∃ (k z : Nat), kv = .int .i64 k ∧ av = .int .i64 z ∧ k + g = p * q ∧ Hid (z = 3 ^ k) ∧ w0 = wr)
  case atStart => exact ⟨0, 1, rfl, rfl, by omega, Lib.hid rfl, rfl⟩
  case round =>
    obtain ⟨k, z, rfl, rfl, hk, hz, rfl⟩ := hrel
    by_cases hlt : k < p * q
    · have hz1 : z ≤ 6561 := by rw [hz.out]; exact Nat.le_trans (Nat.pow_le_pow_right (by decide) (by omega : k ≤ 8)) (by decide)
      have R := Lib.hid (show z * 3 = 3 ^ (k + 1) from by rw [hz.out, Nat.pow_succ])
      have hkI : (k : Int) < (p : Int) * (q : Int) := by rw [HpqI.out]; omega
      clear hz
      go_wp2
      go_roundg (p * q - (k + 1))
      case measure => omega
      case rel => exact ⟨k + 1, z * 3, by go_num, by go_num, by omega, R, rfl⟩
    · obtain rfl : z = M := by rw [hz.out, HM.out]; congr 1; omega
      have hkI : ¬ (k : Int) < (p : Int) * (q : Int) := by rw [HpqI.out]; omega
      clear hz HM
      have HB0 := Lib.hid (Below.refl w0.heap.size w0)
      go_wp2
      go_loopg [8] z (fun g i wr => ∃ (x : Nat), i = .int .i64 x ∧ x + g = z ∧ Hid (V = findR P ss (rs.drop x)) ∧ Hid (Below w0.heap.size w0 wr))
      case atStart => exact ⟨0, rfl, by omega, HV0, HB0⟩
      case round =>
        obtain ⟨x, rfl, hx, HVx, hbx⟩ := hrel
        clear HV0 HB0
        obtain ⟨wx, rfl⟩ : ∃ y, y = wr := ⟨_, rfl⟩
        have Abx := Lib.hid (A0'.out.trans (hbx.out.mono A0'.out.size))
        by_cases hltx : x < z
        · have hd := List.drop_eq_getElem_cons (show x < rs.length from by rw [Hrl.out]; exact hltx)
          have he : rs[x]'(by rw [Hrl.out]; exact hltx) = tabN x p q := by
            have h := Hra.out x hltx
            rw [List.getElem?_eq_getElem (by rw [Hrl.out]; exact hltx)] at h
            exact Option.some.inj h
          rw [he] at hd
          have HVy0 := Lib.hid (show V = (match findS P (tabN x p q) (ss.drop 0) with | some x => some x | none => findR P ss (rs.drop (x + 1))) from by rw [HVx.out, hd]; rfl)
          have Hr := Lib.hid (l19Table_c (w := wx) (n := x) (p := p) (r := q) (by omega) hp0 hp2 hq0 hq2)
          clear hd he HVx
          have hlexI : (x : Int) < (z : Int) := by omega
          have hzx := hbx.out.size
          go_wp2_with fail
          refine Hr.out.mono ?_
          rintro e w2 ⟨vr, rfl, hn2, hb2⟩
          have Hn2 := Lib.hid hn2
          have hzx2 := hb2.size
          have Hb2 := Lib.hid (hbx.out.trans (hb2.mono hzx))
          obtain ⟨ra, rn, rc, rfl⟩ := hn2.slice
          clear hn2 hb2 hbx Abx Hr
          have hz2 := Hb2.out.size
          have HB2 := Lib.hid (Below.refl w2.heap.size w2)
          go_wp2
          go_loopg [10] z (fun g i wr => ∃ (y : Nat), i = .int .i64 y ∧ y + g = z ∧ Hid (V = (match findS P (tabN x p q) (ss.drop y) with | some x => some x | none => findR P ss (rs.drop (x + 1)))) ∧ Hid (Below w2.heap.size w2 wr))
          case atStart => exact ⟨0, rfl, by omega, HVy0, HB2⟩
          case round =>
            obtain ⟨y, rfl, hy, HVy, hby⟩ := hrel
            clear HVy0 HB2
            obtain ⟨wy, rfl⟩ : ∃ y, y = wr := ⟨_, rfl⟩
            have hzy := hby.out.size
            by_cases hlty : y < z
            · have hd := List.drop_eq_getElem_cons (show y < ss.length from by rw [Hsl.out]; exact hlty)
              have he : ss[y]'(by rw [Hsl.out]; exact hlty) = tabN y q p := by
                have h := Hsa.out y hlty
                rw [List.getElem?_eq_getElem (by rw [Hsl.out]; exact hlty)] at h
                exact Option.some.inj h
              rw [he] at hd
              have HVs := Lib.hid (show V = (match (if P (tabN x p q, tabN y q p) = true then some (tabN x p q, tabN y q p) else findS P (tabN x p q) (ss.drop (y + 1))) with | some x => some x | none => findR P ss (rs.drop (x + 1))) from by rw [HVy.out, hd]; rfl)
              have HPt := Lib.hid (HSS.out x y)
              have hlL := tabN_len x p q
              have Hs := Lib.hid (l19Table_c (w := wy) (n := y) (p := q) (r := p) (by omega) hq0 hq2 hp0 hp2)
              clear hd he HVy
              have Hnr := Lib.hid (New.keep (OTab.kept _ _) Hn2.out hby.out (Nat.le_refl _))
              have Hbw := Lib.hid (Hb2.out.trans (hby.out.mono hz2))
              have hleyI : (y : Int) < (z : Int) := by omega
              go_wp2_with fail
              refine Hs.out.mono ?_
              rintro e w4 ⟨vs, rfl, hn4, hb4⟩
              have hz4 := hb4.size
              have HP0 := New.pair (lo := wx.heap.size) Hnr.out hn4 hb4 (by omega)
              have HP := Lib.hid HP0
              have htr := Lib.hid (Tab.frame _ _ _ _ Hnr.out.tab hb4)
              have hts := Lib.hid hn4.tab
              have Hb4 := Lib.hid (Hbw.out.trans (hb4.mono (by omega)))
              obtain ⟨sa, sn, sc, rfl⟩ := hn4.slice
              have hby4 := Lib.hid (hby.out.trans (hb4.mono hzy))
              clear hn4 hb4 hby Hs HP0 Hnr Hbw
              have HT1 := Lib.hid (l4Times_c htr.out hts.out (p := p) (q := q) (r := p) (tabN_len _ _ _) (fun r hr => tabN_row hr) (tabN_len _ _ _) (fun r hr => tabN_row hr) hp0 hq0 hp0 (by omega) (by omega) (by omega) (tabN_Bd _ _ _) (tabN_Bd _ _ _))
              have Ha4 := Lib.hid (fun w5 (hb : Below w4.heap.size w4 w5) => H1.out w5 ((A0'.out.trans (Hb4.out.mono A0'.out.size)).trans (hb.mono (by have h1 := A0'.out.size; have h2 := Hb4.out.size; omega))))
              have Hb5 := Lib.hid (fun w5 (hb : Below w4.heap.size w4 w5) => H2.out w5 ((A0'.out.trans (Hb4.out.mono A0'.out.size)).trans (hb.mono (by have h1 := A0'.out.size; have h2 := Hb4.out.size; omega))))
              go_wp2_with fail
              refine HT1.out.mono ?_
              rintro e w5 ⟨v5, rfl, hn5, hb5⟩
              have HE1 := Lib.hid (spec_EqualMatrix_c hn5.tab (Ha4.out w5 hb5))
              have H5 := Lib.hid hb5
              obtain ⟨_, _, _, rfl⟩ := hn5.slice
              clear hn5 hb5 HT1 Ha4
              generalize decide (prodT (tabN x p q) (tabN y q p) p q p = a) = d1 at HE1 HPt
              go_wp2_with fail
              refine HE1.out.mono ?_
              rintro e w6 ⟨rfl, hd6⟩
              have H6 := Lib.hid (H5.out.trans (hd6.below w4.heap.size))
              clear hd6 HE1 H5
              cases d1 with
              | false =>
                have HN := Lib.hid (show V = (match findS P (tabN x p q) (ss.drop (y + 1)) with | some x => some x | none => findR P ss (rs.drop (x + 1))) from by rw [HVs.out, HPt.out]; rfl)
                have HR := Lib.hid (hby4.out.trans (H6.out.mono (by omega)))
                clear HVs HPt HP htr hts Hb5 H6 Hb4 hby4
                go_wp2
                go_roundg (z - (y + 1))
                case measure => omega
                case rel => exact ⟨y + 1, by go_num, by omega, HN, HR⟩
              | true =>
                have HT2 := Lib.hid (l4Times_c (Tab.frame _ _ _ _ hts.out H6.out) (Tab.frame _ _ _ _ htr.out H6.out) (p := q) (q := p) (r := q) (tabN_len _ _ _) (fun r hr => tabN_row hr) (tabN_len _ _ _) (fun r hr => tabN_row hr) hq0 hp0 hq0 (by omega) (by omega) (by omega) (tabN_Bd _ _ _) (tabN_Bd _ _ _))
                have hz6 := H6.out.size
                go_wp2_with fail
                refine HT2.out.mono ?_
                rintro e w7 ⟨v7, rfl, hn7, hb7⟩
                have H7 := Lib.hid (H6.out.trans (hb7.mono hz6))
                have HE2 := Lib.hid (spec_EqualMatrix_c hn7.tab (Hb5.out w7 H7.out))
                obtain ⟨_, _, _, rfl⟩ := hn7.slice
                clear hn7 hb7 HT2 Hb5
                generalize decide (prodT (tabN y q p) (tabN x p q) q p q = b) = d2 at HE2 HPt
                go_wp2_with fail
                refine HE2.out.mono ?_
                rintro e w8 ⟨rfl, hd8⟩
                have H8 := Lib.hid (H7.out.trans (hd8.below w4.heap.size))
                clear hd8 HE2 H7
                cases d2 with
                | false =>
                  have HN := Lib.hid (show V = (match findS P (tabN x p q) (ss.drop (y + 1)) with | some x => some x | none => findR P ss (rs.drop (x + 1))) from by rw [HVs.out, HPt.out]; rfl)
                  have HR := Lib.hid (hby4.out.trans (H8.out.mono (by omega)))
                  clear HVs HPt HP htr hts H6 Hb4 hby4 H8
                  go_wp2
                  go_roundg (z - (y + 1))
                  case measure => omega
                  case rel => exact ⟨y + 1, by go_num, by omega, HN, HR⟩
                | true =>
                  have HN := Lib.hid (show V = some (tabN x p q, tabN y q p) from by rw [HVs.out, HPt.out]; rfl)
                  have hb8 := Hb4.out.trans (H8.out.mono (by omega))
                  replace c0 := (hb8.cell (p := ⟨w.heap.size, 0, none⟩) m1).trans c0
                  replace c1 := (hb8.cell (p := ⟨w.heap.size, 1, none⟩) m1).trans c1
                  replace fz0 := (hb8.frozen (p := ⟨w.heap.size, 0, none⟩) m1).trans fz0
                  replace fz1 := (hb8.frozen (p := ⟨w.heap.size, 1, none⟩) m1).trans fz1
                  have HPP := Lib.hid (((HP.out.inn OStep.held).keep OStep.held H8.out (Nat.le_refl _)).new)
                  have HA := Lib.hid (A0'.out.trans (hb8.mono A0'.out.size))
                  clear HVs HPt HP htr hts H6 Hb4 hby4 H8 hb8
                  go_wp2
                  have r0 := World.cell?_setCell_same w8 _ (.slice ra rn rc) c0
                  have s1 : ((w8.setCell ⟨w.heap.size, 0, none⟩ (.slice ra rn rc)).cell? ⟨w.heap.size, 1, none⟩) = some (.slice none 0 0) := (World.cell?_setCell_other _ _ _ _ (by simp)).trans c1
                  have r1 := World.cell?_setCell_same _ _ (.slice sa sn sc) s1
                  refine bodyPost_ret (v := .tuple #[.agg #[.slice ra rn rc, .slice sa sn sc], .bool true]) (by simp [results, Tryz.results8, go_sem, r0, r1]) rfl ?_
                  exact ⟨_, by rw [HN.out]; rfl, by rw [HN.out]; exact (New.setCell_low OStep.held (New.setCell_low OStep.held HPP.out (show w.heap.size < wx.heap.size from Nat.lt_of_lt_of_le m1 hzx) _) (show w.heap.size < wx.heap.size from Nat.lt_of_lt_of_le m1 hzx) _).mono (by omega), (HA.out.setCell (p := ⟨w.heap.size, 0, none⟩) (Nat.le_refl _) _).setCell (p := ⟨w.heap.size, 1, none⟩) (Nat.le_refl _) _⟩
            · have HN := Lib.hid (show V = findR P ss (rs.drop (x + 1)) from by rw [HVy.out, List.drop_eq_nil_of_le (by rw [Hsl.out]; omega)]; rfl)
              have HR := Lib.hid (Hb2.out.trans (hby.out.mono hz2))
              clear HVy hby
              go_wp2
              go_roundg (z - (x + 1))
              case measure => omega
              case rel => exact ⟨x + 1, by go_num, by omega, HN, HR⟩
        · have HK := Lib.hid (show V = none from by rw [HVx.out, List.drop_eq_nil_of_le (by rw [Hrl.out]; omega)]; rfl)
          clear HVx
          have hb8 := hbx.out
          replace c0 := (hb8.cell (p := ⟨w.heap.size, 0, none⟩) m1).trans c0
          replace c1 := (hb8.cell (p := ⟨w.heap.size, 1, none⟩) m1).trans c1
          replace fz0 := (hb8.frozen (p := ⟨w.heap.size, 0, none⟩) m1).trans fz0
          replace fz1 := (hb8.frozen (p := ⟨w.heap.size, 1, none⟩) m1).trans fz1
          clear hb8
          go_wp2
          have r0 := World.cell?_setCell_same wx _ (.slice none 0 0) c0
          have s1 : ((wx.setCell ⟨w.heap.size, 0, none⟩ (.slice none 0 0)).cell? ⟨w.heap.size, 1, none⟩) = some (.slice none 0 0) := (World.cell?_setCell_other _ _ _ _ (by simp)).trans c1
          have r1 := World.cell?_setCell_same _ _ (.slice none 0 0) s1
          refine bodyPost_ret (v := .tuple #[.agg #[.slice none 0 0, .slice none 0 0], .bool false]) (by simp [results, Tryz.results8, go_sem, r0, r1]) rfl ?_
          exact ⟨_, by rw [HK.out]; rfl, by rw [HK.out]; exact New.none2 (by simp; have := (Abx.out).size; omega), ((Abx.out).setCell (p := ⟨w.heap.size, 0, none⟩) (Nat.le_refl _) _).setCell (p := ⟨w.heap.size, 1, none⟩) (Nat.le_refl _) _⟩

end Go.Proofs.YtlkgkfgpnnahdaaGreat
end

section
/-
  IsChain, both sides.
-/
namespace Go.Proofs.YtlkgkfgpnnahdaaGreat
open Go.RowKit Go.Deep Go.Sd

def chB (ts : List Tb) (xs : List (Tb × Tb)) (k : Nat) : Bool := stepM (ts.getD k []) (ts.getD (k + 1) []) (xs.getD k ([], []))
def chLen (ts : List Tb) (xs : List (Tb × Tb)) : Bool := decide (1 ≤ ts.length ∧ ts.length ≤ 10 ∧ xs.length + 1 = ts.length)
def chainM (ts : List Tb) (xs : List (Tb × Tb)) : Bool := chLen ts xs && (isMat (ts.getD 0 []) && allF (chB ts xs) xs.length 0)
set_option maxHeartbeats 4000000 in
set_option maxRecDepth 10000 in
theorem impl_IsChain_c {w : World} {v1 v2 : Value} {ts : List Tb} {xs : List (Tb × Tb)} (h1 : Tabs w v1 ts) (h2 : StpsR w v2 xs) :
    Calls Tryz.prog 18 #[v1, v2] w fun e w' => e = .returned (.bool (chainM ts xs)) ∧ Below w.heap.size w w' := by
  have hlt := h1.len
  obtain ⟨ta, tc, rfl, _, _, htc⟩ := h1.shape
  obtain ⟨hlx, a, c, rfl, _, _, _, hcell⟩ := h2
  have H0 := Lib.hid (show chainM ts xs = (chLen ts xs && (isMat (ts.getD 0 []) && allF (chB ts xs) xs.length 0)) from rfl)
  generalize chainM ts xs = T at H0 ⊢
  have Hl := Lib.hid (show chLen ts xs = decide (1 ≤ ts.length ∧ ts.length ≤ 10 ∧ xs.length + 1 = ts.length) from rfl)
  clear h1
  obtain ⟨n, hn⟩ : ∃ n, n = xs.length := ⟨_, rfl⟩
  obtain ⟨m, hm⟩ : ∃ m, m = ts.length := ⟨_, rfl⟩
  rw [← hn] at H0 Hl hcell hlx
  rw [← hm] at Hl htc hlt
  rw [← hm, ← hn]
  have Hn := Lib.hid hn
  have Hm := Lib.hid hm
  clear hn hm
  by_cases c1 : m < 1
  · have : m < 1 := c1
    have HF := Lib.hid (show T = false from by rw [H0.out, Hl.out, decide_eq_false (by omega)]; rfl)
    clear H0 Hl hcell htc
    go_enter Tryz.func18, Tryz.ntmps18
    go_wp2
    go_ret
    exact ⟨by rw [HF.out]; rfl, Below.refl _ _⟩
  by_cases c2 : 10 < m
  · have : 10 < m := c2
    have HF := Lib.hid (show T = false from by rw [H0.out, Hl.out, decide_eq_false (by omega)]; rfl)
    clear H0 Hl hcell htc
    go_enter Tryz.func18, Tryz.ntmps18
    go_wp2
    go_ret
    exact ⟨by rw [HF.out]; rfl, Below.refl _ _⟩
  by_cases c3 : n + 1 = m
  rotate_left
  · have t3 : ((n : Int) != (m : Int) - 1) = true := by simp; omega
    have HF := Lib.hid (show T = false from by rw [H0.out, Hl.out, decide_eq_false (by omega)]; rfl)
    clear H0 Hl hcell htc
    go_enter Tryz.func18, Tryz.ntmps18
    go_wp2
    go_ret
    exact ⟨by rw [HF.out]; rfl, Below.refl _ _⟩
  have HT := Lib.hid (show T = (isMat (ts.getD 0 []) && allF (chB ts xs) n 0) from by rw [H0.out, Hl.out, decide_eq_true (by omega)]; rfl)
  clear H0 Hl
  have t3 : ((n : Int) != (m : Int) - 1) = false := by simp; omega
  obtain ⟨tb, tof, rfl, htb, htx⟩ := htc (by omega)
  have Ht := Lib.hid (fun i (hi : i < m) => (show ∃ u, w.cell? ⟨tb, tof + i, none⟩ = some u ∧ Tab w u (ts.getD i []) from by
    obtain ⟨x, hx, _⟩ := at_lt (xs := ts) (k := i) (by have := Hm.out; omega)
    obtain ⟨u, hu, hr⟩ := htx i x hx
    exact ⟨u, hu, by simpa [List.getD, hx] using hr⟩))
  clear htx htc
  obtain ⟨u0, hu0, hr0⟩ := Ht.out 0 (by omega)
  rw [Nat.add_zero] at hu0
  have H1 := Lib.hid (fun w1 (hb : Below w.heap.size w w1) => impl_IsMatrix_c (Tab.frame _ _ _ _ hr0 hb))
  generalize isMat (ts.getD 0 []) = im at HT H1
  obtain ⟨z0, zc, rfl, _, _, _⟩ := hr0.shape
  generalize (ts.getD 0 []).length = zn at *
  clear hr0
  have hm10 : m ≤ 10 := by omega
  have hm1 : 1 ≤ m := by omega
  cases im with
  | false =>
    have HF := Lib.hid (show T = false from by rw [HT.out]; rfl)
    clear HT hcell
    go_enter Tryz.func18, Tryz.ntmps18
    go_wp2_with fail
    refine (H1.out _ (Below.refl _ _)).mono ?_
    rintro e w' ⟨rfl, rfl⟩
    go_wp2
    go_ret
    exact ⟨by rw [HF.out]; rfl, Below.refl _ _⟩
  | true =>
  have HE := Lib.hid (show T = allF (chB ts xs) n 0 from by rw [HT.out]; rfl)
  clear HT
  go_enter Tryz.func18, Tryz.ntmps18
  go_wp2_with fail
  refine (H1.out _ (Below.refl _ _)).mono ?_
  rintro e w' ⟨rfl, rfl⟩
  go_wp2
  go_loopg [32] n (fun g i wr => ∃ (k : Nat), i = .int .i64 k ∧ k + g = n ∧ Hid (T = allF (chB ts xs) g k) ∧ Hid (Below w.heap.size w wr))
  case atStart => exact ⟨0, rfl, by omega, HE, Lib.hid (Below.refl _ _)⟩
  case round =>
    obtain ⟨k, rfl, hk, HK, hbel⟩ := hrel
    obtain ⟨g, hg⟩ : ∃ g, g = gk := ⟨_, rfl⟩
    rw [← hg] at HK hk
    by_cases hlt : k < n
    · obtain ⟨g', rfl⟩ : ∃ t, g = t + 1 := ⟨g - 1, by omega⟩
      have HK1 := Lib.hid (show T = if chB ts xs k = true then allF (chB ts xs) g' (k + 1) else false from HK.out)
      obtain ⟨b, o, rfl, hb, hx0⟩ := hcell (by omega)
      obtain ⟨x, hx, _⟩ := at_lt (xs := xs) (k := k) (by have := Hn.out; omega)
      obtain ⟨y1, y2, f0, f1, s1, s2⟩ := hx0 k x hx
      obtain ⟨u1, e1, r1⟩ := Ht.out k (by omega)
      obtain ⟨u2, e2, r2⟩ := Ht.out (k + 1) (by omega)
      have hbw := hbel.out
      have g0 : wr.cell? ⟨b, o + k * 2, none⟩ = some y1 := (hbw.cell (p := ⟨b, o + k * 2, none⟩) hb).trans f0
      have g1 : wr.cell? ⟨b, o + k * 2 + 1, none⟩ = some y2 := (hbw.cell (p := ⟨b, o + k * 2 + 1, none⟩) hb).trans f1
      have g2 : wr.cell? ⟨tb, tof + k, none⟩ = some u1 := (hbw.cell (p := ⟨tb, tof + k, none⟩) htb).trans e1
      have g3 : wr.cell? ⟨tb, tof + (k + 1), none⟩ = some u2 := (hbw.cell (p := ⟨tb, tof + (k + 1), none⟩) htb).trans e2
      have HB := Lib.hid (show chB ts xs k = stepM (ts.getD k []) (ts.getD (k + 1) []) x from by unfold chB; rw [show xs.getD k ([], []) = x from by simp [List.getD, hx]])
      have HC := Lib.hid (fun wz (hz : Below w.heap.size w wz) => impl_IsStep_c (w := wz) (va := u1) (vb := u2) (vx := .agg #[y1, y2]) (x := x) (Tab.frame _ _ _ _ r1 hz) (Tab.frame _ _ _ _ r2 hz) ⟨y1, y2, rfl, Tab.frame _ _ _ _ s1 hz, Tab.frame _ _ _ _ s2 hz⟩)
      generalize stepM (ts.getD k []) (ts.getD (k + 1) []) x = sb at HB HC
      obtain ⟨p1, pn1, pc1, rfl⟩ : ∃ a n c, u1 = .slice a n c := by obtain ⟨a, c, e, _⟩ := r1.shape; exact ⟨_, _, _, e⟩
      obtain ⟨p2, pn2, pc2, rfl⟩ : ∃ a n c, u2 = .slice a n c := by obtain ⟨a, c, e, _⟩ := r2.shape; exact ⟨_, _, _, e⟩
      obtain ⟨q1, qn1, qc1, rfl⟩ : ∃ a n c, y1 = .slice a n c := by obtain ⟨a, c, e, _⟩ := s1.shape; exact ⟨_, _, _, e⟩
      obtain ⟨q2, qn2, qc2, rfl⟩ : ∃ a n c, y2 = .slice a n c := by obtain ⟨a, c, e, _⟩ := s2.shape; exact ⟨_, _, _, e⟩
      have hz := hbw.size
      have hbr : b < wr.heap.size := by omega
      have htr : tb < wr.heap.size := by omega
      have hkn : (k : Int) < (n : Int) := by omega
      have hkm : (k : Int) < (m : Int) := by omega
      have hkm1 : (k : Int) + 1 < (m : Int) := by omega
      have hw1 : IntKind.i64.wrap ((k : Int) + 1) = (k : Int) + 1 := IntWalk.i64_in _ (by omega)
      have hk0 : (0 : Int) ≤ (k : Int) + 1 := by omega
      have hkt : ((k : Int) + 1).toNat = k + 1 := by omega
      clear f0 f1 e1 e2 r1 r2 s1 s2 hx0 hcell hx HK hbw
      cases sb with
      | true =>
        have HF := Lib.hid (show T = allF (chB ts xs) g' (k + 1) from by rw [HK1.out, if_pos HB.out])
        clear HK1 HB
        go_wp2
        obtain ⟨wn, ex, hbn, d0, d1, mn⟩ := boxA_ex wr 26 (.slice q1 qn1 qc1) (.slice q2 qn2 qc2)
        rw [ex]
        clear ex g0 g1
        have hA : tb < wn.heap.size := Nat.lt_of_lt_of_le htr hbn.size
        have HW := Lib.hid (hbel.out.trans (hbn.mono hbel.out.size))
        have hS0 : wn.cell? ⟨tb, tof + k, none⟩ = some (.slice p1 pn1 pc1) ∧ wn.cell? ⟨tb, tof + (k + 1), none⟩ = some (.slice p2 pn2 pc2) ∧ wn.cell? ⟨wr.heap.size, 0, none⟩ = some (.slice q1 qn1 qc1) ∧ wn.cell? ⟨wr.heap.size, 1, none⟩ = some (.slice q2 qn2 qc2) := ⟨(hbn.cell (p := ⟨tb, tof + k, none⟩) htr).trans g2, (hbn.cell (p := ⟨tb, tof + (k + 1), none⟩) htr).trans g3, d0, d1⟩
        have hSd : wn.drew.cell? ⟨tb, tof + k, none⟩ = some (.slice p1 pn1 pc1) ∧ wn.drew.cell? ⟨tb, tof + (k + 1), none⟩ = some (.slice p2 pn2 pc2) ∧ wn.drew.cell? ⟨wr.heap.size, 0, none⟩ = some (.slice q1 qn1 qc1) ∧ wn.drew.cell? ⟨wr.heap.size, 1, none⟩ = some (.slice q2 qn2 qc2) := hS0
        have HS := Lib.hid (fun (wz : World) (hb3 : Below wn.heap.size wn wz) => (show wz.cell? ⟨tb, tof + k, none⟩ = some (.slice p1 pn1 pc1) ∧ wz.cell? ⟨tb, tof + (k + 1), none⟩ = some (.slice p2 pn2 pc2) ∧ wz.cell? ⟨wr.heap.size, 0, none⟩ = some (.slice q1 qn1 qc1) ∧ wz.cell? ⟨wr.heap.size, 1, none⟩ = some (.slice q2 qn2 qc2) from ⟨(hb3.cell (p := ⟨tb, tof + k, none⟩) hA).trans hS0.1, (hb3.cell (p := ⟨tb, tof + (k + 1), none⟩) hA).trans hS0.2.1, (hb3.cell (p := ⟨wr.heap.size, 0, none⟩) mn).trans hS0.2.2.1, (hb3.cell (p := ⟨wr.heap.size, 1, none⟩) mn).trans hS0.2.2.2⟩))
        have B1 := (Below.refl wn.heap.size wn).drew
        have HC1 := Lib.hid (HC.out _ HW.out.drew)
        clear HC hbn d0 d1 g2 g3
        go_region_held3 (fun w' => w'.cell? ⟨tb, tof + k, none⟩ = some (.slice p1 pn1 pc1) ∧ w'.cell? ⟨tb, tof + (k + 1), none⟩ = some (.slice p2 pn2 pc2) ∧ w'.cell? ⟨wr.heap.size, 0, none⟩ = some (.slice q1 qn1 qc1) ∧ w'.cell? ⟨wr.heap.size, 1, none⟩ = some (.slice q2 qn2 qc2))
          (first | with_reducible exact hS1 | with_reducible exact hSd | with_reducible exact hS0 | go_keep)
          ((first
            | (go_at_call 15; (with_reducible refine HC1.out.mono ?_); rintro e w2 ⟨rfl, hb⟩; have B2 := B1.trans (hb.mono B1.size); have hS1 := HS.out _ B2; clear hb)
            | fail))
        have HZ := Lib.hid (HW.out.trans (B2.mono HW.out.size))
        clear B1 B2
        go_wp2
        go_roundg g'
        case measure => omega
        case rel => exact ⟨k + 1, by go_num, by omega, HF, HZ⟩
      | false =>
        have HF := Lib.hid (show T = false from by rw [HK1.out, if_neg (by rw [HB.out]; simp)])
        clear HK1 HB
        go_wp2
        obtain ⟨wn, ex, hbn, d0, d1, mn⟩ := boxA_ex wr 26 (.slice q1 qn1 qc1) (.slice q2 qn2 qc2)
        rw [ex]
        clear ex g0 g1
        have hA : tb < wn.heap.size := Nat.lt_of_lt_of_le htr hbn.size
        have HW := Lib.hid (hbel.out.trans (hbn.mono hbel.out.size))
        have hS0 : wn.cell? ⟨tb, tof + k, none⟩ = some (.slice p1 pn1 pc1) ∧ wn.cell? ⟨tb, tof + (k + 1), none⟩ = some (.slice p2 pn2 pc2) ∧ wn.cell? ⟨wr.heap.size, 0, none⟩ = some (.slice q1 qn1 qc1) ∧ wn.cell? ⟨wr.heap.size, 1, none⟩ = some (.slice q2 qn2 qc2) := ⟨(hbn.cell (p := ⟨tb, tof + k, none⟩) htr).trans g2, (hbn.cell (p := ⟨tb, tof + (k + 1), none⟩) htr).trans g3, d0, d1⟩
        have hSd : wn.drew.cell? ⟨tb, tof + k, none⟩ = some (.slice p1 pn1 pc1) ∧ wn.drew.cell? ⟨tb, tof + (k + 1), none⟩ = some (.slice p2 pn2 pc2) ∧ wn.drew.cell? ⟨wr.heap.size, 0, none⟩ = some (.slice q1 qn1 qc1) ∧ wn.drew.cell? ⟨wr.heap.size, 1, none⟩ = some (.slice q2 qn2 qc2) := hS0
        have HS := Lib.hid (fun (wz : World) (hb3 : Below wn.heap.size wn wz) => (show wz.cell? ⟨tb, tof + k, none⟩ = some (.slice p1 pn1 pc1) ∧ wz.cell? ⟨tb, tof + (k + 1), none⟩ = some (.slice p2 pn2 pc2) ∧ wz.cell? ⟨wr.heap.size, 0, none⟩ = some (.slice q1 qn1 qc1) ∧ wz.cell? ⟨wr.heap.size, 1, none⟩ = some (.slice q2 qn2 qc2) from ⟨(hb3.cell (p := ⟨tb, tof + k, none⟩) hA).trans hS0.1, (hb3.cell (p := ⟨tb, tof + (k + 1), none⟩) hA).trans hS0.2.1, (hb3.cell (p := ⟨wr.heap.size, 0, none⟩) mn).trans hS0.2.2.1, (hb3.cell (p := ⟨wr.heap.size, 1, none⟩) mn).trans hS0.2.2.2⟩))
        have B1 := (Below.refl wn.heap.size wn).drew
        have HC1 := Lib.hid (HC.out _ HW.out.drew)
        clear HC hbn d0 d1 g2 g3
        go_region_held3 (fun w' => w'.cell? ⟨tb, tof + k, none⟩ = some (.slice p1 pn1 pc1) ∧ w'.cell? ⟨tb, tof + (k + 1), none⟩ = some (.slice p2 pn2 pc2) ∧ w'.cell? ⟨wr.heap.size, 0, none⟩ = some (.slice q1 qn1 qc1) ∧ w'.cell? ⟨wr.heap.size, 1, none⟩ = some (.slice q2 qn2 qc2))
          (first | with_reducible exact hS1 | with_reducible exact hSd | with_reducible exact hS0 | go_keep)
          ((first
            | (go_at_call 15; (with_reducible refine HC1.out.mono ?_); rintro e w2 ⟨rfl, hb⟩; have B2 := B1.trans (hb.mono B1.size); have hS1 := HS.out _ B2; clear hb)
            | fail))
        have HZ := Lib.hid (HW.out.trans (B2.mono HW.out.size))
        clear B1 B2
        go_wp2
        go_ret
        exact ⟨by rw [HF.out]; rfl, HZ.out⟩
    · have e : g = 0 := by omega
      subst e
      have HF := Lib.hid (show T = true from HK.out)
      clear HK hg hcell
      go_wp2
      go_ret
      exact ⟨by rw [HF.out]; rfl, hbel.out⟩
set_option maxHeartbeats 4000000 in
set_option maxRecDepth 10000 in
theorem spec_IsChain_c {w : World} {v1 v2 : Value} {ts : List Tb} {xs : List (Tb × Tb)} (h1 : Tabs w v1 ts) (h2 : StpsR w v2 xs) :
    Calls Tryz.prog 19 #[v1, v2] w fun e w' => e = .returned (.bool (chainM ts xs)) ∧ Below w.heap.size w w' := by
  have hlt := h1.len
  obtain ⟨ta, tc, rfl, _, _, htc⟩ := h1.shape
  obtain ⟨hlx, a, c, rfl, _, _, _, hcell⟩ := h2
  have H0 := Lib.hid (show chainM ts xs = (chLen ts xs && (isMat (ts.getD 0 []) && allF (chB ts xs) xs.length 0)) from rfl)
  generalize chainM ts xs = T at H0 ⊢
  have Hl := Lib.hid (show chLen ts xs = decide (1 ≤ ts.length ∧ ts.length ≤ 10 ∧ xs.length + 1 = ts.length) from rfl)
  clear h1
  obtain ⟨n, hn⟩ : ∃ n, n = xs.length := ⟨_, rfl⟩
  obtain ⟨m, hm⟩ : ∃ m, m = ts.length := ⟨_, rfl⟩
  rw [← hn] at H0 Hl hcell hlx
  rw [← hm] at Hl htc hlt
  rw [← hm, ← hn]
  have Hn := Lib.hid hn
  have Hm := Lib.hid hm
  clear hn hm
  by_cases c1 : m < 1
  · have : m < 1 := c1
    have HF := Lib.hid (show T = false from by rw [H0.out, Hl.out, decide_eq_false (by omega)]; rfl)
    clear H0 Hl hcell htc
    have Hin := Lib.hid (fun w1 => l1In_c (m : Int) 1 10 w1)
    have hin : (decide ((1 : Int) ≤ (m : Int)) && decide ((m : Int) ≤ 10)) = false := by by_cases h : (1 : Int) ≤ (m : Int) <;> simp [h] <;> omega
    rw [hin] at Hin
    clear hin
    go_enter Tryz.func19, Tryz.ntmps19
    go_wp2_with fail
    refine (Hin.out _).mono ?_
    rintro e w' ⟨rfl, rfl⟩
    go_wp2
    go_ret
    exact ⟨by rw [HF.out]; rfl, Below.refl _ _⟩
  by_cases c2 : 10 < m
  · have : 10 < m := c2
    have HF := Lib.hid (show T = false from by rw [H0.out, Hl.out, decide_eq_false (by omega)]; rfl)
    clear H0 Hl hcell htc
    have Hin := Lib.hid (fun w1 => l1In_c (m : Int) 1 10 w1)
    have hin : (decide ((1 : Int) ≤ (m : Int)) && decide ((m : Int) ≤ 10)) = false := by by_cases h : (1 : Int) ≤ (m : Int) <;> simp [h] <;> omega
    rw [hin] at Hin
    clear hin
    go_enter Tryz.func19, Tryz.ntmps19
    go_wp2_with fail
    refine (Hin.out _).mono ?_
    rintro e w' ⟨rfl, rfl⟩
    go_wp2
    go_ret
    exact ⟨by rw [HF.out]; rfl, Below.refl _ _⟩
  by_cases c3 : n + 1 = m
  rotate_left
  · have t3 : ((n : Int) != (m : Int) - 1) = true := by simp; omega
    have HF := Lib.hid (show T = false from by rw [H0.out, Hl.out, decide_eq_false (by omega)]; rfl)
    clear H0 Hl hcell htc
    have Hin := Lib.hid (fun w1 => l1In_c (m : Int) 1 10 w1)
    have hin : (decide ((1 : Int) ≤ (m : Int)) && decide ((m : Int) ≤ 10)) = true := by rw [decide_eq_true (by omega), decide_eq_true (by omega)]; rfl
    rw [hin] at Hin
    clear hin
    go_enter Tryz.func19, Tryz.ntmps19
    go_wp2_with fail
    refine (Hin.out _).mono ?_
    rintro e w' ⟨rfl, rfl⟩
    go_wp2
    go_ret
    exact ⟨by rw [HF.out]; rfl, Below.refl _ _⟩
  have HT := Lib.hid (show T = (isMat (ts.getD 0 []) && allF (chB ts xs) n 0) from by rw [H0.out, Hl.out, decide_eq_true (by omega)]; rfl)
  clear H0 Hl
  have t3 : ((n : Int) != (m : Int) - 1) = false := by simp; omega
  obtain ⟨tb, tof, rfl, htb, htx⟩ := htc (by omega)
  have Ht := Lib.hid (fun i (hi : i < m) => (show ∃ u, w.cell? ⟨tb, tof + i, none⟩ = some u ∧ Tab w u (ts.getD i []) from by
    obtain ⟨x, hx, _⟩ := at_lt (xs := ts) (k := i) (by have := Hm.out; omega)
    obtain ⟨u, hu, hr⟩ := htx i x hx
    exact ⟨u, hu, by simpa [List.getD, hx] using hr⟩))
  clear htx htc
  obtain ⟨u0, hu0, hr0⟩ := Ht.out 0 (by omega)
  rw [Nat.add_zero] at hu0
  have H1 := Lib.hid (fun w1 (hb : Below w.heap.size w w1) => spec_IsMatrix_c (Tab.frame _ _ _ _ hr0 hb))
  generalize isMat (ts.getD 0 []) = im at HT H1
  obtain ⟨z0, zc, rfl, _, _, _⟩ := hr0.shape
  generalize (ts.getD 0 []).length = zn at *
  clear hr0
  have hm10 : m ≤ 10 := by omega
  have hm1 : 1 ≤ m := by omega
  have Hin := Lib.hid (fun w1 => l1In_c (m : Int) 1 10 w1)
  have hin : (decide ((1 : Int) ≤ (m : Int)) && decide ((m : Int) ≤ 10)) = true := by rw [decide_eq_true (by omega), decide_eq_true (by omega)]; rfl
  rw [hin] at Hin
  clear hin
  go_enter Tryz.func19, Tryz.ntmps19
  go_wp2_with fail
  refine (Hin.out _).mono ?_
  rintro e w' ⟨rfl, rfl⟩
  go_wp2
  go_loopg [5] n (fun g i wr => ∃ (k : Nat), i = .int .i64 k ∧ k + g = n ∧ Hid (T = (im && allF (chB ts xs) g k)) ∧ Hid (Below w.heap.size w wr))
  case atStart => exact ⟨0, rfl, by omega, HT, Lib.hid (Below.refl _ _)⟩
  case round =>
    obtain ⟨k, rfl, hk, HK, hbel⟩ := hrel
    obtain ⟨g, hg⟩ : ∃ g, g = gk := ⟨_, rfl⟩
    rw [← hg] at HK hk
    by_cases hlt : k < n
    · obtain ⟨g', rfl⟩ : ∃ t, g = t + 1 := ⟨g - 1, by omega⟩
      have HK1 := Lib.hid (show T = (im && if chB ts xs k = true then allF (chB ts xs) g' (k + 1) else false) from HK.out)
      obtain ⟨b, o, rfl, hb, hx0⟩ := hcell (by omega)
      obtain ⟨x, hx, _⟩ := at_lt (xs := xs) (k := k) (by have := Hn.out; omega)
      obtain ⟨y1, y2, f0, f1, s1, s2⟩ := hx0 k x hx
      obtain ⟨u1, e1, r1⟩ := Ht.out k (by omega)
      obtain ⟨u2, e2, r2⟩ := Ht.out (k + 1) (by omega)
      have hbw := hbel.out
      have g0 : wr.cell? ⟨b, o + k * 2, none⟩ = some y1 := (hbw.cell (p := ⟨b, o + k * 2, none⟩) hb).trans f0
      have g1 : wr.cell? ⟨b, o + k * 2 + 1, none⟩ = some y2 := (hbw.cell (p := ⟨b, o + k * 2 + 1, none⟩) hb).trans f1
      have g2 : wr.cell? ⟨tb, tof + k, none⟩ = some u1 := (hbw.cell (p := ⟨tb, tof + k, none⟩) htb).trans e1
      have g3 : wr.cell? ⟨tb, tof + (k + 1), none⟩ = some u2 := (hbw.cell (p := ⟨tb, tof + (k + 1), none⟩) htb).trans e2
      have HB := Lib.hid (show chB ts xs k = stepM (ts.getD k []) (ts.getD (k + 1) []) x from by unfold chB; rw [show xs.getD k ([], []) = x from by simp [List.getD, hx]])
      have HC := Lib.hid (fun wz (hz : Below w.heap.size w wz) => spec_IsStep_c (w := wz) (va := u1) (vb := u2) (vx := .agg #[y1, y2]) (x := x) (Tab.frame _ _ _ _ r1 hz) (Tab.frame _ _ _ _ r2 hz) ⟨y1, y2, rfl, Tab.frame _ _ _ _ s1 hz, Tab.frame _ _ _ _ s2 hz⟩)
      generalize stepM (ts.getD k []) (ts.getD (k + 1) []) x = sb at HB HC
      obtain ⟨p1, pn1, pc1, rfl⟩ : ∃ a n c, u1 = .slice a n c := by obtain ⟨a, c, e, _⟩ := r1.shape; exact ⟨_, _, _, e⟩
      obtain ⟨p2, pn2, pc2, rfl⟩ : ∃ a n c, u2 = .slice a n c := by obtain ⟨a, c, e, _⟩ := r2.shape; exact ⟨_, _, _, e⟩
      obtain ⟨q1, qn1, qc1, rfl⟩ : ∃ a n c, y1 = .slice a n c := by obtain ⟨a, c, e, _⟩ := s1.shape; exact ⟨_, _, _, e⟩
      obtain ⟨q2, qn2, qc2, rfl⟩ : ∃ a n c, y2 = .slice a n c := by obtain ⟨a, c, e, _⟩ := s2.shape; exact ⟨_, _, _, e⟩
      have hz := hbw.size
      have hbr : b < wr.heap.size := by omega
      have htr : tb < wr.heap.size := by omega
      have hkn : (k : Int) < (n : Int) := by omega
      have hkm : (k : Int) < (m : Int) := by omega
      have hkm1 : (k : Int) + 1 < (m : Int) := by omega
      have hw1 : IntKind.i64.wrap ((k : Int) + 1) = (k : Int) + 1 := IntWalk.i64_in _ (by omega)
      have hk0 : (0 : Int) ≤ (k : Int) + 1 := by omega
      have hkt : ((k : Int) + 1).toNat = k + 1 := by omega
      clear f0 f1 e1 e2 r1 r2 s1 s2 hx0 hcell hx HK hbw
      cases sb with
      | true =>
        have HF := Lib.hid (show T = (im && allF (chB ts xs) g' (k + 1)) from by rw [HK1.out, if_pos HB.out])
        clear HK1 HB
        go_wp2
        have hA := htr
        have hBb := hbr
        have HW := hbel
        have hS0 : wr.cell? ⟨tb, tof + k, none⟩ = some (.slice p1 pn1 pc1) ∧ wr.cell? ⟨tb, tof + (k + 1), none⟩ = some (.slice p2 pn2 pc2) ∧ wr.cell? ⟨b, o + k * 2, none⟩ = some (.slice q1 qn1 qc1) ∧ wr.cell? ⟨b, o + k * 2 + 1, none⟩ = some (.slice q2 qn2 qc2) := ⟨g2, g3, g0, g1⟩
        have hSd : wr.drew.cell? ⟨tb, tof + k, none⟩ = some (.slice p1 pn1 pc1) ∧ wr.drew.cell? ⟨tb, tof + (k + 1), none⟩ = some (.slice p2 pn2 pc2) ∧ wr.drew.cell? ⟨b, o + k * 2, none⟩ = some (.slice q1 qn1 qc1) ∧ wr.drew.cell? ⟨b, o + k * 2 + 1, none⟩ = some (.slice q2 qn2 qc2) := hS0
        have HS := Lib.hid (fun (wz : World) (hb3 : Below wr.heap.size wr wz) => (show wz.cell? ⟨tb, tof + k, none⟩ = some (.slice p1 pn1 pc1) ∧ wz.cell? ⟨tb, tof + (k + 1), none⟩ = some (.slice p2 pn2 pc2) ∧ wz.cell? ⟨b, o + k * 2, none⟩ = some (.slice q1 qn1 qc1) ∧ wz.cell? ⟨b, o + k * 2 + 1, none⟩ = some (.slice q2 qn2 qc2) from ⟨(hb3.cell (p := ⟨tb, tof + k, none⟩) hA).trans hS0.1, (hb3.cell (p := ⟨tb, tof + (k + 1), none⟩) hA).trans hS0.2.1, (hb3.cell (p := ⟨b, o + k * 2, none⟩) hBb).trans hS0.2.2.1, (hb3.cell (p := ⟨b, o + k * 2 + 1, none⟩) hBb).trans hS0.2.2.2⟩))
        have B1 := (Below.refl wr.heap.size wr).drew
        have HC1 := Lib.hid (HC.out _ HW.out.drew)
        clear HC g0 g1 g2 g3
        go_region_held3 (fun w' => w'.cell? ⟨tb, tof + k, none⟩ = some (.slice p1 pn1 pc1) ∧ w'.cell? ⟨tb, tof + (k + 1), none⟩ = some (.slice p2 pn2 pc2) ∧ w'.cell? ⟨b, o + k * 2, none⟩ = some (.slice q1 qn1 qc1) ∧ w'.cell? ⟨b, o + k * 2 + 1, none⟩ = some (.slice q2 qn2 qc2))
          (first | with_reducible exact hS1 | with_reducible exact hSd | with_reducible exact hS0 | go_keep)
          ((first
            | (go_at_call 16; (with_reducible refine HC1.out.mono ?_); rintro e w2 ⟨rfl, hb⟩; have B2 := B1.trans (hb.mono B1.size); have hS1 := HS.out _ B2; clear hb)
            | fail))
        have HZ := Lib.hid (HW.out.trans (B2.mono HW.out.size))
        clear B1 B2
        go_wp2
        go_roundg g'
        case measure => omega
        case rel => exact ⟨k + 1, by go_num, by omega, HF, HZ⟩
      | false =>
        have HF := Lib.hid (show T = false from by rw [HK1.out, if_neg (by rw [HB.out]; simp)]; simp)
        clear HK1 HB
        go_wp2
        have hA := htr
        have hBb := hbr
        have HW := hbel
        have hS0 : wr.cell? ⟨tb, tof + k, none⟩ = some (.slice p1 pn1 pc1) ∧ wr.cell? ⟨tb, tof + (k + 1), none⟩ = some (.slice p2 pn2 pc2) ∧ wr.cell? ⟨b, o + k * 2, none⟩ = some (.slice q1 qn1 qc1) ∧ wr.cell? ⟨b, o + k * 2 + 1, none⟩ = some (.slice q2 qn2 qc2) := ⟨g2, g3, g0, g1⟩
        have hSd : wr.drew.cell? ⟨tb, tof + k, none⟩ = some (.slice p1 pn1 pc1) ∧ wr.drew.cell? ⟨tb, tof + (k + 1), none⟩ = some (.slice p2 pn2 pc2) ∧ wr.drew.cell? ⟨b, o + k * 2, none⟩ = some (.slice q1 qn1 qc1) ∧ wr.drew.cell? ⟨b, o + k * 2 + 1, none⟩ = some (.slice q2 qn2 qc2) := hS0
        have HS := Lib.hid (fun (wz : World) (hb3 : Below wr.heap.size wr wz) => (show wz.cell? ⟨tb, tof + k, none⟩ = some (.slice p1 pn1 pc1) ∧ wz.cell? ⟨tb, tof + (k + 1), none⟩ = some (.slice p2 pn2 pc2) ∧ wz.cell? ⟨b, o + k * 2, none⟩ = some (.slice q1 qn1 qc1) ∧ wz.cell? ⟨b, o + k * 2 + 1, none⟩ = some (.slice q2 qn2 qc2) from ⟨(hb3.cell (p := ⟨tb, tof + k, none⟩) hA).trans hS0.1, (hb3.cell (p := ⟨tb, tof + (k + 1), none⟩) hA).trans hS0.2.1, (hb3.cell (p := ⟨b, o + k * 2, none⟩) hBb).trans hS0.2.2.1, (hb3.cell (p := ⟨b, o + k * 2 + 1, none⟩) hBb).trans hS0.2.2.2⟩))
        have B1 := (Below.refl wr.heap.size wr).drew
        have HC1 := Lib.hid (HC.out _ HW.out.drew)
        clear HC g0 g1 g2 g3
        go_region_held3 (fun w' => w'.cell? ⟨tb, tof + k, none⟩ = some (.slice p1 pn1 pc1) ∧ w'.cell? ⟨tb, tof + (k + 1), none⟩ = some (.slice p2 pn2 pc2) ∧ w'.cell? ⟨b, o + k * 2, none⟩ = some (.slice q1 qn1 qc1) ∧ w'.cell? ⟨b, o + k * 2 + 1, none⟩ = some (.slice q2 qn2 qc2))
          (first | with_reducible exact hS1 | with_reducible exact hSd | with_reducible exact hS0 | go_keep)
          ((first
            | (go_at_call 16; (with_reducible refine HC1.out.mono ?_); rintro e w2 ⟨rfl, hb⟩; have B2 := B1.trans (hb.mono B1.size); have hS1 := HS.out _ B2; clear hb)
            | fail))
        have HZ := Lib.hid (HW.out.trans (B2.mono HW.out.size))
        clear B1 B2
        go_wp2
        go_ret
        exact ⟨by rw [HF.out]; rfl, HZ.out⟩
    · have e : g = 0 := by omega
      subst e
      have HF := Lib.hid (show T = im from by rw [HK.out]; exact Bool.and_true im)
      have hu1 : wr.cell? ⟨tb, tof, none⟩ = some (.slice z0 zn zc) := (hbel.out.cell (p := ⟨tb, tof, none⟩) htb).trans hu0
      clear HK hg hcell
      go_wp2_with fail
      refine (H1.out _ hbel.out).mono ?_
      rintro e w' ⟨rfl, rfl⟩
      go_wp2
      go_ret
      exact ⟨by rw [HF.out]; rfl, hbel.out⟩
end Go.Proofs.YtlkgkfgpnnahdaaGreat
end

section
/-
  A slice of bytes that came in, opened.
-/
namespace Go.Sd
open Go.ChangeShapes Go.WideShapes Go.ChangeAt Go.RowKit Go.Deep
section
variable {H : Type} {enc : TypeId × Value → H} {P : Program} {W : World} {base : Nat}
theorem open_Bytes {t q : TypeId} (ht : P.underlying t = some (.slice q)) (hq : P.underlying q = some (.int .u8)) (cq : P.cellsOf q = 1) {v : Value} {d : DataW H} {p : List MemPlace}
    (hv : Value.okWide P W .any base t v) (h : DataW.Trod enc P W 0 (fun _ => true) true t v d p) : ∃ xs, BytR W v xs ∧ True := by
  obtain ⟨a, len, cap, rfl⟩ := okWide_slice ht hv
  obtain ⟨fuel, hf⟩ := h
  have h := hf
  simp only [Value.cells] at h
  rcases open_ints ht hq cq h with ⟨hcs, _⟩ | ⟨a', l, c, zs, hcs, _, hl, hm, hz, _, hcell, hwz⟩
  · simp at hcs
    obtain ⟨rfl, rfl, rfl⟩ := hcs
    exact ⟨[], ⟨[], Sl.mk' rfl (by simp) (by simp) (by simp) (by simp), rfl, by simp⟩, trivial⟩
  · simp at hcs
    obtain ⟨rfl, rfl, rfl⟩ := hcs
    simp only [if_true] at hz
    have hm' : cap ≤ 9223372036854775807 := hm
    refine ⟨zs.take len, ⟨(zs.take len).map (Value.int .u8), Sl.mk' (by simp; omega) hl hm' ?_ (by simp), by simp, ?_⟩, trivial⟩
    · intro a'' ha i u hu
      cases ha
      rw [List.getElem?_map, Option.map_eq_some_iff] at hu
      obtain ⟨z, hz1, rfl⟩ := hu
      have hi : i < (zs.take len).length := (List.getElem?_eq_some_iff.1 hz1).1
      rw [List.length_take] at hi
      rw [List.getElem?_take, if_pos (by omega)] at hz1
      have := hcell i (by omega)
      rw [List.getD, hz1] at this
      simpa using this
    · intro i u z hu hz1
      rw [List.getElem?_map, hz1] at hu
      simp at hu
      exact hu.symm
end
end Go.Sd
end

section
/-
  Inputs that are too long.
-/
namespace Go.Proofs.YtlkgkfgpnnahdaaGreat
open Go.RowKit Go.Deep Go.Sd
set_option linter.unusedSimpArgs false
set_option maxHeartbeats 1000000 in
theorem big_c {w : World} {a : Option Addr} {n c : Nat} (hn : n ≤ 9223372036854775807) :
    Calls Tryz.prog 4 #[.slice a n c] w fun e w' => e = .returned (.bool (decide (1048576 < n))) ∧ w = w' := by
  have hd : decide ((1048576 : Int) < (n : Int)) = decide (1048576 < n) := decide_eq_decide.2 (by omega)
  generalize decide (1048576 < n) = D at hd ⊢
  go_enter Tryz.func4, Tryz.ntmps4
  go_wp2
  go_ret
  exact ⟨by rw [← hd]; rfl, rfl⟩
end Go.Proofs.YtlkgkfgpnnahdaaGreat
end
