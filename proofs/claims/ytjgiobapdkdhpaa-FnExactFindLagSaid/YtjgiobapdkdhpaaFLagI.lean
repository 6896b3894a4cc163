/-
  FindLag, the program's.
-/
import Derived.Test.YtjgiobapdkdhpaaRows
import Derived.Test.YtjgiobapdkdhpaaBase
import Derived.Test.YtjgiobapdkdhpaaTabs
import Derived.Test.YtjgiobapdkdhpaaHarn
import Derived.Test.YtjgiobapdkdhpaaEqual
import Derived.Test.YtjgiobapdkdhpaaFindM
import Derived.Test.YtjgiobapdkdhpaaFindT
import Derived.Test.YtjgiobapdkdhpaaBoxKit
import Derived.Test.YtjgiobapdkdhpaaFindN
import Derived.Test.YtjgiobapdkdhpaaIsLag
import Derived.Test.YtjgiobapdkdhpaaFLagM
import Derived.Deep.RegionLaw
import Derived.WalkSpells
import Derived.IntWalk
namespace Go.Proofs.Ytjgiobapdkdhpaa
open Go.RowKit Go.Deep Go.Sd

def lagP (a b : Tb) (n : Int) (x : Tb × Tb) : Bool := lagM a b x n
set_option maxHeartbeats 1000000 in
theorem lagclo_c {w : World} {Ba Bb Bn : Nat} {va vb vx : Value} {a b : Tb} {n : Int} {x : Tb × Tb} (hA : w.cell? ⟨Ba, 0, none⟩ = some va) (hB : w.cell? ⟨Bb, 0, none⟩ = some vb) (hN : w.cell? ⟨Bn, 0, none⟩ = some (.int .i64 n)) (hla : Ba < w.heap.size) (hlb : Bb < w.heap.size) (hln : Bn < w.heap.size) (h1 : Tab w va a) (h2 : Tab w vb b) (h3 : StepR w vx x) :
    Calls Try.prog 82 #[vx, .pointer (some ⟨Ba, 0, none⟩), .pointer (some ⟨Bb, 0, none⟩), .pointer (some ⟨Bn, 0, none⟩)] w fun e w' => e = .returned (.bool (lagP a b n x)) ∧ Below w.heap.size w w' := by
  have HI := Lib.hid (fun w1 (hb : Below w.heap.size w w1) => impl_IsLag_c (n := n) (Tab.frame _ _ _ _ h1 hb) (Tab.frame _ _ _ _ h2 hb) (StepR.frame _ _ _ _ h3 hb))
  obtain ⟨xa, xn, xc, ya, yn, yc, rfl⟩ := h3.slices
  obtain ⟨_, _, rfl, _, _, _⟩ := h1.shape
  obtain ⟨_, _, rfl, _, _, _⟩ := h2.shape
  clear h1 h2 h3
  change Hid (∀ w1, Below w.heap.size w w1 → Calls Try.prog 83 #[_, _, _, .int .i64 n] w1 fun e w' => e = .returned (.bool (lagP a b n x)) ∧ Below w1.heap.size w1 w') at HI
  generalize lagP a b n x = T at HI ⊢
  obtain ⟨w1, ex, A0, c0, c1, m1⟩ := boxA_ex w 38 (.slice xa xn xc) (.slice ya yn yc)
  have hA1 := (A0.cell (p := ⟨Ba, 0, none⟩) hla).trans hA
  have hB1 := (A0.cell (p := ⟨Bb, 0, none⟩) hlb).trans hB
  have hN1 := (A0.cell (p := ⟨Bn, 0, none⟩) hln).trans hN
  go_enter Try.func82, Try.ntmps82
  go_wp2_with fail
  refine (HI.out _ A0).mono ?_
  rintro e w2 ⟨rfl, hb2⟩
  have HZ := Lib.hid (A0.trans (hb2.mono A0.size))
  clear hb2
  go_wp2
  go_ret
  exact ⟨rfl, HZ.out⟩
set_option maxHeartbeats 4000000 in
set_option maxRecDepth 10000 in
theorem findStepL_c {w : World} {Ba Bb Bn : Nat} {va vb : Value} {a b : Tb} {n : Int} (hA : w.cell? ⟨Ba, 0, none⟩ = some va) (hB : w.cell? ⟨Bb, 0, none⟩ = some vb) (hN : w.cell? ⟨Bn, 0, none⟩ = some (.int .i64 n)) (hla : Ba < w.heap.size) (hlb : Bb < w.heap.size) (hln : Bn < w.heap.size) (h1 : Tab w va a) (h2 : Tab w vb b) :
    Calls Try.prog 81 #[va, vb, .func (.func 82) #[] #[.pointer (some ⟨Ba, 0, none⟩), .pointer (some ⟨Bb, 0, none⟩), .pointer (some ⟨Bn, 0, none⟩)]] w (Makes2 (OStep 3 78) w (found (findVP (lagP a b n) a b)) (findVP (lagP a b n) a b).isSome) := by
  have HC := Lib.hid (fun w1 (hb : Below w.heap.size w w1) vx x (h3 : StepR w1 vx x) => lagclo_c ((hb.cell (p := ⟨Ba, 0, none⟩) hla).trans hA) ((hb.cell (p := ⟨Bb, 0, none⟩) hlb).trans hB) ((hb.cell (p := ⟨Bn, 0, none⟩) hln).trans hN) (Nat.lt_of_lt_of_le hla hb.size) (Nat.lt_of_lt_of_le hlb hb.size) (Nat.lt_of_lt_of_le hln hb.size) (Tab.frame _ _ _ _ h1 hb) (Tab.frame _ _ _ _ h2 hb) h3)
  have HV := Lib.hid (show findVP (lagP a b n) a b = if (isMat a && (isMat b && (decide (a.length ≤ 2) && decide (b.length ≤ 2)))) = true then findR (lagP a b n) (tabsN b.length a.length) (tabsN a.length b.length) else none from rfl)
  have Hl1 := Lib.hid (fun (hm : isMat a = true) => isMat_len hm)
  have Hl2 := Lib.hid (fun (hm : isMat b = true) => isMat_len hm)
  have HM1 := Lib.hid (fun w1 (hb : Below w.heap.size w w1) => impl_IsMatrix_c (Tab.frame _ _ _ _ h1 hb))
  have HM2 := Lib.hid (fun w1 (hb : Below w.heap.size w w1) => impl_IsMatrix_c (Tab.frame _ _ _ _ h2 hb))
  generalize findVP (lagP a b n) a b = V at HV ⊢
  generalize lagP a b n = P at HV HC
  generalize hma : isMat a = ma at *
  generalize hmb : isMat b = mb at *
  clear hma hmb hA hB hN hla hlb hln
  obtain ⟨_, _, rfl, _, _, _⟩ := h1.shape
  obtain ⟨_, _, rfl, _, _, _⟩ := h2.shape
  clear h1 h2
  generalize hp : a.length = p at *
  generalize hq : b.length = q at *
  clear hp hq
  go_enter Try.func81, Try.ntmps81
  go_wp2_with fail
  have fz0 : (w.alloc (.cells #[.slice none 0 0, .slice none 0 0] 38)).frozen? ⟨w.heap.size, 0, none⟩ = false := by simp [go_sem]
  have fz1 : (w.alloc (.cells #[.slice none 0 0, .slice none 0 0] 38)).frozen? ⟨w.heap.size, 1, none⟩ = false := by simp [go_sem]
  obtain ⟨w0, ex, A0, c0, c1, m1⟩ := boxA_ex w 38 (.slice none 0 0) (.slice none 0 0)
  rw [ex] at fz0 fz1
  change Calls Try.prog _ _ (w.alloc (.cells #[.slice none 0 0, .slice none 0 0] 38)) _
  rw [ex]
  clear ex
  refine (HM1.out _ A0).mono ?_
  rintro e w' ⟨rfl, rfl⟩
  cases ma with
  | false =>
    have HK := Lib.hid (show V = none from by rw [HV.out]; rfl)
    clear HV Hl1 Hl2 HM1 HM2
    go_wp2
    have r0 := World.cell?_setCell_same w0 _ (.slice none 0 0) c0
    have s1 : ((w0.setCell ⟨w.heap.size, 0, none⟩ (.slice none 0 0)).cell? ⟨w.heap.size, 1, none⟩) = some (.slice none 0 0) := (World.cell?_setCell_other _ _ _ _ (by simp)).trans c1
    have r1 := World.cell?_setCell_same _ _ (.slice none 0 0) s1
    refine bodyPost_ret (v := .tuple #[.agg #[.slice none 0 0, .slice none 0 0], .bool false]) (by simp [results, Try.results81, go_sem, r0, r1]) rfl ?_
    exact ⟨_, by rw [HK.out]; rfl, by rw [HK.out]; exact New.none2 (by simp; have := (A0).size; omega), ((A0).setCell (p := ⟨w.heap.size, 0, none⟩) (Nat.le_refl _) _).setCell (p := ⟨w.heap.size, 1, none⟩) (Nat.le_refl _) _⟩
  | true =>
  go_wp2_with fail
  refine (HM2.out _ A0).mono ?_
  rintro e w' ⟨rfl, rfl⟩
  cases mb with
  | false =>
    have HK := Lib.hid (show V = none from by rw [HV.out]; rfl)
    clear HV Hl1 Hl2 HM1 HM2
    go_wp2
    have r0 := World.cell?_setCell_same w0 _ (.slice none 0 0) c0
    have s1 : ((w0.setCell ⟨w.heap.size, 0, none⟩ (.slice none 0 0)).cell? ⟨w.heap.size, 1, none⟩) = some (.slice none 0 0) := (World.cell?_setCell_other _ _ _ _ (by simp)).trans c1
    have r1 := World.cell?_setCell_same _ _ (.slice none 0 0) s1
    refine bodyPost_ret (v := .tuple #[.agg #[.slice none 0 0, .slice none 0 0], .bool false]) (by simp [results, Try.results81, go_sem, r0, r1]) rfl ?_
    exact ⟨_, by rw [HK.out]; rfl, by rw [HK.out]; exact New.none2 (by simp; have := (A0).size; omega), ((A0).setCell (p := ⟨w.heap.size, 0, none⟩) (Nat.le_refl _) _).setCell (p := ⟨w.heap.size, 1, none⟩) (Nat.le_refl _) _⟩
  | true =>
  by_cases hp2 : p ≤ 2
  rotate_left
  · have HK := Lib.hid (show V = none from by rw [HV.out, decide_eq_false hp2]; rfl)
    have hp2' : 2 < p := by omega
    clear HV Hl1 Hl2 HM1 HM2
    go_wp2
    have r0 := World.cell?_setCell_same w0 _ (.slice none 0 0) c0
    have s1 : ((w0.setCell ⟨w.heap.size, 0, none⟩ (.slice none 0 0)).cell? ⟨w.heap.size, 1, none⟩) = some (.slice none 0 0) := (World.cell?_setCell_other _ _ _ _ (by simp)).trans c1
    have r1 := World.cell?_setCell_same _ _ (.slice none 0 0) s1
    refine bodyPost_ret (v := .tuple #[.agg #[.slice none 0 0, .slice none 0 0], .bool false]) (by simp [results, Try.results81, go_sem, r0, r1]) rfl ?_
    exact ⟨_, by rw [HK.out]; rfl, by rw [HK.out]; exact New.none2 (by simp; have := (A0).size; omega), ((A0).setCell (p := ⟨w.heap.size, 0, none⟩) (Nat.le_refl _) _).setCell (p := ⟨w.heap.size, 1, none⟩) (Nat.le_refl _) _⟩
  by_cases hq2 : q ≤ 2
  rotate_left
  · have HK := Lib.hid (show V = none from by rw [HV.out, decide_eq_false hq2, Bool.and_false]; rfl)
    have hq2' : 2 < q := by omega
    clear HV Hl1 Hl2 HM1 HM2
    go_wp2
    have r0 := World.cell?_setCell_same w0 _ (.slice none 0 0) c0
    have s1 : ((w0.setCell ⟨w.heap.size, 0, none⟩ (.slice none 0 0)).cell? ⟨w.heap.size, 1, none⟩) = some (.slice none 0 0) := (World.cell?_setCell_other _ _ _ _ (by simp)).trans c1
    have r1 := World.cell?_setCell_same _ _ (.slice none 0 0) s1
    refine bodyPost_ret (v := .tuple #[.agg #[.slice none 0 0, .slice none 0 0], .bool false]) (by simp [results, Try.results81, go_sem, r0, r1]) rfl ?_
    exact ⟨_, by rw [HK.out]; rfl, by rw [HK.out]; exact New.none2 (by simp; have := (A0).size; omega), ((A0).setCell (p := ⟨w.heap.size, 0, none⟩) (Nat.le_refl _) _).setCell (p := ⟨w.heap.size, 1, none⟩) (Nat.le_refl _) _⟩
  have hp0 := (Hl1.out (by first | rfl | trivial)).1
  have hq0 := (Hl2.out (by first | rfl | trivial)).1
  have HVV := Lib.hid (show V = findR P (tabsN q p) (tabsN p q) from by rw [HV.out, decide_eq_true hp2, decide_eq_true hq2]; rfl)
  clear HV Hl1 Hl2 HM1 HM2
  have hpq : p * q ≤ 4 := Nat.mul_le_mul hp2 hq2
  obtain ⟨M, hM⟩ : ∃ M, M = 3 ^ (p * q) := ⟨_, rfl⟩
  have hM0 : 0 < M := by rw [hM]; exact Nat.pow_pos (by decide)
  have hM81 : M ≤ 81 := by rw [hM]; exact Nat.le_trans (Nat.pow_le_pow_right (by decide) hpq) (by decide)
  have Ht1 := Lib.hid (tables_c (w := w0) hq0 hq2 hp0 hp2)
  have Ht2 := Lib.hid (fun w1 => tables_c (w := w1) hp0 hp2 hq0 hq2)
  have hrl : (tabsN p q).length = M := by rw [hM]; simp [tabsN]
  have hsl : (tabsN q p).length = M := by rw [hM, Nat.mul_comm p q]; simp [tabsN]
  generalize tabsN p q = rs at *
  generalize tabsN q p = ss at *
  have HV0 := Lib.hid (show V = findR P ss (rs.drop 0) from HVV.out)
  have Hrl := Lib.hid hrl
  have Hsl := Lib.hid hsl
  have A0' := Lib.hid A0
  clear hM HVV hrl hsl A0
  go_wp2_with fail
  refine Ht1.out.mono ?_
  rintro e w1 ⟨vs, rfl, hn1, hb1⟩
  have Hn1 := Lib.hid hn1
  have Hb1 := Lib.hid hb1
  have hz1 := hb1.size
  obtain ⟨sb, sc, _, hvs, hsc, _, hsb, _⟩ := New.at (OTab.kept _ _) hn1 (List.getElem?_eq_getElem (show 0 < ss.length from by rw [Hsl.out]; exact hM0))
  subst hvs
  rw [Hsl.out] at Hn1 hsc ⊢
  clear hn1 hb1 Ht1
  go_wp2_with fail
  refine (Ht2.out _).mono ?_
  rintro e w2 ⟨vr, rfl, hn2, hb2⟩
  have Hn2 := Lib.hid hn2
  have hz2 := hb2.size
  obtain ⟨rb, rc, _, hvr, hrc, _, hrb, _⟩ := New.at (OTab.kept _ _) hn2 (List.getElem?_eq_getElem (show 0 < rs.length from by rw [Hrl.out]; exact hM0))
  subst hvr
  rw [Hrl.out] at Hn2 hrc ⊢
  have Hb12 := Lib.hid hb2
  have Hb2 := Lib.hid (Hb1.out.trans (hb2.mono hz1))
  clear hn2 hb2 Ht2
  have HB2 := Lib.hid (Below.refl w2.heap.size w2)
  go_wp2
  go_loopg [44] M (fun g i wr => ∃ (x : Nat), i = .int .i64 x ∧ x + g = M ∧ Hid (V = findR P ss (rs.drop x)) ∧ Hid (Below w2.heap.size w2 wr))
  case atStart => exact ⟨0, rfl, by omega, HV0, HB2⟩
  case round =>
    obtain ⟨x, rfl, hx, HVx, hbx⟩ := hrel
    clear HV0 HB2
    obtain ⟨wx, rfl⟩ : ∃ y, y = wr := ⟨_, rfl⟩
    have hzx := hbx.out.size
    by_cases hltx : x < M
    · obtain ⟨r, hr, hd⟩ := at_lt (xs := rs) (k := x) (by rw [Hrl.out]; exact hltx)
      obtain ⟨rb', _, ur, hv, _, _, _, hcr, _, hnr, _⟩ := New.at (OTab.kept _ _) Hn2.out hr
      obtain rfl : rb' = rb := by simp at hv; exact hv.1.symm
      have HVy0 := Lib.hid (show V = (match findS P r (ss.drop 0) with | some x => some x | none => findR P ss (rs.drop (x + 1))) from by rw [HVx.out, hd]; rfl)
      have hcr1 := (hbx.out.cell (p := ⟨rb', x, none⟩) hrb).trans hcr
      obtain ⟨ra, rn, rcc, rfl⟩ := hnr.slice
      have Hnr := Lib.hid hnr
      have hxI : (x : Int) < (M : Int) := by omega
      clear hr hd hv hcr hnr HVx
      have HBx := Lib.hid (Below.refl wx.heap.size wx)
      go_wp2
      go_loopg [50] M (fun g i wr => ∃ (y : Nat), i = .int .i64 y ∧ y + g = M ∧ Hid (V = (match findS P r (ss.drop y) with | some x => some x | none => findR P ss (rs.drop (x + 1)))) ∧ Hid (Below wx.heap.size wx wr))
      case atStart => exact ⟨0, rfl, by omega, HVy0, HBx⟩
      case round =>
        obtain ⟨y, rfl, hy, HVy, hby⟩ := hrel
        clear HVy0 HBx
        obtain ⟨wy, rfl⟩ : ∃ y, y = wr := ⟨_, rfl⟩
        have hzy := hby.out.size
        by_cases hlty : y < M
        · obtain ⟨s, hs, hd⟩ := at_lt (xs := ss) (k := y) (by rw [Hsl.out]; exact hlty)
          obtain ⟨sb', _, us, hv, _, _, _, hcs, _, hns, _⟩ := New.at (OTab.kept _ _) Hn1.out hs
          obtain rfl : sb' = sb := by simp at hv; exact hv.1.symm
          have HVs := Lib.hid (show V = (match (if P (r, s) = true then some (r, s) else findS P r (ss.drop (y + 1))) with | some x => some x | none => findR P ss (rs.drop (x + 1))) from by rw [HVy.out, hd]; rfl)
          have hb1y := (Hb12.out.trans (hbx.out.mono hz2)).trans (hby.out.mono (Nat.le_trans hz2 hzx))
          have hcs1 := (hb1y.cell (p := ⟨sb', y, none⟩) hsb).trans hcs
          obtain ⟨sa, sn, scc, rfl⟩ := hns.slice
          have HP := Lib.hid (New.pair' (lo := w0.heap.size) hns Hnr.out Hb12.out hz1)
          have hb2y := hbx.out.trans (hby.out.mono hzx)
          have HPy := Lib.hid (((HP.out.inn OStep.held).keep OStep.held hb2y (Nat.le_refl _)).new)
          have Hb0y := Lib.hid (Hb2.out.trans (hb2y.mono (Nat.le_trans hz1 hz2)))
          have hyI : (y : Int) < (M : Int) := by omega
          obtain ⟨w4, ex, hb4, q0, q1, n4⟩ := boxA_ex wy 38 (.slice ra rn rcc) (.slice sa sn scc)
          have Hb4 := Lib.hid hb4
          have hz4 := hb4.size
          have Hby4 := Lib.hid (hby.out.trans (hb4.mono hzy))
          have Hb04 := Lib.hid (Hb0y.out.trans (hb4.mono Hb0y.out.size))
          have hst := StepR.frame _ _ _ _ HPy.out.stp hb4
          have HCC := Lib.hid (HC.out w4 (A0'.out.trans (Hb04.out.mono A0'.out.size)) _ _ hst)
          clear hs hd hv hcs hns HVy hb1y hb2y hb4 hst
          generalize P (r, s) = d at HCC HVs
          go_wp2_with fail
          refine HCC.out.mono ?_
          rintro e w5 ⟨rfl, hb5⟩
          clear ex
          replace q0 := (hb5.cell (p := ⟨wy.heap.size, 0, none⟩) n4).trans q0
          replace q1 := (hb5.cell (p := ⟨wy.heap.size, 1, none⟩) n4).trans q1
          cases d with
          | false =>
            have HN := Lib.hid (show V = (match findS P r (ss.drop (y + 1)) with | some x => some x | none => findR P ss (rs.drop (x + 1))) from by rw [HVs.out]; rfl)
            have HR := Lib.hid (Hby4.out.trans (hb5.mono (Nat.le_trans hzy hz4)))
            clear HVs HP HPy Hb0y Hb4 Hby4 Hb04 HCC hb5 q0 q1 hcs1
            go_wp2
            go_roundg (M - (y + 1))
            case measure => omega
            case rel => exact ⟨y + 1, by go_num, by omega, HN, HR⟩
          | true =>
            have HN := Lib.hid (show V = some (r, s) from by rw [HVs.out]; rfl)
            have hb8 := Hb04.out.trans (hb5.mono Hb04.out.size)
            replace c0 := (hb8.cell (p := ⟨w.heap.size, 0, none⟩) m1).trans c0
            replace c1 := (hb8.cell (p := ⟨w.heap.size, 1, none⟩) m1).trans c1
            replace fz0 := (hb8.frozen (p := ⟨w.heap.size, 0, none⟩) m1).trans fz0
            replace fz1 := (hb8.frozen (p := ⟨w.heap.size, 1, none⟩) m1).trans fz1
            have HPP := Lib.hid (((HPy.out.inn OStep.held).keep OStep.held (Hb4.out.trans (hb5.mono hz4)) (Nat.le_refl _)).new)
            have HA := Lib.hid (A0'.out.trans (hb8.mono A0'.out.size))
            clear HVs HP HPy Hb0y Hb4 Hby4 Hb04 HCC hb5 hb8 hcs1
            go_wp2
            have r0 := World.cell?_setCell_same w5 _ (.slice ra rn rcc) c0
            have s1 : ((w5.setCell ⟨w.heap.size, 0, none⟩ (.slice ra rn rcc)).cell? ⟨w.heap.size, 1, none⟩) = some (.slice none 0 0) := (World.cell?_setCell_other _ _ _ _ (by simp)).trans c1
            have r1 := World.cell?_setCell_same _ _ (.slice sa sn scc) s1
            refine bodyPost_ret (v := .tuple #[.agg #[.slice ra rn rcc, .slice sa sn scc], .bool true]) (by simp [results, Try.results81, go_sem, r0, r1]) rfl ?_
            exact ⟨_, by rw [HN.out]; rfl, by rw [HN.out]; exact (New.setCell_low OStep.held (New.setCell_low OStep.held HPP.out (show w.heap.size < w0.heap.size from m1) _) (show w.heap.size < w0.heap.size from m1) _).mono (Nat.le_of_lt m1), (HA.out.setCell (p := ⟨w.heap.size, 0, none⟩) (Nat.le_refl _) _).setCell (p := ⟨w.heap.size, 1, none⟩) (Nat.le_refl _) _⟩
        · have HN := Lib.hid (show V = findR P ss (rs.drop (x + 1)) from by rw [HVy.out, List.drop_eq_nil_of_le (by rw [Hsl.out]; omega)]; rfl)
          have HR := Lib.hid (hbx.out.trans (hby.out.mono hzx))
          clear HVy hby
          go_wp2
          go_roundg (M - (x + 1))
          case measure => omega
          case rel => exact ⟨x + 1, by go_num, by omega, HN, HR⟩
    · have HK := Lib.hid (show V = none from by rw [HVx.out, List.drop_eq_nil_of_le (by rw [Hrl.out]; omega)]; rfl)
      clear HVx
      have hb8 := Hb2.out.trans (hbx.out.mono (Nat.le_trans hz1 hz2))
      have Abx := Lib.hid (A0'.out.trans (hb8.mono A0'.out.size))
      replace c0 := (hb8.cell (p := ⟨w.heap.size, 0, none⟩) m1).trans c0
      replace c1 := (hb8.cell (p := ⟨w.heap.size, 1, none⟩) m1).trans c1
      replace fz0 := (hb8.frozen (p := ⟨w.heap.size, 0, none⟩) m1).trans fz0
      replace fz1 := (hb8.frozen (p := ⟨w.heap.size, 1, none⟩) m1).trans fz1
      clear hb8
      go_wp2
      have r0 := World.cell?_setCell_same wx _ (.slice none 0 0) c0
      have s1 : ((wx.setCell ⟨w.heap.size, 0, none⟩ (.slice none 0 0)).cell? ⟨w.heap.size, 1, none⟩) = some (.slice none 0 0) := (World.cell?_setCell_other _ _ _ _ (by simp)).trans c1
      have r1 := World.cell?_setCell_same _ _ (.slice none 0 0) s1
      refine bodyPost_ret (v := .tuple #[.agg #[.slice none 0 0, .slice none 0 0], .bool false]) (by simp [results, Try.results81, go_sem, r0, r1]) rfl ?_
      exact ⟨_, by rw [HK.out]; rfl, by rw [HK.out]; exact New.none2 (by simp; have := (Abx.out).size; omega), ((Abx.out).setCell (p := ⟨w.heap.size, 0, none⟩) (Nat.le_refl _) _).setCell (p := ⟨w.heap.size, 1, none⟩) (Nat.le_refl _) _⟩
set_option maxHeartbeats 2000000 in
theorem impl_FindLag_c {w : World} {va vb : Value} {a b : Tb} {n : Int} (h1 : Tab w va a) (h2 : Tab w vb b) (hn : I64 n) :
    Calls Try.prog 25 #[va, vb, .int .i64 n] w (Makes2 (OStep 3 78) w (found (lagF a b n)) (lagF a b n).isSome) := by
  have hmf : ∀ (fn : Fn) (first cap : Array Value) (w : World), (Instr.makeFunc fn first cap).run Try.prog w = .ok (.func fn first cap) w := fun _ _ _ _ => rfl
  have H1 := Lib.hid (fun w1 (hb : Below w.heap.size w w1) => Tab.frame _ _ _ _ h1 hb)
  have H2 := Lib.hid (fun w1 (hb : Below w.heap.size w w1) => Tab.frame _ _ _ _ h2 hb)
  obtain ⟨aa, ac, rfl, _, _, _⟩ := h1.shape
  obtain ⟨ba, bc, rfl, _, _, _⟩ := h2.shape
  clear h1 h2
  obtain ⟨wA, eA, hA0⟩ : ∃ wA, wA = ((w.alloc (.cells #[.slice aa a.length ac] 35)).alloc (.cells #[.slice ba b.length bc] 35)).alloc (.cells #[.int .i64 n] 3) ∧ Below w.heap.size w wA := ⟨_, rfl, (((Below.refl _ _).alloc (Nat.le_refl _) _).alloc (by simp) _).alloc (by simp <;> omega) _⟩
  obtain ⟨w0, ex, hA1, c0, c1, m1⟩ := boxA_ex wA 38 (.slice none 0 0) (.slice none 0 0)
  have zA : wA.heap.size = w.heap.size + 1 + 1 + 1 := by rw [eA]; simp
  have cA : wA.cell? ⟨w.heap.size, 0, none⟩ = some (.slice aa a.length ac) := by rw [eA]; simp [go_sem]
  have cB : wA.cell? ⟨w.heap.size + 1, 0, none⟩ = some (.slice ba b.length bc) := by rw [eA]; simp [go_sem]
  have cN : wA.cell? ⟨w.heap.size + 1 + 1, 0, none⟩ = some (.int .i64 n) := by rw [eA]; simp [go_sem]
  have fz0 : w0.frozen? ⟨wA.heap.size, 0, none⟩ = false := by rw [← ex]; simp [go_sem]
  have fz1 : w0.frozen? ⟨wA.heap.size, 1, none⟩ = false := by rw [← ex]; simp [go_sem]
  replace cA := (hA1.cell (p := ⟨w.heap.size, 0, none⟩) (show w.heap.size < wA.heap.size by omega)).trans cA
  replace cB := (hA1.cell (p := ⟨w.heap.size + 1, 0, none⟩) (show w.heap.size + 1 < wA.heap.size by omega)).trans cB
  replace cN := (hA1.cell (p := ⟨w.heap.size + 1 + 1, 0, none⟩) (show w.heap.size + 1 + 1 < wA.heap.size by omega)).trans cN
  have hz0 := hA1.size
  have A0 := hA0.trans (hA1.mono hA0.size)
  have HF := Lib.hid (findStepL_c (w := w0) (n := n) cA cB cN (by omega) (by omega) (by omega) (H1.out w0 A0) (H2.out w0 A0))
  have eW : (((w.alloc (.cells #[.slice aa a.length ac] 35)).alloc (.cells #[.slice ba b.length bc] 35)).alloc (.cells #[.int .i64 n] 3)).alloc (.cells #[.slice none 0 0, .slice none 0 0] 38) = w0 := by rw [← eA]; exact ex
  by_cases hin : 1 ≤ n ∧ n ≤ 5
  · have HL := Lib.hid (show lagF a b n = findVP (lagP a b n) a b from by unfold lagF; rw [if_pos hin]; rfl)
    rw [HL.out]
    generalize findVP (lagP a b n) a b = V at HF ⊢
    obtain ⟨hi1, hi2⟩ := hin
    clear HL
    go_enter Try.func25, Try.ntmps25
    go_wp2_with fail
    refine HF.out.mono ?_
    rintro e w2 ⟨v2, rfl, hn2, hb2⟩
    replace c0 := (hb2.cell (p := ⟨wA.heap.size, 0, none⟩) m1).trans c0
    replace c1 := (hb2.cell (p := ⟨wA.heap.size, 1, none⟩) m1).trans c1
    replace fz0 := (hb2.frozen (p := ⟨wA.heap.size, 0, none⟩) m1).trans fz0
    replace fz1 := (hb2.frozen (p := ⟨wA.heap.size, 1, none⟩) m1).trans fz1
    obtain ⟨xa, xn, xc, ya, yn, yc, rfl⟩ := hn2.stp.slices
    have HA := Lib.hid (A0.trans (hb2.mono A0.size))
    have Hn2 := Lib.hid hn2
    clear hn2 hb2 HF H1 H2 cA cB cN eW hmf
    rw [zA] at c0 c1 fz0 fz1 m1
    go_wp2
    have r0 := World.cell?_setCell_same w2 _ (.slice xa xn xc) c0
    have s1 : ((w2.setCell ⟨w.heap.size + 1 + 1 + 1, 0, none⟩ (.slice xa xn xc)).cell? ⟨w.heap.size + 1 + 1 + 1, 1, none⟩) = some (.slice none 0 0) := (World.cell?_setCell_other _ _ _ _ (by simp)).trans c1
    have r1 := World.cell?_setCell_same _ _ (.slice ya yn yc) s1
    refine bodyPost_ret (v := .tuple #[.agg #[.slice xa xn xc, .slice ya yn yc], .bool V.isSome]) (by simp [results, Try.results25, go_sem, r0, r1]) rfl ?_
    exact ⟨_, rfl, (New.setCell_low OStep.held (New.setCell_low OStep.held Hn2.out (show w.heap.size + 1 + 1 + 1 < w0.heap.size from m1) _) (show w.heap.size + 1 + 1 + 1 < w0.heap.size from m1) _).mono (by omega), (HA.out.setCell (p := ⟨w.heap.size + 1 + 1 + 1, 0, none⟩) (show w.heap.size ≤ w.heap.size + 1 + 1 + 1 by omega) _).setCell (p := ⟨w.heap.size + 1 + 1 + 1, 1, none⟩) (show w.heap.size ≤ w.heap.size + 1 + 1 + 1 by omega) _⟩
  · have HL := Lib.hid (show lagF a b n = none from by unfold lagF; rw [if_neg hin])
    rw [HL.out]
    have A0' := Lib.hid A0
    clear HF H1 H2 hA1 hA0 A0
    rw [zA] at c0 c1 fz0 fz1 m1
    have hout : n < 1 ∨ 5 < n := by omega
    rcases hout with ho | ho
    all_goals (
      try (have ho2 : ¬ n < 1 := by omega)
      go_enter Try.func25, Try.ntmps25
      go_wp2
      have r0 := World.cell?_setCell_same w0 _ (.slice none 0 0) c0
      have s1 : ((w0.setCell ⟨w.heap.size + 1 + 1 + 1, 0, none⟩ (.slice none 0 0)).cell? ⟨w.heap.size + 1 + 1 + 1, 1, none⟩) = some (.slice none 0 0) := (World.cell?_setCell_other _ _ _ _ (by simp)).trans c1
      have r1 := World.cell?_setCell_same _ _ (.slice none 0 0) s1
      refine bodyPost_ret (v := .tuple #[.agg #[.slice none 0 0, .slice none 0 0], .bool false]) (by simp [results, Try.results25, go_sem, r0, r1]) rfl ?_
      exact ⟨_, rfl, New.none2 (by simp; omega), ((A0'.out).setCell (p := ⟨w.heap.size + 1 + 1 + 1, 0, none⟩) (show w.heap.size ≤ w.heap.size + 1 + 1 + 1 by omega) _).setCell (p := ⟨w.heap.size + 1 + 1 + 1, 1, none⟩) (show w.heap.size ≤ w.heap.size + 1 + 1 + 1 by omega) _⟩)
end Go.Proofs.Ytjgiobapdkdhpaa
