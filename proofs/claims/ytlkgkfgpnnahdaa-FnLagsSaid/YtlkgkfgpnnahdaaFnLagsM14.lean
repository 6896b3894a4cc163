/-
  Texts of this claim joined: laws for its walks, contracts of the functions that the law reaches.
-/
import Derived.Test.YtlkgkfgpnnahdaaRows
import Derived.Test.YtlkgkfgpnnahdaaFnLagsM1
import Derived.Test.YtlkgkfgpnnahdaaFnLagsM3
import Derived.Test.YtlkgkfgpnnahdaaFnLagsM4
import Derived.Test.YtlkgkfgpnnahdaaFnLagsM2
import Derived.Test.YtlkgkfgpnnahdaaFnLagsM11
import Derived.Test.YtlkgkfgpnnahdaaFnLagsM12
import Derived.Test.YtlkgkfgpnnahdaaFnLagsM13
import Derived.Deep.RegionLaw
import Derived.WalkSpells
import Derived.IntWalk
import Derived.StillTailTactics
import Derived.OwnWalk
import Derived.Deep.RegionHeld3
import Derived.Deep.DeepCutAuto
import Derived.Test.YtlkgkfgpnnahdaaFnLagsM5
section
/-
  FindLag, the reference's.
-/
namespace Go.Proofs.Ytlkgkfgpnnahdaa
open Go.RowKit Go.Deep Go.Sd

set_option maxHeartbeats 4000000 in
set_option maxRecDepth 10000 in
theorem spec_FindLag_c {w : World} {va vb : Value} {a b : Tb} {n : Int} (h1 : Tab w va a) (h2 : Tab w vb b) (hn64 : I64 n) :
    Calls Try.prog 35 #[va, vb, .int .i64 n] w (Makes2 (OStep 3 33) w (found (lagF a b n)) (lagF a b n).isSome) := by
  have H1 := Lib.hid (fun w1 (hb : Below w.heap.size w w1) => Tab.frame _ _ _ _ h1 hb)
  have H2 := Lib.hid (fun w1 (hb : Below w.heap.size w w1) => Tab.frame _ _ _ _ h2 hb)
  have HV := Lib.hid (show lagF a b n = if 1 ≤ n ∧ n ≤ 5 then (if (isMat a && (isMat b && (decide (a.length ≤ 2) && decide (b.length ≤ 2)))) = true then findR (lagP a b n) (tabsN b.length a.length) (tabsN a.length b.length) else none) else none from rfl)
  have HNo := Lib.hid (fun (hm : isMat a = true) (hn : isMat b = true) x (h : prodT a (tabN x a.length b.length) a.length a.length b.length ≠ prodT (tabN x a.length b.length) b a.length b.length b.length) s => (show lagP a b n (tabN x a.length b.length, s) = false from lagM_no hm hn h s n))
  have HL := Lib.hid (fun w1 (hb : Below w.heap.size w w1) vx (x : Tb × Tb) (h3 : StepR w1 vx x) => (show Calls Try.prog 40 #[va, vb, vx, .int .i64 n] w1 fun e w' => e = .returned (.bool (lagP a b n x)) ∧ Below w1.heap.size w1 w' from spec_IsLag_c (Tab.frame _ _ _ _ h1 hb) (Tab.frame _ _ _ _ h2 hb) h3))
  have Hl1 := Lib.hid (fun (hm : isMat a = true) => isMat_len hm)
  have Hl2 := Lib.hid (fun (hm : isMat b = true) => isMat_len hm)
  have Hr1 := Lib.hid (fun (hm : isMat a = true) => (show (∀ r, r ∈ a → r.length = a.length) ∧ Bd 1000000 a from ⟨fun r hr => (isMat_row hm hr).1, isMat_Bd hm⟩))
  have Hr2 := Lib.hid (fun (hm : isMat b = true) => (show (∀ r, r ∈ b → r.length = b.length) ∧ Bd 1000000 b from ⟨fun r hr => (isMat_row hm hr).1, isMat_Bd hm⟩))
  have HM1 := Lib.hid (fun w1 (hb : Below w.heap.size w w1) => spec_IsMatrix_c (Tab.frame _ _ _ _ h1 hb))
  have HM2 := Lib.hid (fun w1 (hb : Below w.heap.size w w1) => spec_IsMatrix_c (Tab.frame _ _ _ _ h2 hb))
  have Hin := Lib.hid (fun w1 => l1In_c n 1 5 w1)
  generalize lagF a b n = V at HV ⊢
  generalize lagP a b n = P at HV HNo HL
  generalize hma : isMat a = ma at *
  generalize hmb : isMat b = mb at *
  clear hma hmb
  obtain ⟨_, _, rfl, _, _, _⟩ := h1.shape
  obtain ⟨_, _, rfl, _, _, _⟩ := h2.shape
  clear h1 h2
  generalize hp : a.length = p at *
  generalize hq : b.length = q at *
  have Hp := Lib.hid hp
  have Hq := Lib.hid hq
  clear hp hq
  go_enter Try.func35, Try.ntmps35
  go_wp2_with fail
  have fz0 : (w.alloc (.cells #[.slice none 0 0, .slice none 0 0] 41)).frozen? ⟨w.heap.size, 0, none⟩ = false := by simp [go_sem]
  have fz1 : (w.alloc (.cells #[.slice none 0 0, .slice none 0 0] 41)).frozen? ⟨w.heap.size, 1, none⟩ = false := by simp [go_sem]
  obtain ⟨w0, ex, A0, c0, c1, m1⟩ := boxA_ex w 41 (.slice none 0 0) (.slice none 0 0)
  rw [ex] at fz0 fz1
  change Calls Try.prog _ _ (w.alloc (.cells #[.slice none 0 0, .slice none 0 0] 41)) _
  rw [ex]
  clear ex
  refine (HM1.out _ A0).mono ?_
  rintro e w' ⟨rfl, rfl⟩
  cases ma with
  | false =>
    have HK := Lib.hid (show V = none from by rw [HV.out]; split <;> rfl)
    clear HV HNo HL Hl1 Hl2 HM1 HM2 Hr1 Hr2
    go_wp2
    have r0 := World.cell?_setCell_same w0 _ (.slice none 0 0) c0
    have s1 : ((w0.setCell ⟨w.heap.size, 0, none⟩ (.slice none 0 0)).cell? ⟨w.heap.size, 1, none⟩) = some (.slice none 0 0) := (World.cell?_setCell_other _ _ _ _ (by simp)).trans c1
    have r1 := World.cell?_setCell_same _ _ (.slice none 0 0) s1
    refine bodyPost_ret (v := .tuple #[.agg #[.slice none 0 0, .slice none 0 0], .bool false]) (by simp [results, Try.results35, go_sem, r0, r1]) rfl ?_
    exact ⟨_, by rw [HK.out]; rfl, by rw [HK.out]; exact New.none2 (by simp; have := (A0).size; omega), ((A0).setCell (p := ⟨w.heap.size, 0, none⟩) (Nat.le_refl _) _).setCell (p := ⟨w.heap.size, 1, none⟩) (Nat.le_refl _) _⟩
  | true =>
  go_wp2_with fail
  refine (HM2.out _ A0).mono ?_
  rintro e w' ⟨rfl, rfl⟩
  cases mb with
  | false =>
    have HK := Lib.hid (show V = none from by rw [HV.out]; split <;> rfl)
    clear HV HNo HL Hl1 Hl2 HM1 HM2 Hr1 Hr2
    go_wp2
    have r0 := World.cell?_setCell_same w0 _ (.slice none 0 0) c0
    have s1 : ((w0.setCell ⟨w.heap.size, 0, none⟩ (.slice none 0 0)).cell? ⟨w.heap.size, 1, none⟩) = some (.slice none 0 0) := (World.cell?_setCell_other _ _ _ _ (by simp)).trans c1
    have r1 := World.cell?_setCell_same _ _ (.slice none 0 0) s1
    refine bodyPost_ret (v := .tuple #[.agg #[.slice none 0 0, .slice none 0 0], .bool false]) (by simp [results, Try.results35, go_sem, r0, r1]) rfl ?_
    exact ⟨_, by rw [HK.out]; rfl, by rw [HK.out]; exact New.none2 (by simp; have := (A0).size; omega), ((A0).setCell (p := ⟨w.heap.size, 0, none⟩) (Nat.le_refl _) _).setCell (p := ⟨w.heap.size, 1, none⟩) (Nat.le_refl _) _⟩
  | true =>
  by_cases hp2 : p ≤ 2
  rotate_left
  · have HK := Lib.hid (show V = none from by rw [HV.out, decide_eq_false hp2]; split <;> rfl)
    have hp2' : 2 < p := by omega
    clear HV HNo HL Hl1 Hl2 HM1 HM2 Hr1 Hr2
    go_wp2
    have r0 := World.cell?_setCell_same w0 _ (.slice none 0 0) c0
    have s1 : ((w0.setCell ⟨w.heap.size, 0, none⟩ (.slice none 0 0)).cell? ⟨w.heap.size, 1, none⟩) = some (.slice none 0 0) := (World.cell?_setCell_other _ _ _ _ (by simp)).trans c1
    have r1 := World.cell?_setCell_same _ _ (.slice none 0 0) s1
    refine bodyPost_ret (v := .tuple #[.agg #[.slice none 0 0, .slice none 0 0], .bool false]) (by simp [results, Try.results35, go_sem, r0, r1]) rfl ?_
    exact ⟨_, by rw [HK.out]; rfl, by rw [HK.out]; exact New.none2 (by simp; have := (A0).size; omega), ((A0).setCell (p := ⟨w.heap.size, 0, none⟩) (Nat.le_refl _) _).setCell (p := ⟨w.heap.size, 1, none⟩) (Nat.le_refl _) _⟩
  by_cases hq2 : q ≤ 2
  rotate_left
  · have HK := Lib.hid (show V = none from by rw [HV.out, decide_eq_false hq2, Bool.and_false]; split <;> rfl)
    have hq2' : 2 < q := by omega
    clear HV HNo HL Hl1 Hl2 HM1 HM2 Hr1 Hr2
    go_wp2
    have r0 := World.cell?_setCell_same w0 _ (.slice none 0 0) c0
    have s1 : ((w0.setCell ⟨w.heap.size, 0, none⟩ (.slice none 0 0)).cell? ⟨w.heap.size, 1, none⟩) = some (.slice none 0 0) := (World.cell?_setCell_other _ _ _ _ (by simp)).trans c1
    have r1 := World.cell?_setCell_same _ _ (.slice none 0 0) s1
    refine bodyPost_ret (v := .tuple #[.agg #[.slice none 0 0, .slice none 0 0], .bool false]) (by simp [results, Try.results35, go_sem, r0, r1]) rfl ?_
    exact ⟨_, by rw [HK.out]; rfl, by rw [HK.out]; exact New.none2 (by simp; have := (A0).size; omega), ((A0).setCell (p := ⟨w.heap.size, 0, none⟩) (Nat.le_refl _) _).setCell (p := ⟨w.heap.size, 1, none⟩) (Nat.le_refl _) _⟩
  by_cases hi : 1 ≤ n ∧ n ≤ 5
  rotate_left
  · have HK := Lib.hid (show V = none from by rw [HV.out, if_neg hi])
    have hin : (decide ((1 : Int) ≤ n) && decide (n ≤ 5)) = false := by by_cases h : (1 : Int) ≤ n <;> simp [h] <;> omega
    rw [hin] at Hin
    clear HV HNo HL Hl1 Hl2 HM1 HM2 Hr1 Hr2 hin hi
    go_wp2_with fail
    refine (Hin.out _).mono ?_
    rintro e w' ⟨rfl, rfl⟩
    go_wp2
    have r0 := World.cell?_setCell_same w0 _ (.slice none 0 0) c0
    have s1 : ((w0.setCell ⟨w.heap.size, 0, none⟩ (.slice none 0 0)).cell? ⟨w.heap.size, 1, none⟩) = some (.slice none 0 0) := (World.cell?_setCell_other _ _ _ _ (by simp)).trans c1
    have r1 := World.cell?_setCell_same _ _ (.slice none 0 0) s1
    refine bodyPost_ret (v := .tuple #[.agg #[.slice none 0 0, .slice none 0 0], .bool false]) (by simp [results, Try.results35, go_sem, r0, r1]) rfl ?_
    exact ⟨_, by rw [HK.out]; rfl, by rw [HK.out]; exact New.none2 (by simp; have := (A0).size; omega), ((A0).setCell (p := ⟨w.heap.size, 0, none⟩) (Nat.le_refl _) _).setCell (p := ⟨w.heap.size, 1, none⟩) (Nat.le_refl _) _⟩
  have hin : (decide ((1 : Int) ≤ n) && decide (n ≤ 5)) = true := by simp; exact hi
  rw [hin] at Hin
  have hp0 := (Hl1.out (by first | rfl | trivial)).1
  have hq0 := (Hl2.out (by first | rfl | trivial)).1
  have Hra := Lib.hid (Hr1.out (by first | rfl | trivial))
  have Hrb := Lib.hid (Hr2.out (by first | rfl | trivial))
  have HNN := Lib.hid (HNo.out (by first | rfl | trivial) (by first | rfl | trivial))
  have HVV := Lib.hid (show V = findR P (tabsN q p) (tabsN p q) from by rw [HV.out, if_pos hi, decide_eq_true hp2, decide_eq_true hq2]; rfl)
  clear HV HNo Hl1 Hl2 HM1 HM2 Hr1 Hr2 hin hi
  have hpq : p * q ≤ 4 := Nat.mul_le_mul hp2 hq2
  have hpqI : ((p : Int) * (q : Int)) = ((p * q : Nat) : Int) := by push_cast; rfl
  have HpqI := Lib.hid hpqI
  have hm0 : (p : Int) * (q : Int) ≤ 4 := by rw [hpqI]; omega
  have hm1 : 0 ≤ (p : Int) * (q : Int) := by rw [hpqI]; omega
  clear hpqI
  obtain ⟨M, hM⟩ : ∃ M, M = 3 ^ (p * q) := ⟨_, rfl⟩
  have HM := Lib.hid hM
  have hM81 : M ≤ 81 := by rw [hM]; exact Nat.le_trans (Nat.pow_le_pow_right (by decide) hpq) (by decide)
  obtain ⟨rs, hrs⟩ : ∃ rs, rs = tabsN p q := ⟨_, rfl⟩
  obtain ⟨ss, hss⟩ : ∃ ss, ss = tabsN q p := ⟨_, rfl⟩
  have HV0 := Lib.hid (show V = findR P ss (rs.drop 0) from by rw [hrs, hss]; exact HVV.out)
  have Hrl := Lib.hid (show rs.length = M from by rw [hrs, hM]; simp [tabsN])
  have Hsl := Lib.hid (show ss.length = M from by rw [hss, hM, Nat.mul_comm p q]; simp [tabsN])
  have Hrx := Lib.hid (show ∀ x, x < M → rs[x]? = some (tabN x p q) from fun x hx => by rw [hrs]; unfold tabsN; rw [← hM, List.getElem?_map, List.getElem?_range hx]; rfl)
  have Hsx := Lib.hid (show ∀ x, x < M → ss[x]? = some (tabN x q p) from fun x hx => by rw [hss]; unfold tabsN; rw [Nat.mul_comm q p, ← hM, List.getElem?_map, List.getElem?_range hx]; rfl)
  clear hM hrs hss HVV
  have A0' := Lib.hid A0
  clear A0
  go_wp2_with fail
  refine (Hin.out _).mono ?_
  rintro e w' ⟨rfl, rfl⟩
  clear Hin
  go_wp2
  go_loopg [8, 9] (p * q) (fun g av kv wr => ∃ (k z : Nat), kv = .int .i64 k ∧ av = .int .i64 z ∧ k + g = p * q ∧ Hid (z = 3 ^ k) ∧ w0 = wr)
  case atStart => exact ⟨0, 1, rfl, rfl, by omega, Lib.hid rfl, rfl⟩
  case round =>
    obtain ⟨k, z, rfl, rfl, hk, hz, rfl⟩ := hrel
    by_cases hlt : k < p * q
    · have hz1 : z ≤ 6561 := by rw [hz.out]; exact Nat.le_trans (Nat.pow_le_pow_right (by decide) (by omega : k ≤ 8)) (by decide)
      have R := Lib.hid (show z * 3 = 3 ^ (k + 1) from by rw [hz.out, Nat.pow_succ])
      have hkI : (k : Int) < (p : Int) * (q : Int) := by rw [HpqI.out]; omega
      clear hz
      go_wp2
      go_roundg (p * q - (k + 1))
      case measure => omega
      case rel => exact ⟨k + 1, z * 3, by go_num, by go_num, by omega, R, rfl⟩
    · obtain rfl : z = M := by rw [hz.out, HM.out]; congr 1; omega
      have hkI : ¬ (k : Int) < (p : Int) * (q : Int) := by rw [HpqI.out]; omega
      clear hz HM
      have HB0 := Lib.hid (Below.refl w0.heap.size w0)
      go_wp2
      go_loopg [10] z (fun g i wr => ∃ (x : Nat), i = .int .i64 x ∧ x + g = z ∧ Hid (V = findR P ss (rs.drop x)) ∧ Hid (Below w0.heap.size w0 wr))
      case atStart => exact ⟨0, rfl, by omega, HV0, HB0⟩
      case round =>
        obtain ⟨x, rfl, hx, HVx, hbx⟩ := hrel
        clear HV0 HB0
        obtain ⟨wx, rfl⟩ : ∃ y, y = wr := ⟨_, rfl⟩
        have Abx := Lib.hid (A0'.out.trans (hbx.out.mono A0'.out.size))
        by_cases hltx : x < z
        · have hd := List.drop_eq_getElem_cons (show x < rs.length from by rw [Hrl.out]; exact hltx)
          have he : rs[x]'(by rw [Hrl.out]; exact hltx) = tabN x p q := by
            have h := Hrx.out x hltx
            rw [List.getElem?_eq_getElem (by rw [Hrl.out]; exact hltx)] at h
            exact Option.some.inj h
          rw [he] at hd
          have HVy0 := Lib.hid (show V = (match findS P (tabN x p q) (ss.drop 0) with | some x => some x | none => findR P ss (rs.drop (x + 1))) from by rw [HVx.out, hd]; rfl)
          have Hr := Lib.hid (l19Table_c (w := wx) (n := x) (p := p) (r := q) (by omega) hp0 hp2 hq0 hq2)
          clear hd he HVx
          have hlexI : (x : Int) < (z : Int) := by omega
          have hzx := hbx.out.size
          go_wp2_with fail
          refine Hr.out.mono ?_
          rintro e w2 ⟨vr, rfl, hn2, hb2⟩
          have Hn2 := Lib.hid hn2
          have htr := Lib.hid hn2.tab
          have hzx2 := hb2.size
          have Hb2 := Lib.hid (hbx.out.trans (hb2.mono hzx))
          obtain ⟨ra, rn, rc, rfl⟩ := hn2.slice
          clear hn2 hb2 hbx Abx Hr
          have hz2 := Hb2.out.size
          have Ab2 := Lib.hid (A0'.out.trans (Hb2.out.mono A0'.out.size))
          have HT1 := Lib.hid (l4Times_c (H1.out _ Ab2.out) htr.out (p := p) (q := p) (r := q) Hp.out Hra.out.1 (tabN_len _ _ _) (fun r hr => tabN_row hr) hp0 hp0 hq0 (by omega) (by omega) (by omega) Hra.out.2 (tabN_Bd _ _ _))
          have HT2 := Lib.hid (fun w3 (hb : Below w2.heap.size w2 w3) => l4Times_c (Tab.frame _ _ _ _ htr.out hb) (H2.out _ (Ab2.out.trans (hb.mono Ab2.out.size))) (p := p) (q := q) (r := q) (tabN_len _ _ _) (fun r hr => tabN_row hr) Hq.out Hrb.out.1 hp0 hq0 hq0 (by omega) (by omega) (by omega) (tabN_Bd _ _ _) Hrb.out.2)
          go_wp2_with fail
          refine HT1.out.mono ?_
          rintro e w3 ⟨v3, rfl, hn3, hb3⟩
          have H3 := Lib.hid hb3
          have Hn3 := Lib.hid hn3.tab
          have HT3 := Lib.hid (HT2.out _ hb3)
          obtain ⟨_, _, _, rfl⟩ := hn3.slice
          clear hn3 hb3 HT1 HT2
          go_wp2_with fail
          refine HT3.out.mono ?_
          rintro e w4 ⟨v4, rfl, hn4, hb4⟩
          have H4 := Lib.hid (H3.out.trans (hb4.mono H3.out.size))
          have HE := Lib.hid (spec_EqualMatrix_c (Tab.frame _ _ _ _ Hn3.out hb4) hn4.tab)
          obtain ⟨_, _, _, rfl⟩ := hn4.slice
          clear hn4 hb4 HT3 Hn3 H3
          have HD := Lib.hid (show decide (prodT a (tabN x p q) p p q = prodT (tabN x p q) b p q q) = false → V = findR P ss (rs.drop (x + 1)) from fun h => by
            rw [HVy0.out, findS_none (fun s => HNN.out x (of_decide_eq_false h) s)])
          generalize decide (prodT a (tabN x p q) p p q = prodT (tabN x p q) b p q q) = dd at HE HD
          go_wp2_with fail
          refine HE.out.mono ?_
          rintro e w5 ⟨rfl, hd5⟩
          have H5 := Lib.hid (H4.out.trans (hd5.below w2.heap.size))
          clear hd5 HE H4
          cases dd with
          | false =>
            have HN := Lib.hid (HD.out rfl)
            have HR := Lib.hid (Hb2.out.trans (H5.out.mono hz2))
            clear HD HVy0 htr Hn2 Ab2 H5
            go_wp2
            go_roundg (z - (x + 1))
            case measure => omega
            case rel => exact ⟨x + 1, by go_num, by omega, HN, HR⟩
          | true =>
          clear HD Ab2
          have Hn5 := Lib.hid (New.keep (OTab.kept _ _) Hn2.out H5.out (Nat.le_refl _))
          have Hb5 := Lib.hid (Hb2.out.trans (H5.out.mono hz2))
          have hz5 := Hb5.out.size
          have hzx5 : wx.heap.size ≤ w5.heap.size := Nat.le_trans hzx2 H5.out.size
          clear htr Hn2 H5 Hb2
          have HB5 := Lib.hid (Below.refl w5.heap.size w5)
          go_wp2
          go_loopg [12] z (fun g i wr => ∃ (y : Nat), i = .int .i64 y ∧ y + g = z ∧ Hid (V = (match findS P (tabN x p q) (ss.drop y) with | some x => some x | none => findR P ss (rs.drop (x + 1)))) ∧ Hid (Below w5.heap.size w5 wr))
          case atStart => exact ⟨0, rfl, by omega, HVy0, HB5⟩
          case round =>
            obtain ⟨y, rfl, hy, HVy, hby⟩ := hrel
            clear HVy0 HB5
            obtain ⟨wy, rfl⟩ : ∃ y, y = wr := ⟨_, rfl⟩
            have hzy := hby.out.size
            by_cases hlty : y < z
            · have hd := List.drop_eq_getElem_cons (show y < ss.length from by rw [Hsl.out]; exact hlty)
              have he : ss[y]'(by rw [Hsl.out]; exact hlty) = tabN y q p := by
                have h := Hsx.out y hlty
                rw [List.getElem?_eq_getElem (by rw [Hsl.out]; exact hlty)] at h
                exact Option.some.inj h
              rw [he] at hd
              have HVs := Lib.hid (show V = (match (if P (tabN x p q, tabN y q p) = true then some (tabN x p q, tabN y q p) else findS P (tabN x p q) (ss.drop (y + 1))) with | some x => some x | none => findR P ss (rs.drop (x + 1))) from by rw [HVy.out, hd]; rfl)
              have Hs := Lib.hid (l19Table_c (w := wy) (n := y) (p := q) (r := p) (by omega) hq0 hq2 hp0 hp2)
              clear hd he HVy
              have Hnr := Lib.hid (New.keep (OTab.kept _ _) Hn5.out hby.out (Nat.le_refl _))
              have Hbw := Lib.hid (Hb5.out.trans (hby.out.mono hz5))
              have hleyI : (y : Int) < (z : Int) := by omega
              go_wp2_with fail
              refine Hs.out.mono ?_
              rintro e w6 ⟨vs, rfl, hn6, hb6⟩
              have hz6 := hb6.size
              have HP0 := New.pair (lo := wx.heap.size) Hnr.out hn6 hb6 (by omega)
              have HP := Lib.hid HP0
              have Hb6 := Lib.hid (Hbw.out.trans (hb6.mono (by omega)))
              obtain ⟨sa, sn, sc, rfl⟩ := hn6.slice
              have hby6 := Lib.hid (hby.out.trans (hb6.mono hzy))
              clear hn6 hb6 hby Hs HP0 Hnr Hbw
              obtain ⟨w7, ex, hb7, q0, q1, n7⟩ := boxA_ex w6 41 (.slice ra rn rc) (.slice sa sn sc)
              have hz7 := hb7.size
              have Hb7 := Lib.hid (Hb6.out.trans (hb7.mono (by omega)))
              have hby7 := Lib.hid (hby6.out.trans (hb7.mono (by omega)))
              have hst := StepR.frame _ _ _ _ HP.out.stp hb7
              have H67 := Lib.hid hb7
              have HCC := Lib.hid (HL.out w7 (A0'.out.trans (Hb7.out.mono A0'.out.size)) _ _ hst)
              clear hb7 hst Hb6 hby6
              generalize P (tabN x p q, tabN y q p) = d at HCC HVs
              go_wp2_with fail
              refine HCC.out.mono ?_
              rintro e w8 ⟨rfl, hb8⟩
              clear ex
              replace q0 := (hb8.cell (p := ⟨w6.heap.size, 0, none⟩) n7).trans q0
              replace q1 := (hb8.cell (p := ⟨w6.heap.size, 1, none⟩) n7).trans q1
              have HS := Lib.hid hb8
              clear hb8 HCC
              cases d with
              | false =>
                have HN := Lib.hid (show V = (match findS P (tabN x p q) (ss.drop (y + 1)) with | some x => some x | none => findR P ss (rs.drop (x + 1))) from by rw [HVs.out]; rfl)
                have HR := Lib.hid (hby7.out.trans (HS.out.mono (by omega)))
                clear HVs HP hby7 Hb7 HS H67 q0 q1
                go_wp2
                go_roundg (z - (y + 1))
                case measure => omega
                case rel => exact ⟨y + 1, by go_num, by omega, HN, HR⟩
              | true =>
                have HN := Lib.hid (show V = some (tabN x p q, tabN y q p) from by rw [HVs.out]; rfl)
                have hb9 := Hb7.out.trans (HS.out.mono (by omega))
                replace c0 := (hb9.cell (p := ⟨w.heap.size, 0, none⟩) m1).trans c0
                replace c1 := (hb9.cell (p := ⟨w.heap.size, 1, none⟩) m1).trans c1
                replace fz0 := (hb9.frozen (p := ⟨w.heap.size, 0, none⟩) m1).trans fz0
                replace fz1 := (hb9.frozen (p := ⟨w.heap.size, 1, none⟩) m1).trans fz1
                have HPP := Lib.hid (((HP.out.inn OStep.held).keep OStep.held (H67.out.trans (HS.out.mono hz7)) (Nat.le_refl _)).new)
                have HA := Lib.hid (A0'.out.trans (hb9.mono A0'.out.size))
                clear HVs HP hby7 Hb7 HS H67 hb9
                go_wp2
                have r0 := World.cell?_setCell_same w8 _ (.slice ra rn rc) c0
                have s1 : ((w8.setCell ⟨w.heap.size, 0, none⟩ (.slice ra rn rc)).cell? ⟨w.heap.size, 1, none⟩) = some (.slice none 0 0) := (World.cell?_setCell_other _ _ _ _ (by simp)).trans c1
                have r1 := World.cell?_setCell_same _ _ (.slice sa sn sc) s1
                refine bodyPost_ret (v := .tuple #[.agg #[.slice ra rn rc, .slice sa sn sc], .bool true]) (by simp [results, Try.results35, go_sem, r0, r1]) rfl ?_
                exact ⟨_, by rw [HN.out]; rfl, by rw [HN.out]; exact (New.setCell_low OStep.held (New.setCell_low OStep.held HPP.out (show w.heap.size < wx.heap.size from Nat.lt_of_lt_of_le m1 hzx) _) (show w.heap.size < wx.heap.size from Nat.lt_of_lt_of_le m1 hzx) _).mono (by omega), (HA.out.setCell (p := ⟨w.heap.size, 0, none⟩) (Nat.le_refl _) _).setCell (p := ⟨w.heap.size, 1, none⟩) (Nat.le_refl _) _⟩
            · have HN := Lib.hid (show V = findR P ss (rs.drop (x + 1)) from by rw [HVy.out, List.drop_eq_nil_of_le (by rw [Hsl.out]; omega)]; rfl)
              have HR := Lib.hid (Hb5.out.trans (hby.out.mono hz5))
              clear HVy hby
              go_wp2
              go_roundg (z - (x + 1))
              case measure => omega
              case rel => exact ⟨x + 1, by go_num, by omega, HN, HR⟩
        · have HK := Lib.hid (show V = none from by rw [HVx.out, List.drop_eq_nil_of_le (by rw [Hrl.out]; omega)]; rfl)
          clear HVx
          have hb8 := hbx.out
          replace c0 := (hb8.cell (p := ⟨w.heap.size, 0, none⟩) m1).trans c0
          replace c1 := (hb8.cell (p := ⟨w.heap.size, 1, none⟩) m1).trans c1
          replace fz0 := (hb8.frozen (p := ⟨w.heap.size, 0, none⟩) m1).trans fz0
          replace fz1 := (hb8.frozen (p := ⟨w.heap.size, 1, none⟩) m1).trans fz1
          clear hb8
          go_wp2
          have r0 := World.cell?_setCell_same wx _ (.slice none 0 0) c0
          have s1 : ((wx.setCell ⟨w.heap.size, 0, none⟩ (.slice none 0 0)).cell? ⟨w.heap.size, 1, none⟩) = some (.slice none 0 0) := (World.cell?_setCell_other _ _ _ _ (by simp)).trans c1
          have r1 := World.cell?_setCell_same _ _ (.slice none 0 0) s1
          refine bodyPost_ret (v := .tuple #[.agg #[.slice none 0 0, .slice none 0 0], .bool false]) (by simp [results, Try.results35, go_sem, r0, r1]) rfl ?_
          exact ⟨_, by rw [HK.out]; rfl, by rw [HK.out]; exact New.none2 (by simp; have := (Abx.out).size; omega), ((Abx.out).setCell (p := ⟨w.heap.size, 0, none⟩) (Nat.le_refl _) _).setCell (p := ⟨w.heap.size, 1, none⟩) (Nat.le_refl _) _⟩
end Go.Proofs.Ytlkgkfgpnnahdaa
end

section
/-
  Lists of pairs of tables: how they read; the laws' helpers on them.
-/
namespace Go.Sd
open Go.RowKit Go.Deep Go.Joins Go.ChangeShapes Go.WideShapes Go.ChangeAt

/-- v is a slice of pairs of tables. -/
def StpsR (w : World) (v : Value) (xs : List (Tb × Tb)) : Prop :=
  xs.length ≤ 9223372036854775807 ∧ ∃ a c, v = .slice a xs.length c ∧ xs.length ≤ c ∧ c ≤ 9223372036854775807 ∧ (a = none → c = 0) ∧
    (0 < xs.length → ∃ b o, a = some ⟨b, o, none⟩ ∧ b < w.heap.size ∧ ∀ i x, xs[i]? = some x → ∃ v1 v2, w.cell? ⟨b, o + i * 2, none⟩ = some v1 ∧ w.cell? ⟨b, o + i * 2 + 1, none⟩ = some v2 ∧ Tab w v1 x.1 ∧ Tab w v2 x.2)
theorem StpsR.frame : Framed StpsR := by
  intro w w' v xs h hb
  obtain ⟨h1, a, c, rfl, h2, h3, h4, h5⟩ := h
  refine ⟨h1, a, c, rfl, h2, h3, h4, fun h0 => ?_⟩
  obtain ⟨b, o, rfl, hlt, hx⟩ := h5 h0
  refine ⟨b, o, rfl, Nat.lt_of_lt_of_le hlt hb.size, fun i x hi => ?_⟩
  obtain ⟨v1, v2, c0, c1, t1, t2⟩ := hx i x hi
  exact ⟨v1, v2, (hb.cell (p := ⟨b, o + i * 2, none⟩) hlt).trans c0, (hb.cell (p := ⟨b, o + i * 2 + 1, none⟩) hlt).trans c1, Tab.frame _ _ _ _ t1 hb, Tab.frame _ _ _ _ t2 hb⟩

section
variable {H : Type} {enc : TypeId × Value → H} {P : Program} {W : World} {base : Nat}
theorem open_Stps_cells {t e r s q : TypeId} {f0 f1 : Field} (ht : P.underlying t = some (.slice e)) (he : P.underlying e = some (.struct #[f0, f1])) (hr : P.underlying r = some (.slice s)) (hs : P.underlying s = some (.slice q)) (hq : P.underlying q = some (.int .i64)) (e0 : f0.type = r) (e1 : f1.type = r)
    (o0 : f0.offset = 0) (o1 : f1.offset = 1) (ce : P.cellsOf e = 2) (cr : P.cellsOf r = 1) (cs : P.cellsOf s = 1) (cq : P.cellsOf q = 1) {v : Value} {fuel : Nat} {x : DataW H × List MemPlace}
    (h : DataW.trod enc P W base (fun _ => true) true fuel t [v] = some x) : ∃ xs, StpsR W v xs := by
  rcases open_slice ht h with ⟨hcs, _⟩ | ⟨a, len, cap, m, n, D, Pl, hcs, hb, hl, hm, hmm, _, hx⟩
  · simp at hcs
    subst hcs
    exact ⟨[], by simp, none, 0, rfl, by simp, by simp, by simp, by simp⟩
  · simp at hcs
    subst hcs
    simp only [if_true] at hmm
    obtain rfl : m = cap := hmm
    have each : ∀ i, i < m → ∃ y : (Value × Value) × (Tb × Tb), W.cell? (a.add (i * 2)) = some y.1.1 ∧ W.cell? (a.add (i * 2 + 1)) = some y.1.2 ∧ Tab W y.1.1 y.2.1 ∧ Tab W y.1.2 y.2.2 := by
      intro i hi
      obtain ⟨cs', h1, h2⟩ := hx i hi
      rw [ce] at h1
      obtain ⟨_, hlen, hcell⟩ := World.cells?_some h1
      obtain ⟨xs, k, hk, hxy, _, hxl, hf⟩ := DataW.trod_struct he h2
      match xs, hxl, cs', hlen with
      | [y0, y1], _, [v0, v1], _ =>
        have g0 := hf 0 f0 rfl
        have g1 := hf 1 f1 rfl
        rw [e0] at g0
        rw [e1] at g1
        simp [o0, o1, cr] at g0 g1
        obtain ⟨a0, z0, _⟩ := open_Tab_any hr hs hq cs cq g0
        obtain ⟨a1, z1, _⟩ := open_Tab_any hr hs hq cs cq g1
        have c0 := hcell 0 (by omega)
        have c1 := hcell 1 (by omega)
        rw [add_add] at c0 c1
        exact ⟨((v0, v1), (a0, a1)), by simpa using c0, by simpa using c1, z0, z1⟩
    obtain ⟨q', hqq⟩ := choose_lt each
    have hm' : m ≤ 9223372036854775807 := hm
    refine ⟨(List.range len).map (fun i => (q' i).2), by simp; omega, some a, m, by simp, by simp; exact hl, hm', by simp, fun h0 => ?_⟩
    simp at h0
    obtain ⟨b, o, sp⟩ := a
    have h1 := (hqq 0 (by omega)).1
    have hs : sp = none := by simpa [Addr.add] using World.cell?_spot h1
    subst hs
    refine ⟨b, o, rfl, World.block_lt_of_cell? W ⟨b, o, none⟩ (by simpa [Addr.add] using h1), fun i x hi => ?_⟩
    have hi2 : i < len := by simpa using (List.getElem?_eq_some_iff.1 hi).1
    rw [List.getElem?_map, List.getElem?_range hi2] at hi
    simp at hi
    subst hi
    have h3 := hqq i (by omega)
    rw [add_plain, add_plain] at h3
    exact ⟨(q' i).1.1, (q' i).1.2, h3⟩
theorem open_Stps {t e r s q : TypeId} {f0 f1 : Field} (ht : P.underlying t = some (.slice e)) (he : P.underlying e = some (.struct #[f0, f1])) (hr : P.underlying r = some (.slice s)) (hs : P.underlying s = some (.slice q)) (hq : P.underlying q = some (.int .i64)) (e0 : f0.type = r) (e1 : f1.type = r)
    (o0 : f0.offset = 0) (o1 : f1.offset = 1) (ce : P.cellsOf e = 2) (cr : P.cellsOf r = 1) (cs : P.cellsOf s = 1) (cq : P.cellsOf q = 1) {v : Value} {d : DataW H} {p : List MemPlace}
    (hv : Value.okWide P W .any base t v) (h : DataW.Trod enc P W 0 (fun _ => true) true t v d p) : ∃ xs, StpsR W v xs ∧ True := by
  obtain ⟨a, len, cap, rfl⟩ := okWide_slice ht hv
  obtain ⟨fuel, hf⟩ := h
  obtain ⟨xs, hxs⟩ := open_Stps_cells ht he hr hs hq e0 e1 o0 o1 ce cr cs cq (by simpa [Value.cells] using hf)
  exact ⟨xs, hxs, trivial⟩
end
end Go.Sd
namespace Go.Proofs.Ytlkgkfgpnnahdaa
open Go.RowKit Go.Deep Go.Sd

theorem infoS : (Try.prog.info? 41).map (fun i => (i.zero, i.size, i.bytes)) = some (some (.agg #[.slice none 0 0, .slice none 0 0]), 2, 48) := by kernel_rfl
def szLoopS : List (Tb × Tb) → Int → Int
  | [], l => l
  | x :: xs, l => if szStp x l < 0 then -1 else szLoopS xs (szStp x l)
def szStps (xs : List (Tb × Tb)) (l : Int) : Int := if l - xs.length < 0 then -1 else szLoopS xs (l - xs.length)
theorem szLoopS_bd : ∀ (xs : List (Tb × Tb)) (l : Int), 0 ≤ l → l ≤ 1048576 → -1 ≤ szLoopS xs l ∧ szLoopS xs l ≤ l ∧ (0 ≤ szLoopS xs l → ∀ x, x ∈ xs → StpSz x)
  | [], l, h, _ => ⟨by unfold szLoopS; omega, by unfold szLoopS; omega, fun _ t ht => by cases ht⟩
  | x :: xs, l, h, hl => by
    have h1 := szStp_bd x l h
    unfold szLoopS
    by_cases hn : szStp x l < 0
    · rw [if_pos hn]; exact ⟨by omega, by omega, fun h0 => by omega⟩
    · rw [if_neg hn]
      have h2 := szLoopS_bd xs (szStp x l) (by omega) (by omega)
      refine ⟨h2.1, by omega, fun h0 u hu => ?_⟩
      rcases List.mem_cons.1 hu with rfl | hu
      · exact StpSz.mk' u (cntStp_le u l h (by omega)) (by omega) hl
      · exact h2.2.2 h0 u hu
theorem szStps_bd (xs : List (Tb × Tb)) (l : Int) (h : 0 ≤ l) (hl : l ≤ 1048576) : -1 ≤ szStps xs l ∧ szStps xs l ≤ l ∧ (0 ≤ szStps xs l → (xs.length : Int) ≤ l ∧ ∀ x, x ∈ xs → StpSz x) := by
  unfold szStps
  by_cases hn : l - xs.length < 0
  · rw [if_pos hn]; exact ⟨by omega, by omega, fun h0 => by omega⟩
  · rw [if_neg hn]
    have h2 := szLoopS_bd xs (l - xs.length) (by omega) (by omega)
    exact ⟨h2.1, by omega, fun h0 => ⟨by omega, h2.2.2 h0⟩⟩
end Go.Proofs.Ytlkgkfgpnnahdaa
end

section
/-
  Lists of pairs of tables, copied.
-/
namespace Go.Sd
open Go.RowKit Go.Deep

/-- 'make([]T, n)', T a struct of two slices; the world is hidden. -/
theorem wpl_makeS {P : Program} {w : World} {ops : Array Oper} {rest : List Oper} {o : Oper} {a : Act} {Q : Exit → Act → World → Prop}
    (hg : o.guard = none) (l c : Operand) (t : TypeId) (hop : o.op = Op.makeSlice t l c)
    (e : TypeId) (bytes : Nat) (ht : P.underlying t = some (.slice e)) (hinfo : (P.info? e).map (fun i => (i.zero, i.size, i.bytes)) = some (some (.agg #[.slice none 0 0, .slice none 0 0]), 2, bytes))
    (n : Nat) (hl : a.eval l = .int .i64 (n : Int)) (hc : a.eval c = .int .i64 (n : Int)) (hbytes : bytes * n ≤ 281474976710656) (h63 : n ≤ 9223372036854775807)
    (hK : ∀ w', w.heap.size < w'.heap.size → (∀ j, j < n * 2 → w'.cell? ⟨w.heap.size, j, none⟩ = some (.slice none 0 0) ∧ w'.frozen? ⟨w.heap.size, j, none⟩ = false) → Below w.heap.size w w' → wpList P ops Q rest (a.put o.dst (.slice (some ⟨w.heap.size, 0, none⟩) n n)) w') :
    wpList P ops Q (o :: rest) a w := by
  obtain ⟨i, hi, hzz⟩ := Option.map_eq_some_iff.1 hinfo
  simp only [Prod.mk.injEq] at hzz
  obtain ⟨hz, hs, hb⟩ := hzz
  refine wpList_make_full w hg l c t hop 0 e i _ 2 ht hi hz hs .i64 .i64 _ _ n hl hc rfl rfl (by rw [hb]; exact hbytes) h63 (Nat.zero_le _) fun w' ho hgr => ?_
  rcases ho.2 with ⟨h, _⟩ | ⟨g, cap, cur, hv, _, hgp, hnc, _, hsz, hcur⟩
  · simp at h
  · simp at hv
    obtain ⟨rfl, rfl⟩ := hv
    have hlt : w.heap.size < w'.heap.size := by
      have := (Array.getElem?_eq_some_iff.1 hgp).1
      exact this
    refine hK w' hlt (fun j hj => ?_) ((Below.refl w.heap.size w).grown hgr (Nat.le_refl _) (by simp))
    have hj2 : cur[j]? = some (.slice none 0 0) := by
      have h1 : (cur.toList.take (n * 2))[j]? = some (.slice none 0 0) := by
        rw [hcur]
        simp [madeCells, Value.cells, hj]
        have h3 : j % 2 = 0 ∨ j % 2 = 1 := by omega
        rcases h3 with h | h <;> rw [h] <;> rfl
      rw [List.getElem?_take, if_pos hj] at h1
      simpa using h1
    constructor
    · simp [World.cell?, hgp, hj2]
    · simp [World.frozen?, hgp]
theorem New.fst_snd {eI eR : TypeId} {lo : Nat} {w : World} {v : Value} {x : Tb × Tb} (h : New (OStep eI eR) lo w v x) : ∃ v1 v2, v = .agg #[v1, v2] ∧ New (OTab eI eR) lo w v1 x.1 ∧ New (OTab eI eR) lo w v2 x.2 := by
  obtain ⟨F, ⟨v1, v2, F1, F2, rfl, h1, h2, rfl⟩, hn, hge⟩ := h
  have hn' := List.nodup_append.1 hn
  exact ⟨v1, v2, rfl, ⟨F1, h1, hn'.1, fun b hb => hge b (List.mem_append_left _ hb)⟩, ⟨F2, h2, hn'.2.1, fun b hb => hge b (List.mem_append_right _ hb)⟩⟩
/-- Cells that may be written. -/
def FreeV (w : World) (B m : Nat) : Prop := ∀ j, j < m → (∃ u, w.cell? ⟨B, j, none⟩ = some u) ∧ w.frozen? ⟨B, j, none⟩ = false
theorem FreeV.keep {w w' : World} {B m lo : Nat} (h : FreeV w B m) (hb : Below lo w w') (hlt : B < lo) : FreeV w' B m := fun j hj =>
  ⟨by obtain ⟨⟨u, hu⟩, _⟩ := h j hj; exact ⟨u, (hb.cell (p := ⟨B, j, none⟩) hlt).trans hu⟩, (hb.frozen (p := ⟨B, j, none⟩) hlt).trans (h j hj).2⟩
theorem FreeV.set {w : World} {B m : Nat} (h : FreeV w B m) (k : Nat) (u : Value) : FreeV (w.setCell ⟨B, k, none⟩ u) B m := fun j hj => by
  obtain ⟨⟨x, hx⟩, hf⟩ := h j hj
  refine ⟨?_, (World.frozen?_setCell _ _ _ _).trans hf⟩
  by_cases e : j = k
  · subst e; exact ⟨u, World.cell?_setCell_same _ _ _ hx⟩
  · exact ⟨x, (World.cell?_setCell_other _ _ _ _ (by simp <;> omega)).trans hx⟩
/-- The first k pairs lie in the block B. -/
def DoneS (eI eR : TypeId) (w : World) (B : Nat) (xs : List (Tb × Tb)) (k : Nat) : Prop :=
  ∀ i x, i < k → xs[i]? = some x → ∃ v1 v2, w.cell? ⟨B, i * 2, none⟩ = some v1 ∧ w.cell? ⟨B, i * 2 + 1, none⟩ = some v2 ∧ New (OTab eI eR) (B + 1) w v1 x.1 ∧ New (OTab eI eR) (B + 1) w v2 x.2
theorem DoneS.keep {eI eR : TypeId} {w w' : World} {B : Nat} {xs : List (Tb × Tb)} {k : Nat} (h : DoneS eI eR w B xs k) (hb : Below w.heap.size w w') (hlt : B < w.heap.size) : DoneS eI eR w' B xs k := fun i x hi hx => by
  obtain ⟨v1, v2, c1, c2, n1, n2⟩ := h i x hi hx
  exact ⟨v1, v2, (hb.cell (p := ⟨B, i * 2, none⟩) hlt).trans c1, (hb.cell (p := ⟨B, i * 2 + 1, none⟩) hlt).trans c2, n1.keep (OTab.kept _ _) hb (Nat.le_refl _), n2.keep (OTab.kept _ _) hb (Nat.le_refl _)⟩
theorem DoneS.next {eI eR : TypeId} {w : World} {B m : Nat} {xs : List (Tb × Tb)} {k : Nat} (h : DoneS eI eR w B xs k) (hfr : FreeV w B m) (hk : k * 2 + 1 < m) {x : Tb × Tb} (hx : xs[k]? = some x) {v1 v2 : Value} (n1 : New (OTab eI eR) (B + 1) w v1 x.1) (n2 : New (OTab eI eR) (B + 1) w v2 x.2) :
    DoneS eI eR ((w.setCell ⟨B, k * 2, none⟩ v1).setCell ⟨B, k * 2 + 1, none⟩ v2) B xs (k + 1) := fun i y hi hy => by
  have low : ∀ {v : Value} {t : Tb}, New (OTab eI eR) (B + 1) w v t → New (OTab eI eR) (B + 1) ((w.setCell ⟨B, k * 2, none⟩ v1).setCell ⟨B, k * 2 + 1, none⟩ v2) v t := fun h => Go.Proofs.Ytlkgkfgpnnahdaa.New.setCell_low (OTab.kept _ _).held (Go.Proofs.Ytlkgkfgpnnahdaa.New.setCell_low (OTab.kept _ _).held h (by simp) _) (by simp) _
  by_cases e : i = k
  · subst e
    obtain rfl : x = y := by rw [hx] at hy; exact Option.some.inj hy
    obtain ⟨⟨u1, hu1⟩, _⟩ := hfr (i * 2) (by omega)
    obtain ⟨⟨u2, hu2⟩, _⟩ := hfr (i * 2 + 1) hk
    refine ⟨v1, v2, (World.cell?_setCell_other _ _ _ _ (by simp)).trans (World.cell?_setCell_same _ _ _ hu1), World.cell?_setCell_same _ _ _ ((World.cell?_setCell_other _ _ _ _ (by simp)).trans hu2), low n1, low n2⟩
  · obtain ⟨y1, y2, c1, c2, m1, m2⟩ := h i y (by omega) hy
    refine ⟨y1, y2, ?_, ?_, low m1, low m2⟩
    · exact (World.cell?_setCell_other _ _ _ _ (by simp <;> omega)).trans ((World.cell?_setCell_other _ _ _ _ (by simp <;> omega)).trans c1)
    · exact (World.cell?_setCell_other _ _ _ _ (by simp <;> omega)).trans ((World.cell?_setCell_other _ _ _ _ (by simp <;> omega)).trans c2)
end Go.Sd
namespace Go.Proofs.Ytlkgkfgpnnahdaa
open Go.RowKit Go.Deep Go.Sd
end Go.Proofs.Ytlkgkfgpnnahdaa
end

section
/-
  The draw of a lag: two matrices, a step, a number.
-/
namespace Go.Proofs.Ytlkgkfgpnnahdaa
open Go.RowKit Go.Deep Go.Sd
set_option linter.unusedSimpArgs false
theorem l1Max_1 {n : Nat} (hn : 1 ≤ n) (w : World) : Calls Try.prog 103 #[.int .i64 1, .int .i64 n] w fun e w' => e = .returned (.int .i64 n) ∧ w = w' := by
  have h : ¬ ((1 : Int) > (n : Int)) := by omega
  go_enter Try.func103, Try.ntmps103
  go_wp2
  go_ret
  exact ⟨rfl, rfl⟩
/-- Two matrices and a step. -/
def LagDP (w' : World) (v vb vx : Value) : Prop := ∃ (a b : List (List Int)) (x : Tb × Tb), Tab w' v a ∧ Tab w' vb b ∧ StepR w' vx x
set_option maxHeartbeats 4000000 in
set_option maxRecDepth 100000 in
theorem DrawIsLag_c {w : World} {vc : Value} {xs : List Int} (h : BytR w vc xs) :
    Calls Try.prog 31 #[vc] w fun e w' => ∃ (v vb vx : Value) (n : Int), e = .returned (.tuple #[v, vb, vx, .int .i64 n]) ∧ LagDP w' v vb vx ∧ Below w.heap.size w w' := by
  obtain ⟨w0, e0, hb0, c0, c1, m0⟩ := boxA_ex w 41 (.slice none 0 0) (.slice none 0 0)
  have f0 : w0.frozen? ⟨w.heap.size, 0, none⟩ = false := by rw [← e0]; simp [go_sem]
  have f1 : w0.frozen? ⟨w.heap.size, 1, none⟩ = false := by rw [← e0]; simp [go_sem]
  have h0 := BytR.frame _ _ _ _ h hb0
  have HN := Lib.hid (l1New_c h0)
  have HK := Lib.hid (fun w' (hb : Below w0.heap.size w0 w') => BytR.frame _ _ _ _ h0 hb)
  have HTwo := Lib.hid (fun w' (hb : Below w0.heap.size w0 w') => l19Two_c (BytR.frame _ _ _ _ h0 hb))
  have HB0 := Lib.hid hb0
  obtain ⟨a, c, rfl, -⟩ := h.cellsB
  clear h h0 hb0
  go_enter Try.func31, Try.ntmps31
  go_wp2_with fail
  (with_reducible refine HN.out.mono ?_)
  rintro e w1 ⟨rfl, ⟨hh, hs⟩, hb⟩
  have HB1 := Lib.hid hb
  have HC1 := Lib.hid (show Cur w0.heap.size w1 w0.heap.size (.slice a xs.length c) xs.length [] from ⟨0, hh, Nat.zero_le _, hs⟩)
  have hlt : w0.heap.size < w1.heap.size := hs.headBox.2.1
  clear hs hb HN e0
  go_wp2_with fail
  (with_reducible refine (HTwo.out _ HB1.out).mono ?_)
  rintro e w2 ⟨v, vb, rfl, ⟨ma, mb, hl, ta, tb⟩, hb⟩
  have HB2 := Lib.hid (HB1.out.trans (hb.mono HB1.out.size))
  have HC2 := Lib.hid (HC1.out.below hb)
  have HTa := Lib.hid ta
  have HTb := Lib.hid tb
  have Hl := Lib.hid hl
  obtain ⟨aa, ac, rfl, -⟩ := ta.tab.shape
  obtain ⟨ba, bc, rfl, -⟩ := tb.tab.shape
  have HP := Lib.hid (l1Below_i (z := 2) (fun w' hb' => HK.out w' (HB2.out.trans hb')) HC2.out HB2.out.size (by decide) (by decide))
  clear hb HC1 HB1 ta tb hl HC2 HTwo
  generalize hna : ma.length = na at HTa Hl ⊢
  generalize hnb : mb.length = nb at HTb ⊢
  clear hna hnb
  go_wp2_with fail
  (with_reducible refine HP.out.mono ?_)
  rintro e w3 ⟨x, rfl, hx, hc, hb, ho⟩
  have hx2 : x < 2 := hx
  have HB3 := Lib.hid (HB2.out.trans hb)
  have HC3 := Lib.hid hc
  have hz3 : w0.heap.size ≤ w3.heap.size := HB3.out.size
  have hz3' : w0.heap.size + 1 ≤ w3.heap.size := by obtain ⟨_, _, _, hs⟩ := hc; exact hs.headBox.2.1
  replace HTa := Lib.hid (HTa.out.off ho (by simp; exact hlt))
  replace HTb := Lib.hid (HTb.out.off ho (by simp; exact hlt))
  have HF := Lib.hid (spec_FindLag_c (n := 1 + (x : Int)) HTa.out.tab HTb.out.tab (by unfold I64; omega))
  clear hb hc hx HP ho HB2
  go_wp2_with fail
  (with_reducible refine HF.out.mono ?_)
  rintro e w4 ⟨r, rfl, hn, hb⟩
  obtain ⟨r1, r2, rfl, hn1, hn2⟩ := New.fst_snd hn
  have HB4 := Lib.hid (HB3.out.trans (hb.mono hz3))
  have HC4 := Lib.hid (HC3.out.below hb)
  have HX1 := Lib.hid ((Far.new hn1).mono hz3')
  have HX2 := Lib.hid ((Far.new hn2).mono hz3')
  replace HTa := Lib.hid ((HTa.out.mono (show w0.heap.size + 1 ≤ w1.heap.size from hlt)).below hb)
  replace HTb := Lib.hid ((HTb.out.mono (show w0.heap.size + 1 ≤ w1.heap.size from hlt)).below hb)
  obtain ⟨p1, p2, p3, rfl⟩ := hn1.slice
  obtain ⟨q1, q2, q3, rfl⟩ := hn2.slice
  clear hn hn1 hn2 hb HF HB3 HC3
  obtain ⟨w5, e5, hb5, d0, d1, m5⟩ := boxA_ex w4 41 (.slice p1 p2 p3) (.slice q1 q2 q3)
  have HB5 := Lib.hid (HB4.out.trans (hb5.mono HB4.out.size))
  have HC5 := Lib.hid (HC4.out.below hb5)
  replace HTa := Lib.hid (HTa.out.below hb5)
  replace HTb := Lib.hid (HTb.out.below hb5)
  replace HX1 := Lib.hid (HX1.out.below hb5)
  replace HX2 := Lib.hid (HX2.out.below hb5)
  have g0 := (HB5.out.cell (p := ⟨w.heap.size, 0, none⟩) m0).trans c0
  have g1 := (HB5.out.cell (p := ⟨w.heap.size, 1, none⟩) m0).trans c1
  have k0 := (HB5.out.frozen (p := ⟨w.heap.size, 0, none⟩) m0).trans f0
  have k1 := (HB5.out.frozen (p := ⟨w.heap.size, 1, none⟩) m0).trans f1
  have hneq : w4.heap.size ≠ w.heap.size := by have := HB4.out.size; omega
  have Hfin := Lib.hid (fun (wE : World) (u1 u2 : Value) (hE : Below w0.heap.size w0 wE) => (show ((wE.setCell ⟨w.heap.size, 0, none⟩ u1).setCell ⟨w.heap.size, 1, none⟩ u2).cell? ⟨w.heap.size, 0, none⟩ = some u1 ∧ ((wE.setCell ⟨w.heap.size, 0, none⟩ u1).setCell ⟨w.heap.size, 1, none⟩ u2).cell? ⟨w.heap.size, 1, none⟩ = some u2 ∧ Off [w.heap.size] wE ((wE.setCell ⟨w.heap.size, 0, none⟩ u1).setCell ⟨w.heap.size, 1, none⟩ u2) ∧ Below w.heap.size w ((wE.setCell ⟨w.heap.size, 0, none⟩ u1).setCell ⟨w.heap.size, 1, none⟩ u2) from by
    have z0 := (hE.cell (p := ⟨w.heap.size, 0, none⟩) m0).trans c0
    have z1 := (hE.cell (p := ⟨w.heap.size, 1, none⟩) m0).trans c1
    refine ⟨?_, ?_, ?_, ?_⟩
    · exact (World.cell?_setCell_other _ _ _ _ (by simp)).trans (World.cell?_setCell_same _ _ _ z0)
    · exact World.cell?_setCell_same _ _ _ ((World.cell?_setCell_other _ _ _ _ (by simp)).trans z1)
    · exact (Off.setCell (p := ⟨w.heap.size, 0, none⟩) (by simp) _).trans (Off.setCell (p := ⟨w.heap.size, 1, none⟩) (by simp) _)
    · exact ((HB0.out.trans (hE.mono (Nat.le_of_lt m0))).setCell (p := ⟨w.heap.size, 0, none⟩) (Nat.le_refl _) _).setCell (p := ⟨w.heap.size, 1, none⟩) (Nat.le_refl _) _))
  have HC01 := Lib.hid (⟨c0, c1, f0, f1⟩ : _ ∧ _ ∧ _ ∧ _)
  clear HB4 HC4 hb5 c0 c1 f0 f1 hlt hz3 hz3'
  have hF : ∀ b, b ∈ [w.heap.size] → b < w0.heap.size + 1 := by simp; omega
  have hz5 : w0.heap.size ≤ w5.heap.size := HB5.out.size
  cases (lagF ma mb (1 + (x : Int))).isSome with
  | true =>
    obtain ⟨r0, r1, ho, hbF⟩ := Hfin.out w5 (.slice p1 p2 p3) (.slice q1 q2 q3) HB5.out
    have hd := Below.drew (Below.refl ((w5.setCell ⟨w.heap.size, 0, none⟩ (.slice p1 p2 p3)).setCell ⟨w.heap.size, 1, none⟩ (.slice q1 q2 q3)).heap.size ((w5.setCell ⟨w.heap.size, 0, none⟩ (.slice p1 p2 p3)).setCell ⟨w.heap.size, 1, none⟩ (.slice q1 q2 q3)))
    have HL := Lib.hid (show LagDP (((w5.setCell ⟨w.heap.size, 0, none⟩ (.slice p1 p2 p3)).setCell ⟨w.heap.size, 1, none⟩ (.slice q1 q2 q3)).drew) (.slice aa na ac) (.slice ba nb bc) (.agg #[.slice p1 p2 p3, .slice q1 q2 q3]) from ⟨ma, mb, found (lagF ma mb (1 + (x : Int))), ((HTa.out.off ho hF).below hd).tab, ((HTb.out.off ho hF).below hd).tab, _, _, rfl, ((HX1.out.off ho hF).below hd).tab, ((HX2.out.off ho hF).below hd).tab⟩)
    have HBF := Lib.hid (hbF.trans (hd.mono (by simp; omega)))
    have r0' : (((w5.setCell ⟨w.heap.size, 0, none⟩ (.slice p1 p2 p3)).setCell ⟨w.heap.size, 1, none⟩ (.slice q1 q2 q3)).drew).cell? ⟨w.heap.size, 0, none⟩ = some (.slice p1 p2 p3) := r0
    have r1' : (((w5.setCell ⟨w.heap.size, 0, none⟩ (.slice p1 p2 p3)).setCell ⟨w.heap.size, 1, none⟩ (.slice q1 q2 q3)).drew).cell? ⟨w.heap.size, 1, none⟩ = some (.slice q1 q2 q3) := r1
    clear ho hbF hd r0 r1 hF
    go_wp2_with fail
    go_region
    go_wp2
    refine bodyPost_ret (v := .tuple #[.slice aa na ac, .slice ba nb bc, .agg #[.slice p1 p2 p3, .slice q1 q2 q3], .int .i64 (1 + (x : Int))]) (by simp [results, Try.results31, go_sem, r0', r1']) rfl ?_
    exact ⟨_, _, _, _, rfl, HL.out, HBF.out⟩
  | false =>
    have HM := Lib.hid (l1Max_1 Hl.out.1 w5)
    have HOn := Lib.hid (l4One_c (w := w5) (n := na) (by have := Hl.out.1; omega) (by have := Hl.out.2; omega))
    clear HX1 HX2
    go_wp2_with fail
    (with_reducible refine HM.out.mono ?_)
    rintro e w9 ⟨rfl, hw9⟩
    rw [← hw9]
    clear hw9 w9 HM
    go_wp2_with fail
    (with_reducible refine HOn.out.mono ?_)
    rintro e w6 ⟨v6, rfl, hn, hb⟩
    have HB6 := Lib.hid (HB5.out.trans (hb.mono hz5))
    have HC6 := Lib.hid (HC5.out.below hb)
    have HO6 := Lib.hid ((Far.new hn).mono (show w0.heap.size + 1 ≤ w5.heap.size from by obtain ⟨_, _, _, hs⟩ := HC5.out; exact hs.headBox.2.1))
    replace HTa := Lib.hid (HTa.out.below hb)
    replace HTb := Lib.hid (HTb.out.below hb)
    have hz6 : w0.heap.size ≤ w6.heap.size := HB6.out.size
    obtain ⟨o1, o2, o3, rfl⟩ := hn.slice
    clear hn hb HOn HB5 HC5 hz5 d0 d1 e5
    obtain ⟨w7, e7⟩ : ∃ y, w6.alloc (.cells #[.int .i64 0, .int .i64 0, .int .i64 5, .int .i64 (-3)] 3) = y := ⟨_, rfl⟩
    have hb7 : Below w6.heap.size w6 w7 := by rw [← e7]; exact (Below.refl _ _).alloc (Nat.le_refl _) _
    have HC7 := Lib.hid (show Cur w0.heap.size w7 w0.heap.size (.slice a xs.length c) xs.length (Res.box w6.heap.size (([0, 0, 5, -3] : List Int).map (Value.int .i64)) :: []) from by rw [← e7]; exact HC6.out.box hz6 (([0, 0, 5, -3] : List Int).map (Value.int .i64)) 3)
    have HB7 := Lib.hid (HB6.out.trans (hb7.mono hz6))
    replace HTa := Lib.hid (HTa.out.below hb7)
    replace HTb := Lib.hid (HTb.out.below hb7)
    replace HO6 := Lib.hid (HO6.out.below hb7)
    have HPk := Lib.hid (show Calls Try.prog 104 #[.pointer (some ⟨w0.heap.size, 0, none⟩), .slice (some ⟨w6.heap.size, 0, none⟩) 4 4] w7 _ from l1PickInt_c (ls := [0, 0, 5, -3]) (c := 4) (fun w' hb => HK.out w' (HB7.out.trans hb)) HC7.out HB7.out.size (by decide) (by decide))
    clear hb7 HC6 HB6
    go_wp2_with fail
    (with_reducible refine HPk.out.mono ?_)
    rintro e w8 ⟨y, rfl, hy, -, hb, ho⟩
    have HB8 := Lib.hid (HB7.out.trans hb)
    have hF2 : ∀ b, b ∈ [w0.heap.size] → b < w0.heap.size + 1 := by simp
    replace HTa := Lib.hid (HTa.out.off ho hF2)
    replace HTb := Lib.hid (HTb.out.off ho hF2)
    replace HO6 := Lib.hid (HO6.out.off ho hF2)
    have hyb : -3 ≤ y ∧ y ≤ 5 := by simp at hy; omega
    obtain ⟨r0, r1, ho2, hbF⟩ := Hfin.out w8 (.slice o1 o2 o3) (.slice aa na ac) HB8.out
    have HL := Lib.hid (show LagDP ((w8.setCell ⟨w.heap.size, 0, none⟩ (.slice o1 o2 o3)).setCell ⟨w.heap.size, 1, none⟩ (.slice aa na ac)) (.slice aa na ac) (.slice ba nb bc) (.agg #[.slice o1 o2 o3, .slice aa na ac]) from ⟨ma, mb, (unitT na, ma), (HTa.out.off ho2 hF).tab, (HTb.out.off ho2 hF).tab, _, _, rfl, (HO6.out.off ho2 hF).tab, (HTa.out.off ho2 hF).tab⟩)
    have HBF := Lib.hid hbF
    have g0' := (HB8.out.cell (p := ⟨w.heap.size, 0, none⟩) m0).trans HC01.out.1
    have g1' := (HB8.out.cell (p := ⟨w.heap.size, 1, none⟩) m0).trans HC01.out.2.1
    have k0' := (HB8.out.frozen (p := ⟨w.heap.size, 0, none⟩) m0).trans HC01.out.2.2.1
    have k1' := (HB8.out.frozen (p := ⟨w.heap.size, 1, none⟩) m0).trans HC01.out.2.2.2
    clear hb ho ho2 hbF hF hF2 HTa HTb HO6 hy HC7 HB7 HPk g0 g1 k0 k1
    go_wp2
    refine bodyPost_ret (v := .tuple #[.slice aa na ac, .slice ba nb bc, .agg #[.slice o1 o2 o3, .slice aa na ac], .int .i64 (1 + (x : Int) + y)]) (by simp [results, Try.results31, go_sem, r0, r1]) rfl ?_
    exact ⟨_, _, _, _, rfl, HL.out, HBF.out⟩
end Go.Proofs.Ytlkgkfgpnnahdaa
end

section
/-
  SplitOut, the program's.
-/
namespace Go.Proofs.Ytlkgkfgpnnahdaa
open Go.RowKit Go.Deep Go.Sd

def partF (m : List (List Int)) (I : Nat) (P : List Int) (l : Nat) : Bool := decide (0 ≤ P.getD l 0 ∧ P.getD l 0 ≤ ent m I l)
def splitOk (m : List (List Int)) (i : Int) (P : List Int) : Bool :=
  isMat m && decide (m.length ≤ 8 ∧ 0 ≤ i ∧ i < m.length ∧ P.length = m.length) && allF (partF m i.toNat P) m.length 0
def splitV (m : List (List Int)) (i : Int) (P : List Int) : List (List Int) := if splitOk m i P = true then splitT m i.toNat P m.length else []

theorem allF_all {h : Nat → Bool} : ∀ {g k : Nat}, allF h g k = true → ∀ l, k ≤ l → l < k + g → h l = true
  | 0, k, _, l, h1, h2 => by omega
  | g + 1, k, H, l, h1, h2 => by
    unfold allF at H
    by_cases hk : h k = true
    · rw [if_pos hk] at H
      by_cases e : l = k
      · rw [e]; exact hk
      · exact allF_all H l (by omega) (by omega)
    · rw [if_neg hk] at H; cases H

theorem partOk_of {m : List (List Int)} {I n : Nat} {P : List Int} (hm : isMat m = true) (hn : m.length = n) (hI : I < n) (h : allF (partF m I P) n 0 = true) : partOk m I P n := by
  intro l hl
  have h1 := allF_all h l (Nat.zero_le _) (by omega)
  unfold partF at h1
  simp only [decide_eq_true_eq] at h1
  subst hn
  obtain ⟨r, hr, hx⟩ := ent_mem (isMat_sq hm).1.2 hI hl
  have h2 := isMat_bd hm r hr _ hx
  omega

theorem partF_t {m : List (List Int)} {I k : Nat} {P : List Int} (hx : 0 ≤ P.getD k 0) (hy : P.getD k 0 ≤ ent m I k) : partF m I P k = true := decide_eq_true ⟨hx, hy⟩
theorem partF_f {m : List (List Int)} {I k : Nat} {P : List Int} (h : ¬ (0 ≤ P.getD k 0 ∧ P.getD k 0 ≤ ent m I k)) : partF m I P k = false := decide_eq_false h

theorem splitT_sq (m : List (List Int)) (I : Nat) (P : List Int) (n : Nat) : Sq (n + 1) (splitT m I P n) := ⟨splitT_len m I P n, fun r hr => by
  unfold splitT at hr
  obtain ⟨k, _, rfl⟩ := List.mem_map.1 hr
  rw [List.length_append, rowOf_len]
  rfl⟩
theorem splitOk_sq {m : List (List Int)} {i : Int} {P : List Int} (h : splitOk m i P = true) : ∃ n, Sq n (splitV m i P) ∧ 0 < n ∧ n ≤ 9 := by
  refine ⟨m.length + 1, by unfold splitV; rw [if_pos h]; exact splitT_sq _ _ _ _, by omega, ?_⟩
  unfold splitOk at h
  simp only [Bool.and_eq_true, decide_eq_true_eq] at h
  omega
theorem splitV_bd (m : List (List Int)) (i : Int) (P : List Int) : (splitV m i P).length ≤ 9 ∧ ∀ x, x ∈ splitV m i P → x.length ≤ 9 := by
  by_cases h : splitOk m i P = true
  · obtain ⟨n, hs, _, h9⟩ := splitOk_sq h
    exact ⟨by rw [hs.1]; exact h9, fun x hx => by rw [hs.2 x hx]; exact h9⟩
  · unfold splitV
    rw [if_neg h]
    exact ⟨by simp, fun x hx => by cases hx⟩

end Go.Proofs.Ytlkgkfgpnnahdaa
end
