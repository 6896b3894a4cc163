/-
  FindLag, the reference's.
-/
import Derived.Test.YtjgiobapdkdhpaaRows
import Derived.Test.YtjgiobapdkdhpaaBase
import Derived.Test.YtjgiobapdkdhpaaTabs
import Derived.Test.YtjgiobapdkdhpaaHarn
import Derived.Test.YtjgiobapdkdhpaaZero
import Derived.Test.YtjgiobapdkdhpaaTimes
import Derived.Test.YtjgiobapdkdhpaaMoeb
import Derived.Test.YtjgiobapdkdhpaaEqual
import Derived.Test.YtjgiobapdkdhpaaFindL
import Derived.Test.YtjgiobapdkdhpaaFindN
import Derived.Test.YtjgiobapdkdhpaaFLagM
import Derived.Test.YtjgiobapdkdhpaaFLagI
import Derived.Test.YtjgiobapdkdhpaaBoxKit
import Derived.Deep.RegionLaw
import Derived.WalkSpells
import Derived.IntWalk
import Derived.StillTailTactics
namespace Go.Proofs.Ytjgiobapdkdhpaa
open Go.RowKit Go.Deep Go.Sd

set_option maxHeartbeats 4000000 in
set_option maxRecDepth 10000 in
theorem spec_FindLag_c {w : World} {va vb : Value} {a b : Tb} {n : Int} (h1 : Tab w va a) (h2 : Tab w vb b) (hn64 : I64 n) :
    Calls Try.prog 23 #[va, vb, .int .i64 n] w (Makes2 (OStep 3 78) w (found (lagF a b n)) (lagF a b n).isSome) := by
  have H1 := Lib.hid (fun w1 (hb : Below w.heap.size w w1) => Tab.frame _ _ _ _ h1 hb)
  have H2 := Lib.hid (fun w1 (hb : Below w.heap.size w w1) => Tab.frame _ _ _ _ h2 hb)
  have HV := Lib.hid (show lagF a b n = if 1 ≤ n ∧ n ≤ 5 then (if (isMat a && (isMat b && (decide (a.length ≤ 2) && decide (b.length ≤ 2)))) = true then findR (lagP a b n) (tabsN b.length a.length) (tabsN a.length b.length) else none) else none from rfl)
  have HNo := Lib.hid (fun (hm : isMat a = true) (hn : isMat b = true) x (h : prodT a (tabN x a.length b.length) a.length a.length b.length ≠ prodT (tabN x a.length b.length) b a.length b.length b.length) s => (show lagP a b n (tabN x a.length b.length, s) = false from lagM_no hm hn h s n))
  have HL := Lib.hid (fun w1 (hb : Below w.heap.size w w1) vx (x : Tb × Tb) (h3 : StepR w1 vx x) => (show Calls Try.prog 79 #[va, vb, vx, .int .i64 n] w1 fun e w' => e = .returned (.bool (lagP a b n x)) ∧ Below w1.heap.size w1 w' from spec_IsLag_c (Tab.frame _ _ _ _ h1 hb) (Tab.frame _ _ _ _ h2 hb) h3))
  have Hl1 := Lib.hid (fun (hm : isMat a = true) => isMat_len hm)
  have Hl2 := Lib.hid (fun (hm : isMat b = true) => isMat_len hm)
  have Hr1 := Lib.hid (fun (hm : isMat a = true) => (show (∀ r, r ∈ a → r.length = a.length) ∧ Bd 1000000 a from ⟨fun r hr => (isMat_row hm hr).1, isMat_Bd hm⟩))
  have Hr2 := Lib.hid (fun (hm : isMat b = true) => (show (∀ r, r ∈ b → r.length = b.length) ∧ Bd 1000000 b from ⟨fun r hr => (isMat_row hm hr).1, isMat_Bd hm⟩))
  have HM1 := Lib.hid (fun w1 (hb : Below w.heap.size w w1) => spec_IsMatrix_c (Tab.frame _ _ _ _ h1 hb))
  have HM2 := Lib.hid (fun w1 (hb : Below w.heap.size w w1) => spec_IsMatrix_c (Tab.frame _ _ _ _ h2 hb))
  have Hin := Lib.hid (fun w1 => l1In_c n 1 5 w1)
  generalize lagF a b n = V at HV ⊢
  generalize lagP a b n = P at HV HNo HL
  generalize hma : isMat a = ma at *
  generalize hmb : isMat b = mb at *
  clear hma hmb
  obtain ⟨_, _, rfl, _, _, _⟩ := h1.shape
  obtain ⟨_, _, rfl, _, _, _⟩ := h2.shape
  clear h1 h2
  generalize hp : a.length = p at *
  generalize hq : b.length = q at *
  have Hp := Lib.hid hp
  have Hq := Lib.hid hq
  clear hp hq
  go_enter Try.func23, Try.ntmps23
  go_wp2_with fail
  have fz0 : (w.alloc (.cells #[.slice none 0 0, .slice none 0 0] 38)).frozen? ⟨w.heap.size, 0, none⟩ = false := by simp [go_sem]
  have fz1 : (w.alloc (.cells #[.slice none 0 0, .slice none 0 0] 38)).frozen? ⟨w.heap.size, 1, none⟩ = false := by simp [go_sem]
  obtain ⟨w0, ex, A0, c0, c1, m1⟩ := boxA_ex w 38 (.slice none 0 0) (.slice none 0 0)
  rw [ex] at fz0 fz1
  change Calls Try.prog _ _ (w.alloc (.cells #[.slice none 0 0, .slice none 0 0] 38)) _
  rw [ex]
  clear ex
  refine (HM1.out _ A0).mono ?_
  rintro e w' ⟨rfl, rfl⟩
  cases ma with
  | false =>
    have HK := Lib.hid (show V = none from by rw [HV.out]; split <;> rfl)
    clear HV HNo HL Hl1 Hl2 HM1 HM2 Hr1 Hr2
    go_wp2
    have r0 := World.cell?_setCell_same w0 _ (.slice none 0 0) c0
    have s1 : ((w0.setCell ⟨w.heap.size, 0, none⟩ (.slice none 0 0)).cell? ⟨w.heap.size, 1, none⟩) = some (.slice none 0 0) := (World.cell?_setCell_other _ _ _ _ (by simp)).trans c1
    have r1 := World.cell?_setCell_same _ _ (.slice none 0 0) s1
    refine bodyPost_ret (v := .tuple #[.agg #[.slice none 0 0, .slice none 0 0], .bool false]) (by simp [results, Try.results23, go_sem, r0, r1]) rfl ?_
    exact ⟨_, by rw [HK.out]; rfl, by rw [HK.out]; exact New.none2 (by simp; have := (A0).size; omega), ((A0).setCell (p := ⟨w.heap.size, 0, none⟩) (Nat.le_refl _) _).setCell (p := ⟨w.heap.size, 1, none⟩) (Nat.le_refl _) _⟩
  | true =>
  go_wp2_with fail
  refine (HM2.out _ A0).mono ?_
  rintro e w' ⟨rfl, rfl⟩
  cases mb with
  | false =>
    have HK := Lib.hid (show V = none from by rw [HV.out]; split <;> rfl)
    clear HV HNo HL Hl1 Hl2 HM1 HM2 Hr1 Hr2
    go_wp2
    have r0 := World.cell?_setCell_same w0 _ (.slice none 0 0) c0
    have s1 : ((w0.setCell ⟨w.heap.size, 0, none⟩ (.slice none 0 0)).cell? ⟨w.heap.size, 1, none⟩) = some (.slice none 0 0) := (World.cell?_setCell_other _ _ _ _ (by simp)).trans c1
    have r1 := World.cell?_setCell_same _ _ (.slice none 0 0) s1
    refine bodyPost_ret (v := .tuple #[.agg #[.slice none 0 0, .slice none 0 0], .bool false]) (by simp [results, Try.results23, go_sem, r0, r1]) rfl ?_
    exact ⟨_, by rw [HK.out]; rfl, by rw [HK.out]; exact New.none2 (by simp; have := (A0).size; omega), ((A0).setCell (p := ⟨w.heap.size, 0, none⟩) (Nat.le_refl _) _).setCell (p := ⟨w.heap.size, 1, none⟩) (Nat.le_refl _) _⟩
  | true =>
  by_cases hp2 : p ≤ 2
  rotate_left
  · have HK := Lib.hid (show V = none from by rw [HV.out, decide_eq_false hp2]; split <;> rfl)
    have hp2' : 2 < p := by omega
    clear HV HNo HL Hl1 Hl2 HM1 HM2 Hr1 Hr2
    go_wp2
    have r0 := World.cell?_setCell_same w0 _ (.slice none 0 0) c0
    have s1 : ((w0.setCell ⟨w.heap.size, 0, none⟩ (.slice none 0 0)).cell? ⟨w.heap.size, 1, none⟩) = some (.slice none 0 0) := (World.cell?_setCell_other _ _ _ _ (by simp)).trans c1
    have r1 := World.cell?_setCell_same _ _ (.slice none 0 0) s1
    refine bodyPost_ret (v := .tuple #[.agg #[.slice none 0 0, .slice none 0 0], .bool false]) (by simp [results, Try.results23, go_sem, r0, r1]) rfl ?_
    exact ⟨_, by rw [HK.out]; rfl, by rw [HK.out]; exact New.none2 (by simp; have := (A0).size; omega), ((A0).setCell (p := ⟨w.heap.size, 0, none⟩) (Nat.le_refl _) _).setCell (p := ⟨w.heap.size, 1, none⟩) (Nat.le_refl _) _⟩
  by_cases hq2 : q ≤ 2
  rotate_left
  · have HK := Lib.hid (show V = none from by rw [HV.out, decide_eq_false hq2, Bool.and_false]; split <;> rfl)
    have hq2' : 2 < q := by omega
    clear HV HNo HL Hl1 Hl2 HM1 HM2 Hr1 Hr2
    go_wp2
    have r0 := World.cell?_setCell_same w0 _ (.slice none 0 0) c0
    have s1 : ((w0.setCell ⟨w.heap.size, 0, none⟩ (.slice none 0 0)).cell? ⟨w.heap.size, 1, none⟩) = some (.slice none 0 0) := (World.cell?_setCell_other _ _ _ _ (by simp)).trans c1
    have r1 := World.cell?_setCell_same _ _ (.slice none 0 0) s1
    refine bodyPost_ret (v := .tuple #[.agg #[.slice none 0 0, .slice none 0 0], .bool false]) (by simp [results, Try.results23, go_sem, r0, r1]) rfl ?_
    exact ⟨_, by rw [HK.out]; rfl, by rw [HK.out]; exact New.none2 (by simp; have := (A0).size; omega), ((A0).setCell (p := ⟨w.heap.size, 0, none⟩) (Nat.le_refl _) _).setCell (p := ⟨w.heap.size, 1, none⟩) (Nat.le_refl _) _⟩
  by_cases hi : 1 ≤ n ∧ n ≤ 5
  rotate_left
  · have HK := Lib.hid (show V = none from by rw [HV.out, if_neg hi])
    have hin : (decide ((1 : Int) ≤ n) && decide (n ≤ 5)) = false := by by_cases h : (1 : Int) ≤ n <;> simp [h] <;> omega
    rw [hin] at Hin
    clear HV HNo HL Hl1 Hl2 HM1 HM2 Hr1 Hr2 hin hi
    go_wp2_with fail
    refine (Hin.out _).mono ?_
    rintro e w' ⟨rfl, rfl⟩
    go_wp2
    have r0 := World.cell?_setCell_same w0 _ (.slice none 0 0) c0
    have s1 : ((w0.setCell ⟨w.heap.size, 0, none⟩ (.slice none 0 0)).cell? ⟨w.heap.size, 1, none⟩) = some (.slice none 0 0) := (World.cell?_setCell_other _ _ _ _ (by simp)).trans c1
    have r1 := World.cell?_setCell_same _ _ (.slice none 0 0) s1
    refine bodyPost_ret (v := .tuple #[.agg #[.slice none 0 0, .slice none 0 0], .bool false]) (by simp [results, Try.results23, go_sem, r0, r1]) rfl ?_
    exact ⟨_, by rw [HK.out]; rfl, by rw [HK.out]; exact New.none2 (by simp; have := (A0).size; omega), ((A0).setCell (p := ⟨w.heap.size, 0, none⟩) (Nat.le_refl _) _).setCell (p := ⟨w.heap.size, 1, none⟩) (Nat.le_refl _) _⟩
  have hin : (decide ((1 : Int) ≤ n) && decide (n ≤ 5)) = true := by simp; exact hi
  rw [hin] at Hin
  have hp0 := (Hl1.out (by first | rfl | trivial)).1
  have hq0 := (Hl2.out (by first | rfl | trivial)).1
  have Hra := Lib.hid (Hr1.out (by first | rfl | trivial))
  have Hrb := Lib.hid (Hr2.out (by first | rfl | trivial))
  have HNN := Lib.hid (HNo.out (by first | rfl | trivial) (by first | rfl | trivial))
  have HVV := Lib.hid (show V = findR P (tabsN q p) (tabsN p q) from by rw [HV.out, if_pos hi, decide_eq_true hp2, decide_eq_true hq2]; rfl)
  clear HV HNo Hl1 Hl2 HM1 HM2 Hr1 Hr2 hin hi
  have hpq : p * q ≤ 4 := Nat.mul_le_mul hp2 hq2
  have hpqI : ((p : Int) * (q : Int)) = ((p * q : Nat) : Int) := by push_cast; rfl
  have HpqI := Lib.hid hpqI
  have hm0 : (p : Int) * (q : Int) ≤ 4 := by rw [hpqI]; omega
  have hm1 : 0 ≤ (p : Int) * (q : Int) := by rw [hpqI]; omega
  clear hpqI
  obtain ⟨M, hM⟩ : ∃ M, M = 3 ^ (p * q) := ⟨_, rfl⟩
  have HM := Lib.hid hM
  have hM81 : M ≤ 81 := by rw [hM]; exact Nat.le_trans (Nat.pow_le_pow_right (by decide) hpq) (by decide)
  obtain ⟨rs, hrs⟩ : ∃ rs, rs = tabsN p q := ⟨_, rfl⟩
  obtain ⟨ss, hss⟩ : ∃ ss, ss = tabsN q p := ⟨_, rfl⟩
  have HV0 := Lib.hid (show V = findR P ss (rs.drop 0) from by rw [hrs, hss]; exact HVV.out)
  have Hrl := Lib.hid (show rs.length = M from by rw [hrs, hM]; simp [tabsN])
  have Hsl := Lib.hid (show ss.length = M from by rw [hss, hM, Nat.mul_comm p q]; simp [tabsN])
  have Hrx := Lib.hid (show ∀ x, x < M → rs[x]? = some (tabN x p q) from fun x hx => by rw [hrs]; unfold tabsN; rw [← hM, List.getElem?_map, List.getElem?_range hx]; rfl)
  have Hsx := Lib.hid (show ∀ x, x < M → ss[x]? = some (tabN x q p) from fun x hx => by rw [hss]; unfold tabsN; rw [Nat.mul_comm q p, ← hM, List.getElem?_map, List.getElem?_range hx]; rfl)
  clear hM hrs hss HVV
  have A0' := Lib.hid A0
  clear A0
  go_wp2_with fail
  refine (Hin.out _).mono ?_
  rintro e w' ⟨rfl, rfl⟩
  clear Hin
  go_wp2
  go_loopg [8, 9] (p * q) (fun g av kv wr => ∃ (k z : Nat), kv = .int .i64 k ∧ av = .int .i64 z ∧ k + g = p * q ∧ Hid (z = 3 ^ k) ∧ w0 = wr)
  case atStart => exact ⟨0, 1, rfl, rfl, by omega, Lib.hid rfl, rfl⟩
  case round =>
    obtain ⟨k, z, rfl, rfl, hk, hz, rfl⟩ := hrel
    by_cases hlt : k < p * q
    · have hz1 : z ≤ 6561 := by rw [hz.out]; exact Nat.le_trans (Nat.pow_le_pow_right (by decide) (by omega : k ≤ 8)) (by decide)
      have R := Lib.hid (show z * 3 = 3 ^ (k + 1) from by rw [hz.out, Nat.pow_succ])
      have hkI : (k : Int) < (p : Int) * (q : Int) := by rw [HpqI.out]; omega
      clear hz
      go_wp2
      go_roundg (p * q - (k + 1))
      case measure => omega
      case rel => exact ⟨k + 1, z * 3, by go_num, by go_num, by omega, R, rfl⟩
    · obtain rfl : z = M := by rw [hz.out, HM.out]; congr 1; omega
      have hkI : ¬ (k : Int) < (p : Int) * (q : Int) := by rw [HpqI.out]; omega
      clear hz HM
      have HB0 := Lib.hid (Below.refl w0.heap.size w0)
      go_wp2
      go_loopg [10] z (fun g i wr => ∃ (x : Nat), i = .int .i64 x ∧ x + g = z ∧ Hid (V = findR P ss (rs.drop x)) ∧ Hid (Below w0.heap.size w0 wr))
      case atStart => exact ⟨0, rfl, by omega, HV0, HB0⟩
      case round =>
        obtain ⟨x, rfl, hx, HVx, hbx⟩ := hrel
        clear HV0 HB0
        obtain ⟨wx, rfl⟩ : ∃ y, y = wr := ⟨_, rfl⟩
        have Abx := Lib.hid (A0'.out.trans (hbx.out.mono A0'.out.size))
        by_cases hltx : x < z
        · have hd := List.drop_eq_getElem_cons (show x < rs.length from by rw [Hrl.out]; exact hltx)
          have he : rs[x]'(by rw [Hrl.out]; exact hltx) = tabN x p q := by
            have h := Hrx.out x hltx
            rw [List.getElem?_eq_getElem (by rw [Hrl.out]; exact hltx)] at h
            exact Option.some.inj h
          rw [he] at hd
          have HVy0 := Lib.hid (show V = (match findS P (tabN x p q) (ss.drop 0) with | some x => some x | none => findR P ss (rs.drop (x + 1))) from by rw [HVx.out, hd]; rfl)
          have Hr := Lib.hid (l19Table_c (w := wx) (n := x) (p := p) (r := q) (by omega) hp0 hp2 hq0 hq2)
          clear hd he HVx
          have hlexI : (x : Int) < (z : Int) := by omega
          have hzx := hbx.out.size
          go_wp2_with fail
          refine Hr.out.mono ?_
          rintro e w2 ⟨vr, rfl, hn2, hb2⟩
          have Hn2 := Lib.hid hn2
          have htr := Lib.hid hn2.tab
          have hzx2 := hb2.size
          have Hb2 := Lib.hid (hbx.out.trans (hb2.mono hzx))
          obtain ⟨ra, rn, rc, rfl⟩ := hn2.slice
          clear hn2 hb2 hbx Abx Hr
          have hz2 := Hb2.out.size
          have Ab2 := Lib.hid (A0'.out.trans (Hb2.out.mono A0'.out.size))
          have HT1 := Lib.hid (l4Times_c (H1.out _ Ab2.out) htr.out (p := p) (q := p) (r := q) Hp.out Hra.out.1 (tabN_len _ _ _) (fun r hr => tabN_row hr) hp0 hp0 hq0 (by omega) (by omega) (by omega) Hra.out.2 (tabN_Bd _ _ _))
          have HT2 := Lib.hid (fun w3 (hb : Below w2.heap.size w2 w3) => l4Times_c (Tab.frame _ _ _ _ htr.out hb) (H2.out _ (Ab2.out.trans (hb.mono Ab2.out.size))) (p := p) (q := q) (r := q) (tabN_len _ _ _) (fun r hr => tabN_row hr) Hq.out Hrb.out.1 hp0 hq0 hq0 (by omega) (by omega) (by omega) (tabN_Bd _ _ _) Hrb.out.2)
          go_wp2_with fail
          refine HT1.out.mono ?_
          rintro e w3 ⟨v3, rfl, hn3, hb3⟩
          have H3 := Lib.hid hb3
          have Hn3 := Lib.hid hn3.tab
          have HT3 := Lib.hid (HT2.out _ hb3)
          obtain ⟨_, _, _, rfl⟩ := hn3.slice
          clear hn3 hb3 HT1 HT2
          go_wp2_with fail
          refine HT3.out.mono ?_
          rintro e w4 ⟨v4, rfl, hn4, hb4⟩
          have H4 := Lib.hid (H3.out.trans (hb4.mono H3.out.size))
          have HE := Lib.hid (spec_EqualMatrix_c (Tab.frame _ _ _ _ Hn3.out hb4) hn4.tab)
          obtain ⟨_, _, _, rfl⟩ := hn4.slice
          clear hn4 hb4 HT3 Hn3 H3
          have HD := Lib.hid (show decide (prodT a (tabN x p q) p p q = prodT (tabN x p q) b p q q) = false → V = findR P ss (rs.drop (x + 1)) from fun h => by
            rw [HVy0.out, findS_none (fun s => HNN.out x (of_decide_eq_false h) s)])
          generalize decide (prodT a (tabN x p q) p p q = prodT (tabN x p q) b p q q) = dd at HE HD
          go_wp2_with fail
          refine HE.out.mono ?_
          rintro e w5 ⟨rfl, hd5⟩
          have H5 := Lib.hid (H4.out.trans (hd5.below w2.heap.size))
          clear hd5 HE H4
          cases dd with
          | false =>
            have HN := Lib.hid (HD.out rfl)
            have HR := Lib.hid (Hb2.out.trans (H5.out.mono hz2))
            clear HD HVy0 htr Hn2 Ab2 H5
            go_wp2
            go_roundg (z - (x + 1))
            case measure => omega
            case rel => exact ⟨x + 1, by go_num, by omega, HN, HR⟩
          | true =>
          clear HD Ab2
          have Hn5 := Lib.hid (New.keep (OTab.kept _ _) Hn2.out H5.out (Nat.le_refl _))
          have Hb5 := Lib.hid (Hb2.out.trans (H5.out.mono hz2))
          have hz5 := Hb5.out.size
          have hzx5 : wx.heap.size ≤ w5.heap.size := Nat.le_trans hzx2 H5.out.size
          clear htr Hn2 H5 Hb2
          have HB5 := Lib.hid (Below.refl w5.heap.size w5)
          go_wp2
          go_loopg [12] z (fun g i wr => ∃ (y : Nat), i = .int .i64 y ∧ y + g = z ∧ Hid (V = (match findS P (tabN x p q) (ss.drop y) with | some x => some x | none => findR P ss (rs.drop (x + 1)))) ∧ Hid (Below w5.heap.size w5 wr))
          case atStart => exact ⟨0, rfl, by omega, HVy0, HB5⟩
          case round =>
            obtain ⟨y, rfl, hy, HVy, hby⟩ := hrel
            clear HVy0 HB5
            obtain ⟨wy, rfl⟩ : ∃ y, y = wr := ⟨_, rfl⟩
            have hzy := hby.out.size
            by_cases hlty : y < z
            · have hd := List.drop_eq_getElem_cons (show y < ss.length from by rw [Hsl.out]; exact hlty)
              have he : ss[y]'(by rw [Hsl.out]; exact hlty) = tabN y q p := by
                have h := Hsx.out y hlty
                rw [List.getElem?_eq_getElem (by rw [Hsl.out]; exact hlty)] at h
                exact Option.some.inj h
              rw [he] at hd
              have HVs := Lib.hid (show V = (match (if P (tabN x p q, tabN y q p) = true then some (tabN x p q, tabN y q p) else findS P (tabN x p q) (ss.drop (y + 1))) with | some x => some x | none => findR P ss (rs.drop (x + 1))) from by rw [HVy.out, hd]; rfl)
              have Hs := Lib.hid (l19Table_c (w := wy) (n := y) (p := q) (r := p) (by omega) hq0 hq2 hp0 hp2)
              clear hd he HVy
              have Hnr := Lib.hid (New.keep (OTab.kept _ _) Hn5.out hby.out (Nat.le_refl _))
              have Hbw := Lib.hid (Hb5.out.trans (hby.out.mono hz5))
              have hleyI : (y : Int) < (z : Int) := by omega
              go_wp2_with fail
              refine Hs.out.mono ?_
              rintro e w6 ⟨vs, rfl, hn6, hb6⟩
              have hz6 := hb6.size
              have HP0 := New.pair (lo := wx.heap.size) Hnr.out hn6 hb6 (by omega)
              have HP := Lib.hid HP0
              have Hb6 := Lib.hid (Hbw.out.trans (hb6.mono (by omega)))
              obtain ⟨sa, sn, sc, rfl⟩ := hn6.slice
              have hby6 := Lib.hid (hby.out.trans (hb6.mono hzy))
              clear hn6 hb6 hby Hs HP0 Hnr Hbw
              obtain ⟨w7, ex, hb7, q0, q1, n7⟩ := boxA_ex w6 38 (.slice ra rn rc) (.slice sa sn sc)
              have hz7 := hb7.size
              have Hb7 := Lib.hid (Hb6.out.trans (hb7.mono (by omega)))
              have hby7 := Lib.hid (hby6.out.trans (hb7.mono (by omega)))
              have hst := StepR.frame _ _ _ _ HP.out.stp hb7
              have H67 := Lib.hid hb7
              have HCC := Lib.hid (HL.out w7 (A0'.out.trans (Hb7.out.mono A0'.out.size)) _ _ hst)
              clear hb7 hst Hb6 hby6
              generalize P (tabN x p q, tabN y q p) = d at HCC HVs
              go_wp2_with fail
              refine HCC.out.mono ?_
              rintro e w8 ⟨rfl, hb8⟩
              clear ex
              replace q0 := (hb8.cell (p := ⟨w6.heap.size, 0, none⟩) n7).trans q0
              replace q1 := (hb8.cell (p := ⟨w6.heap.size, 1, none⟩) n7).trans q1
              have HS := Lib.hid hb8
              clear hb8 HCC
              cases d with
              | false =>
                have HN := Lib.hid (show V = (match findS P (tabN x p q) (ss.drop (y + 1)) with | some x => some x | none => findR P ss (rs.drop (x + 1))) from by rw [HVs.out]; rfl)
                have HR := Lib.hid (hby7.out.trans (HS.out.mono (by omega)))
                clear HVs HP hby7 Hb7 HS H67 q0 q1
                go_wp2
                go_roundg (z - (y + 1))
                case measure => omega
                case rel => exact ⟨y + 1, by go_num, by omega, HN, HR⟩
              | true =>
                have HN := Lib.hid (show V = some (tabN x p q, tabN y q p) from by rw [HVs.out]; rfl)
                have hb9 := Hb7.out.trans (HS.out.mono (by omega))
                replace c0 := (hb9.cell (p := ⟨w.heap.size, 0, none⟩) m1).trans c0
                replace c1 := (hb9.cell (p := ⟨w.heap.size, 1, none⟩) m1).trans c1
                replace fz0 := (hb9.frozen (p := ⟨w.heap.size, 0, none⟩) m1).trans fz0
                replace fz1 := (hb9.frozen (p := ⟨w.heap.size, 1, none⟩) m1).trans fz1
                have HPP := Lib.hid (((HP.out.inn OStep.held).keep OStep.held (H67.out.trans (HS.out.mono hz7)) (Nat.le_refl _)).new)
                have HA := Lib.hid (A0'.out.trans (hb9.mono A0'.out.size))
                clear HVs HP hby7 Hb7 HS H67 hb9
                go_wp2
                have r0 := World.cell?_setCell_same w8 _ (.slice ra rn rc) c0
                have s1 : ((w8.setCell ⟨w.heap.size, 0, none⟩ (.slice ra rn rc)).cell? ⟨w.heap.size, 1, none⟩) = some (.slice none 0 0) := (World.cell?_setCell_other _ _ _ _ (by simp)).trans c1
                have r1 := World.cell?_setCell_same _ _ (.slice sa sn sc) s1
                refine bodyPost_ret (v := .tuple #[.agg #[.slice ra rn rc, .slice sa sn sc], .bool true]) (by simp [results, Try.results23, go_sem, r0, r1]) rfl ?_
                exact ⟨_, by rw [HN.out]; rfl, by rw [HN.out]; exact (New.setCell_low OStep.held (New.setCell_low OStep.held HPP.out (show w.heap.size < wx.heap.size from Nat.lt_of_lt_of_le m1 hzx) _) (show w.heap.size < wx.heap.size from Nat.lt_of_lt_of_le m1 hzx) _).mono (by omega), (HA.out.setCell (p := ⟨w.heap.size, 0, none⟩) (Nat.le_refl _) _).setCell (p := ⟨w.heap.size, 1, none⟩) (Nat.le_refl _) _⟩
            · have HN := Lib.hid (show V = findR P ss (rs.drop (x + 1)) from by rw [HVy.out, List.drop_eq_nil_of_le (by rw [Hsl.out]; omega)]; rfl)
              have HR := Lib.hid (Hb5.out.trans (hby.out.mono hz5))
              clear HVy hby
              go_wp2
              go_roundg (z - (x + 1))
              case measure => omega
              case rel => exact ⟨x + 1, by go_num, by omega, HN, HR⟩
        · have HK := Lib.hid (show V = none from by rw [HVx.out, List.drop_eq_nil_of_le (by rw [Hrl.out]; omega)]; rfl)
          clear HVx
          have hb8 := hbx.out
          replace c0 := (hb8.cell (p := ⟨w.heap.size, 0, none⟩) m1).trans c0
          replace c1 := (hb8.cell (p := ⟨w.heap.size, 1, none⟩) m1).trans c1
          replace fz0 := (hb8.frozen (p := ⟨w.heap.size, 0, none⟩) m1).trans fz0
          replace fz1 := (hb8.frozen (p := ⟨w.heap.size, 1, none⟩) m1).trans fz1
          clear hb8
          go_wp2
          have r0 := World.cell?_setCell_same wx _ (.slice none 0 0) c0
          have s1 : ((wx.setCell ⟨w.heap.size, 0, none⟩ (.slice none 0 0)).cell? ⟨w.heap.size, 1, none⟩) = some (.slice none 0 0) := (World.cell?_setCell_other _ _ _ _ (by simp)).trans c1
          have r1 := World.cell?_setCell_same _ _ (.slice none 0 0) s1
          refine bodyPost_ret (v := .tuple #[.agg #[.slice none 0 0, .slice none 0 0], .bool false]) (by simp [results, Try.results23, go_sem, r0, r1]) rfl ?_
          exact ⟨_, by rw [HK.out]; rfl, by rw [HK.out]; exact New.none2 (by simp; have := (Abx.out).size; omega), ((Abx.out).setCell (p := ⟨w.heap.size, 0, none⟩) (Nat.le_refl _) _).setCell (p := ⟨w.heap.size, 1, none⟩) (Nat.le_refl _) _⟩
end Go.Proofs.Ytjgiobapdkdhpaa
