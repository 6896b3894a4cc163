/-
  Laws for this claim's walks, contracts of the functions that it reaches.
-/
import Derived.Test.YtcilgihmaaobeaaGreatDoorFnLabelsM33
set_option linter.unusedVariables false
set_option linter.unusedSimpArgs false
section
namespace Go.Proofs.YtcilgihmaaobeaaGreatDoor
open Go.RowKit Go.Deep Go.Sd
set_option linter.unusedSimpArgs false
set_option maxHeartbeats 4000000 in
set_option maxRecDepth 100000 in
theorem spec_ReadWords_c {w : World} {v : Value} {l : Lb} (h : LabR w v l) {nn : Int} (hI2 : I64 nn) :
    Calls Tryz.prog 19 #[v, .int .i64 nn] w (Makes OStrs w (rdwM l nn)) := by
  have H1 := Lib.hid (fun w1 (hb : Below w.heap.size w w1) => spec_IsLabels_c (LabR.frame _ _ _ _ h hb))
  have Hfr := Lib.hid (fun w1 (hb : Below w.heap.size w w1) => LabR.frame _ _ _ _ h hb)
  obtain ⟨T, hT⟩ : ∃ T, T = rdwM l nn := ⟨_, rfl⟩
  rw [← hT]
  have HT := Lib.hid hT
  clear hT hI2
  have Hok := Lib.hid (fun h => isLab_ok (l := l) h)
  have HF0 := Lib.hid (fun (h : isLab l = false) => (show rdwM l nn = [] from by unfold rdwM; rw [h]; rfl))
  generalize hil : isLab l = il at H1
  have Hil := Lib.hid hil
  clear hil
  obtain ⟨L, S, xs⟩ := l
  obtain ⟨_, rfl, -, a, c, rfl, -, -, -, -⟩ := h
  simp only at *
  generalize hn : xs.length = n at *
  clear hn
  obtain ⟨w1, e1⟩ : ∃ x, x = w.alloc (.cells #[.int .i64 L, .int .i64 S, .slice a n c] 26) := ⟨_, rfl⟩
  have A1 := Lib.hid (show Below w.heap.size w w1 from by rw [e1]; exact (Below.refl _ _).alloc (Nat.le_refl _) _)
  have c0 : w1.cell? ⟨w.heap.size, 0, none⟩ = some (.int .i64 L) := by rw [e1]; simp [go_sem]
  have c1 : w1.cell? ⟨w.heap.size, 1, none⟩ = some (.int .i64 S) := by rw [e1]; simp [go_sem]
  have c2 : w1.cell? ⟨w.heap.size, 2, none⟩ = some (.slice a n c) := by rw [e1]; simp [go_sem]
  have m1 : w.heap.size < w1.heap.size := by rw [e1]; simp
  have es := e1.symm
  clear e1
  have H0 := Lib.hid ((New.empty (e := 9) (R := OValR Value.string) w1 (Nat.le_refl _)))
  obtain ⟨w1b, e1b⟩ : ∃ x, x = w1.alloc (.cells #[] 9) := ⟨_, rfl⟩
  have hb0 : Below w1.heap.size w1 w1b := by rw [e1b]; exact (Below.refl _ _).alloc (Nat.le_refl _) _
  rw [← e1b] at H0
  have esb := e1b.symm
  replace c0 := (hb0.cell (p := ⟨w.heap.size, 0, none⟩) m1).trans c0
  replace c1 := (hb0.cell (p := ⟨w.heap.size, 1, none⟩) m1).trans c1
  replace c2 := (hb0.cell (p := ⟨w.heap.size, 2, none⟩) m1).trans c2
  have m2 : w.heap.size < w1b.heap.size := Nat.lt_of_lt_of_le m1 hb0.size
  have A2 := Lib.hid (A1.out.trans (hb0.mono A1.out.size))
  have hz10 := A1.out.size
  have hz1b := hb0.size
  clear e1b hb0
  have Hin2 := Lib.hid (fun w1 => l1In_c nn 0 6 w1)
  go_enter Tryz.func19, Tryz.ntmps19
  go_wp2_with fail
  refine (H1.out _ A2.out).mono ?_
  rintro e w2 ⟨rfl, hb1⟩
  replace c0 := (hb1.cell (p := ⟨w.heap.size, 0, none⟩) m2).trans c0
  replace c1 := (hb1.cell (p := ⟨w.heap.size, 1, none⟩) m2).trans c1
  replace c2 := (hb1.cell (p := ⟨w.heap.size, 2, none⟩) m2).trans c2
  replace m2 : w.heap.size < w2.heap.size := Nat.lt_of_lt_of_le m2 hb1.size
  have HN2 := Lib.hid (New.keep (OwnOf.kept OStr.kept) H0.out hb1 (Nat.le_refl _))
  have hz2 := hb1.size
  replace A2 := Lib.hid (A2.out.trans (hb1.mono A2.out.size))
  have hz3 := A2.out.size
  have Mw := Lib.hid m1
  clear hb1 es esb H1 H0 m1
  cases il with
  | false =>
    have HF := Lib.hid (show T = [] from by rw [HT.out]; exact HF0.out Hil.out)
    clear HT HF0 Hil Hok Hfr
    go_wp2
    go_ret
    exact ⟨_, rfl, by rw [HF.out]; exact HN2.out.mono hz10, A2.out⟩
  | true =>
  have Hil2 := Lib.hid (Hok.out Hil.out)
  clear Hok HF0
  obtain ⟨ho, hS1, hS2, hL1, hL2⟩ := Hil2.out
  by_cases hnn : ¬ (0 ≤ nn ∧ nn ≤ 6)
  · have HF := Lib.hid (show T = [] from by rw [HT.out]; unfold rdwM; rw [decide_eq_false (by omega)]; simp)
    have hin2 : (decide (0 ≤ nn) && decide (nn ≤ 6)) = false := by
      by_cases h0 : 0 ≤ nn
      · rw [decide_eq_true h0, decide_eq_false (by omega)]; rfl
      · rw [decide_eq_false h0]; rfl
    rw [hin2] at Hin2
    clear HT Hil Hil2 Hfr hin2 hnn ho hS1 hS2 hL1 hL2
    go_wp2_with fail
    refine (Hin2.out _).mono ?_
    rintro e w' ⟨rfl, rfl⟩
    go_wp2
    go_ret
    exact ⟨_, rfl, by rw [HF.out]; exact HN2.out.mono hz10, A2.out⟩
  have hin2 : (decide (0 ≤ nn) && decide (nn ≤ 6)) = true := by rw [decide_eq_true (by omega), decide_eq_true (by omega)]; rfl
  rw [hin2] at Hin2
  obtain ⟨N, rfl⟩ := Int.eq_ofNat_of_zero_le (show 0 ≤ L by omega)
  obtain ⟨k, rfl⟩ := Int.eq_ofNat_of_zero_le (show 0 ≤ nn by omega)
  have HT2 := Lib.hid (show T = ((allW N k).filter (rdwF xs S)).map wordT from by rw [HT.out]; unfold rdwM; rw [Hil.out, decide_eq_true (by omega)]; rfl)
  have HA := Lib.hid (fun w1 => l2All_c (w := w1) (L := N) (n := k) (by omega) (by omega) (by omega))
  have Hme := Lib.hid (fun wd (h : wd ∈ allW N k) => (show (wd.length ≤ 16 ∧ ∀ x, x ∈ wd → x < N) from by have h1 := allW_mem (show 0 < N by omega) h; exact ⟨by omega, h1.2⟩))
  have hlen : (allW N k).length ≤ 729 := by rw [allW_len (by omega)]; exact pow_le (by omega) (by omega)
  have HC := Lib.hid (fun w1 wd (hb : Below w.heap.size w w1) (h : wd ∈ allW N k) => (show Calls Tryz.prog 24 #[.agg #[.int .i64 (N : Int), .int .i64 S, .slice a n c], .string (wordT wd)] w1 fun e w' => e = .returned (.bool (rdwF xs S wd)) ∧ Below w1.heap.size w1 w' from by rw [← reads_all Hil.out (by omega) (by omega) (by omega) h]; exact spec_ReadsWord_c (Hfr.out w1 hb) (by rw [wordT_size]; have := (Hme.out wd h).1; unfold maxLen; omega)))
  generalize rdwF xs S = f at HT2 HC
  generalize allW N k = A at HT2 HA HC hlen
  clear HT Hil Hil2 ho Hfr hS1 hS2 hL1 hL2 hin2 hnn Hme
  go_wp2_with fail
  refine (Hin2.out _).mono ?_
  rintro e w' ⟨rfl, rfl⟩
  go_wp2_with fail
  refine (HA.out _).mono ?_
  rintro e w3 ⟨r, rfl, hn, hb⟩
  have hz13 : w1.heap.size ≤ w3.heap.size := Nat.le_trans (Nat.le_trans hz1b hz2) hb.size
  have hs3 := ((Sep.one (OwnOf.kept OStr.kept).held HN2.out).new (OwnOf.kept OStr.kept).held hb (by omega) hn).swap
  obtain ⟨ra, rc, er, _⟩ := hs3.swap.strsAt
  subst er
  rw [List.length_map] at hs3 ⊢
  have HS3 := Lib.hid hs3
  have A3 := Lib.hid (A2.out.trans (hb.mono hz3))
  have HB3 := Lib.hid (show Below w1.heap.size w2 w3 from hb.mono (by omega))
  replace c0 := (hb.cell (p := ⟨w.heap.size, 0, none⟩) m2).trans c0
  replace c1 := (hb.cell (p := ⟨w.heap.size, 1, none⟩) m2).trans c1
  replace c2 := (hb.cell (p := ⟨w.heap.size, 2, none⟩) m2).trans c2
  have K0 := Lib.hid c0
  have K1 := Lib.hid c1
  have K2 := Lib.hid c2
  have mw : w.heap.size < w1.heap.size := Mw.out
  clear hn hb hs3 HA Hin2 c0 c1 c2 HN2
  go_wp2
  go_loopg [5, 7] A.length (fun g s i wr => ∃ (j : Nat) (oa : Option Addr) (oc : Nat), s = .slice oa ((A.take j).filter f).length oc ∧ i = .int .i64 j ∧ j + g = A.length ∧ Hid (Sep w1.heap.size wr [Res.strs 9 (.slice oa ((A.take j).filter f).length oc) (((A.take j).filter f).map wordT), Res.strs 9 (.slice ra A.length rc) (A.map wordT)]) ∧ Hid (Below w1.heap.size w3 wr))
  case atStart => exact ⟨0, _, _, rfl, rfl, by omega, HS3, Lib.hid (Below.refl _ _)⟩
  case round =>
    clear HS3 HB3
    obtain ⟨j, oa, oc, rfl, rfl, hj, HS, HB⟩ := hrel
    obtain ⟨wj, rfl⟩ : ∃ x, x = wr := ⟨_, rfl⟩
    have hz := HB.out.size
    have AW := Lib.hid (A3.out.trans (HB.out.mono hz10))
    by_cases hjl : j < A.length
    · obtain ⟨wd, hwd, _⟩ := at_lt hjl
      obtain ⟨_, _, hv, hq⟩ := HS.out.swap.strsAt
      obtain ⟨b, e1, hb, hc⟩ := hq (by simp; omega)
      simp at hv
      obtain ⟨rfl, rfl⟩ := hv
      subst e1
      have g0 := hc j (wordT wd) (by simp [hwd])
      have c0 := (HB.out.cell (p := ⟨w.heap.size, 0, none⟩) mw).trans K0.out
      have c1 := (HB.out.cell (p := ⟨w.heap.size, 1, none⟩) mw).trans K1.out
      have c2 := (HB.out.cell (p := ⟨w.heap.size, 2, none⟩) mw).trans K2.out
      have C1 := Lib.hid (fun w1 (h : Below w.heap.size w w1) => HC.out w1 wd h (List.mem_of_getElem? hwd))
      have HT := Lib.hid (show (A.take (j + 1)).filter f = (A.take j).filter f ++ (if f wd = true then [wd] else []) from by rw [← take_snoc' hwd, List.filter_append]; congr 1; simp [List.filter_cons])
      have hfl : ((A.take j).filter f).length ≤ 729 := Nat.le_trans (List.length_filter_le _ _) (by simp; omega)
      generalize hfn : (A.take j).filter f = fl at HS HT hfl ⊢
      generalize f wd = fb at C1 HT
      have hji : (j : Int) < (A.length : Int) := by omega
      have hS0 : wj.cell? ⟨w.heap.size, 0, none⟩ = some (.int .i64 (N : Int)) ∧ wj.cell? ⟨w.heap.size, 1, none⟩ = some (.int .i64 S) ∧ wj.cell? ⟨w.heap.size, 2, none⟩ = some (.slice a n c) ∧ wj.cell? ⟨b, j, none⟩ = some (.string (wordT wd)) := ⟨c0, c1, c2, g0⟩
      have hSd : wj.drew.cell? ⟨w.heap.size, 0, none⟩ = some (.int .i64 (N : Int)) ∧ wj.drew.cell? ⟨w.heap.size, 1, none⟩ = some (.int .i64 S) ∧ wj.drew.cell? ⟨w.heap.size, 2, none⟩ = some (.slice a n c) ∧ wj.drew.cell? ⟨b, j, none⟩ = some (.string (wordT wd)) := hS0
      have m4 : w.heap.size < wj.heap.size := by omega
      have HSS := Lib.hid (fun (w' : World) (hb3 : Below wj.heap.size wj w') => (show w'.cell? ⟨w.heap.size, 0, none⟩ = some (.int .i64 (N : Int)) ∧ w'.cell? ⟨w.heap.size, 1, none⟩ = some (.int .i64 S) ∧ w'.cell? ⟨w.heap.size, 2, none⟩ = some (.slice a n c) ∧ w'.cell? ⟨b, j, none⟩ = some (.string (wordT wd)) from ⟨(hb3.cell (p := ⟨w.heap.size, 0, none⟩) m4).trans hS0.1, (hb3.cell (p := ⟨w.heap.size, 1, none⟩) m4).trans hS0.2.1, (hb3.cell (p := ⟨w.heap.size, 2, none⟩) m4).trans hS0.2.2.1, (hb3.cell (p := ⟨b, j, none⟩) hb).trans hS0.2.2.2⟩))
      have B1 := (Below.refl wj.heap.size wj).drew
      have AW1 := AW.out.trans (B1.mono AW.out.size)
      clear hwd hq hc g0 c0 c1 c2 hfn
      go_wp2
      go_region_held3 (fun w' => w'.cell? ⟨w.heap.size, 0, none⟩ = some (.int .i64 (N : Int)) ∧ w'.cell? ⟨w.heap.size, 1, none⟩ = some (.int .i64 S) ∧ w'.cell? ⟨w.heap.size, 2, none⟩ = some (.slice a n c) ∧ w'.cell? ⟨b, j, none⟩ = some (.string (wordT wd)))
        (first | with_reducible exact hS1 | with_reducible exact hSd | with_reducible exact hS0 | go_keep)
        ((first
          | (go_at_call 24; (with_reducible refine (C1.out _ AW1).mono ?_); rintro e w4 ⟨rfl, hb⟩; have B2 := B1.trans (hb.mono B1.size); have hS1 := HSS.out _ B2; clear hb)
          | fail))
      have g4 := hS1.2.2.2
      have hz4 := B2.size
      have HB4 := Lib.hid (HB.out.trans (B2.mono (by omega)))
      have HS4 := Lib.hid (HS.out.below B2 (Nat.le_refl _))
      have hlo4 : w1.heap.size ≤ w4.heap.size := by omega
      have hb4 : b < w4.heap.size := by omega
      clear hS0 hSd HSS B1 B2 AW1 hS1 HS HB AW C1
      cases fb with
      | true =>
        have HT2' := Lib.hid (show (A.take (j + 1)).filter f = fl ++ [wd] from by rw [HT.out]; simp)
        obtain ⟨v', w5, hr, hs5, hb5⟩ := Sep.push (P := Tryz.prog) OStr.kept 29 29 (.string ⟨#[]⟩) 16 Tryz.underlying29 infoStr rfl HS4.out hlo4 (w1 := w4.alloc (.cells #[.string (wordT wd)] 9)) ((Below.refl _ _).alloc (Nat.le_refl _) _) (q := .string (wordT wd)) (x := wordT wd) ⟨[], ⟨rfl, rfl⟩, by simp [Fresh]⟩ (bb := w4.heap.size) (c := 1) (World.cell?_alloc_at _ _ _ 0 rfl) (by simp; omega) (by simp; omega)
        obtain ⟨a', c', ev, _⟩ := hs5.strsAt
        subst ev
        have e5 : (fl.map wordT ++ [wordT wd]).length = (fl ++ [wd]).length := by simp
        have e6 : fl.map wordT ++ [wordT wd] = (fl ++ [wd]).map wordT := by simp
        have e7 : (fl ++ [wd]).length = fl.length + 1 := by simp
        rw [e5, e6, e7] at hs5
        rw [e5, e7] at hr
        have HS5 := Lib.hid hs5
        have HB5 := Lib.hid (HB4.out.trans hb5)
        have Hr := Lib.hid hr
        have E7 := Lib.hid e7
        clear HT hs5 hr hb5 e5 e6 e7 HS4 HB4
        go_wp2_with (first
          | (at_builtin; refine wpl_append_run rfl (.tmp 34) (.tmp 39) 29 rfl rfl rfl Hr.out ?_)
          | fail)
        go_roundg (A.length - (j + 1))
        case measure => omega
        case rel => exact ⟨j + 1, _, _, by rw [HT2'.out, E7.out], by go_num, by omega, by rw [HT2'.out, E7.out]; exact HS5, HB5⟩
      | false =>
        have HT2' := Lib.hid (show (A.take (j + 1)).filter f = fl from by rw [HT.out]; simp)
        clear HT
        go_wp2
        go_roundg (A.length - (j + 1))
        case measure => omega
        case rel => exact ⟨j + 1, _, _, by rw [HT2'.out], by go_num, by omega, by rw [HT2'.out]; exact HS4, HB4⟩
    · have HR := Lib.hid (show New OStrs w1.heap.size wj (.slice oa ((A.take j).filter f).length oc) T from by have h := HS.out.headNew; rw [HT2.out]; rw [List.take_of_length_le (by omega)] at h ⊢; exact h)
      have hji : ¬ ((j : Int) < (A.length : Int)) := by omega
      generalize ((A.take j).filter f).length = q at HR ⊢
      clear HB HS
      go_wp2
      go_ret
      exact ⟨_, rfl, HR.out.mono hz10, AW.out⟩
end Go.Proofs.YtcilgihmaaobeaaGreatDoor
end
