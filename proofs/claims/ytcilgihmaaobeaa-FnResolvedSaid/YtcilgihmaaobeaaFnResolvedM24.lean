/-
  Texts of this claim joined: laws for its walks, contracts of the functions that the law reaches.
-/
import Derived.Test.YtcilgihmaaobeaaRows
import Derived.Test.YtcilgihmaaobeaaFnResolvedM1
import Derived.Test.YtcilgihmaaobeaaFnResolvedM2
import Derived.Test.YtcilgihmaaobeaaFnResolvedM3
import Derived.Test.YtcilgihmaaobeaaFnResolvedM4
import Derived.Test.YtcilgihmaaobeaaFnResolvedM9
import Derived.Test.YtcilgihmaaobeaaFnResolvedM10
import Derived.Test.YtcilgihmaaobeaaFnResolvedM5
import Derived.Test.YtcilgihmaaobeaaFnResolvedM19
import Derived.IntWalk
import Derived.Deep.RegionHeld3
import Derived.Deep.DeepCutAuto
import Derived.Test.YtcilgihmaaobeaaFnResolvedM23
import Derived.Test.YtcilgihmaaobeaaFnResolvedM7
import Derived.Test.YtcilgihmaaobeaaFnResolvedM15
import Derived.Test.YtcilgihmaaobeaaFnResolvedM16
import Derived.Test.YtcilgihmaaobeaaFnResolvedM20
import Derived.Test.YtcilgihmaaobeaaFnResolvedM11
import Derived.Test.YtcilgihmaaobeaaFnResolvedM18
import Derived.Test.YtcilgihmaaobeaaFnResolvedM12
import Derived.Test.YtcilgihmaaobeaaFnResolvedM14
import Derived.Test.YtcilgihmaaobeaaFnResolvedM6
set_option linter.unusedVariables false
set_option linter.unusedSimpArgs false
section
namespace Go.Proofs.Ytcilgihmaaobeaa
open Go.RowKit Go.Deep Go.Sd
set_option linter.unusedSimpArgs false
set_option maxHeartbeats 4000000 in
set_option maxRecDepth 100000 in
theorem spec_ReadWords_c {w : World} {v : Value} {l : Lb} (h : LabR w v l) {nn : Int} (hI2 : I64 nn) :
    Calls Try.prog 25 #[v, .int .i64 nn] w (Makes OStrs w (rdwM l nn)) := by
  have H1 := Lib.hid (fun w1 (hb : Below w.heap.size w w1) => spec_IsLabels_c (LabR.frame _ _ _ _ h hb))
  have Hfr := Lib.hid (fun w1 (hb : Below w.heap.size w w1) => LabR.frame _ _ _ _ h hb)
  obtain ⟨T, hT⟩ : ∃ T, T = rdwM l nn := ⟨_, rfl⟩
  rw [← hT]
  have HT := Lib.hid hT
  clear hT hI2
  have Hok := Lib.hid (fun h => isLab_ok (l := l) h)
  have HF0 := Lib.hid (fun (h : isLab l = false) => (show rdwM l nn = [] from by unfold rdwM; rw [h]; rfl))
  generalize hil : isLab l = il at H1
  have Hil := Lib.hid hil
  clear hil
  obtain ⟨L, S, xs⟩ := l
  obtain ⟨_, rfl, -, a, c, rfl, -, -, -, -⟩ := h
  simp only at *
  generalize hn : xs.length = n at *
  clear hn
  obtain ⟨w1, e1⟩ : ∃ x, x = w.alloc (.cells #[.int .i64 L, .int .i64 S, .slice a n c] 26) := ⟨_, rfl⟩
  have A1 := Lib.hid (show Below w.heap.size w w1 from by rw [e1]; exact (Below.refl _ _).alloc (Nat.le_refl _) _)
  have c0 : w1.cell? ⟨w.heap.size, 0, none⟩ = some (.int .i64 L) := by rw [e1]; simp [go_sem]
  have c1 : w1.cell? ⟨w.heap.size, 1, none⟩ = some (.int .i64 S) := by rw [e1]; simp [go_sem]
  have c2 : w1.cell? ⟨w.heap.size, 2, none⟩ = some (.slice a n c) := by rw [e1]; simp [go_sem]
  have m1 : w.heap.size < w1.heap.size := by rw [e1]; simp
  have es := e1.symm
  clear e1
  have H0 := Lib.hid ((New.empty (e := 9) (R := OValR Value.string) w1 (Nat.le_refl _)))
  obtain ⟨w1b, e1b⟩ : ∃ x, x = w1.alloc (.cells #[] 9) := ⟨_, rfl⟩
  have hb0 : Below w1.heap.size w1 w1b := by rw [e1b]; exact (Below.refl _ _).alloc (Nat.le_refl _) _
  rw [← e1b] at H0
  have esb := e1b.symm
  replace c0 := (hb0.cell (p := ⟨w.heap.size, 0, none⟩) m1).trans c0
  replace c1 := (hb0.cell (p := ⟨w.heap.size, 1, none⟩) m1).trans c1
  replace c2 := (hb0.cell (p := ⟨w.heap.size, 2, none⟩) m1).trans c2
  have m2 : w.heap.size < w1b.heap.size := Nat.lt_of_lt_of_le m1 hb0.size
  have A2 := Lib.hid (A1.out.trans (hb0.mono A1.out.size))
  have hz10 := A1.out.size
  have hz1b := hb0.size
  clear e1b hb0
  have Hin2 := Lib.hid (fun w1 => l1In_c nn 0 6 w1)
  go_enter Try.func25, Try.ntmps25
  go_wp2_with fail
  refine (H1.out _ A2.out).mono ?_
  rintro e w2 ⟨rfl, hb1⟩
  replace c0 := (hb1.cell (p := ⟨w.heap.size, 0, none⟩) m2).trans c0
  replace c1 := (hb1.cell (p := ⟨w.heap.size, 1, none⟩) m2).trans c1
  replace c2 := (hb1.cell (p := ⟨w.heap.size, 2, none⟩) m2).trans c2
  replace m2 : w.heap.size < w2.heap.size := Nat.lt_of_lt_of_le m2 hb1.size
  have HN2 := Lib.hid (New.keep (OwnOf.kept OStr.kept) H0.out hb1 (Nat.le_refl _))
  have hz2 := hb1.size
  replace A2 := Lib.hid (A2.out.trans (hb1.mono A2.out.size))
  have hz3 := A2.out.size
  have Mw := Lib.hid m1
  clear hb1 es esb H1 H0 m1
  cases il with
  | false =>
    have HF := Lib.hid (show T = [] from by rw [HT.out]; exact HF0.out Hil.out)
    clear HT HF0 Hil Hok Hfr
    go_wp2
    go_ret
    exact ⟨_, rfl, by rw [HF.out]; exact HN2.out.mono hz10, A2.out⟩
  | true =>
  have Hil2 := Lib.hid (Hok.out Hil.out)
  clear Hok HF0
  obtain ⟨ho, hS1, hS2, hL1, hL2⟩ := Hil2.out
  by_cases hnn : ¬ (0 ≤ nn ∧ nn ≤ 6)
  · have HF := Lib.hid (show T = [] from by rw [HT.out]; unfold rdwM; rw [decide_eq_false (by omega)]; simp)
    have hin2 : (decide (0 ≤ nn) && decide (nn ≤ 6)) = false := by
      by_cases h0 : 0 ≤ nn
      · rw [decide_eq_true h0, decide_eq_false (by omega)]; rfl
      · rw [decide_eq_false h0]; rfl
    rw [hin2] at Hin2
    clear HT Hil Hil2 Hfr hin2 hnn ho hS1 hS2 hL1 hL2
    go_wp2_with fail
    refine (Hin2.out _).mono ?_
    rintro e w' ⟨rfl, rfl⟩
    go_wp2
    go_ret
    exact ⟨_, rfl, by rw [HF.out]; exact HN2.out.mono hz10, A2.out⟩
  have hin2 : (decide (0 ≤ nn) && decide (nn ≤ 6)) = true := by rw [decide_eq_true (by omega), decide_eq_true (by omega)]; rfl
  rw [hin2] at Hin2
  obtain ⟨N, rfl⟩ := Int.eq_ofNat_of_zero_le (show 0 ≤ L by omega)
  obtain ⟨k, rfl⟩ := Int.eq_ofNat_of_zero_le (show 0 ≤ nn by omega)
  have HT2 := Lib.hid (show T = ((allW N k).filter (rdwF xs S)).map wordT from by rw [HT.out]; unfold rdwM; rw [Hil.out, decide_eq_true (by omega)]; rfl)
  have HA := Lib.hid (fun w1 => l2All_c (w := w1) (L := N) (n := k) (by omega) (by omega) (by omega))
  have Hme := Lib.hid (fun wd (h : wd ∈ allW N k) => (show (wd.length ≤ 16 ∧ ∀ x, x ∈ wd → x < N) from by have h1 := allW_mem (show 0 < N by omega) h; exact ⟨by omega, h1.2⟩))
  have hlen : (allW N k).length ≤ 729 := by rw [allW_len (by omega)]; exact pow_le (by omega) (by omega)
  have HC := Lib.hid (fun w1 wd (hb : Below w.heap.size w w1) (h : wd ∈ allW N k) => (show Calls Try.prog 61 #[.agg #[.int .i64 (N : Int), .int .i64 S, .slice a n c], .string (wordT wd)] w1 fun e w' => e = .returned (.bool (rdwF xs S wd)) ∧ Below w1.heap.size w1 w' from by rw [← reads_all Hil.out (by omega) (by omega) (by omega) h]; exact spec_ReadsWord_c (Hfr.out w1 hb) (by rw [wordT_size]; have := (Hme.out wd h).1; unfold maxLen; omega)))
  generalize rdwF xs S = f at HT2 HC
  generalize allW N k = A at HT2 HA HC hlen
  clear HT Hil Hil2 ho Hfr hS1 hS2 hL1 hL2 hin2 hnn Hme
  go_wp2_with fail
  refine (Hin2.out _).mono ?_
  rintro e w' ⟨rfl, rfl⟩
  go_wp2_with fail
  refine (HA.out _).mono ?_
  rintro e w3 ⟨r, rfl, hn, hb⟩
  have hz13 : w1.heap.size ≤ w3.heap.size := Nat.le_trans (Nat.le_trans hz1b hz2) hb.size
  have hs3 := ((Sep.one (OwnOf.kept OStr.kept).held HN2.out).new (OwnOf.kept OStr.kept).held hb (by omega) hn).swap
  obtain ⟨ra, rc, er, _⟩ := hs3.swap.strsAt
  subst er
  rw [List.length_map] at hs3 ⊢
  have HS3 := Lib.hid hs3
  have A3 := Lib.hid (A2.out.trans (hb.mono hz3))
  have HB3 := Lib.hid (show Below w1.heap.size w2 w3 from hb.mono (by omega))
  replace c0 := (hb.cell (p := ⟨w.heap.size, 0, none⟩) m2).trans c0
  replace c1 := (hb.cell (p := ⟨w.heap.size, 1, none⟩) m2).trans c1
  replace c2 := (hb.cell (p := ⟨w.heap.size, 2, none⟩) m2).trans c2
  have K0 := Lib.hid c0
  have K1 := Lib.hid c1
  have K2 := Lib.hid c2
  have mw : w.heap.size < w1.heap.size := Mw.out
  clear hn hb hs3 HA Hin2 c0 c1 c2 HN2
  go_wp2
  go_loopg [5, 7] A.length (fun g s i wr => ∃ (j : Nat) (oa : Option Addr) (oc : Nat), s = .slice oa ((A.take j).filter f).length oc ∧ i = .int .i64 j ∧ j + g = A.length ∧ Hid (Sep w1.heap.size wr [Res.strs 9 (.slice oa ((A.take j).filter f).length oc) (((A.take j).filter f).map wordT), Res.strs 9 (.slice ra A.length rc) (A.map wordT)]) ∧ Hid (Below w1.heap.size w3 wr))
  case atStart => exact ⟨0, _, _, rfl, rfl, by omega, HS3, Lib.hid (Below.refl _ _)⟩
  case round =>
    clear HS3 HB3
    obtain ⟨j, oa, oc, rfl, rfl, hj, HS, HB⟩ := hrel
    obtain ⟨wj, rfl⟩ : ∃ x, x = wr := ⟨_, rfl⟩
    have hz := HB.out.size
    have AW := Lib.hid (A3.out.trans (HB.out.mono hz10))
    by_cases hjl : j < A.length
    · obtain ⟨wd, hwd, _⟩ := at_lt hjl
      obtain ⟨_, _, hv, hq⟩ := HS.out.swap.strsAt
      obtain ⟨b, e1, hb, hc⟩ := hq (by simp; omega)
      simp at hv
      obtain ⟨rfl, rfl⟩ := hv
      subst e1
      have g0 := hc j (wordT wd) (by simp [hwd])
      have c0 := (HB.out.cell (p := ⟨w.heap.size, 0, none⟩) mw).trans K0.out
      have c1 := (HB.out.cell (p := ⟨w.heap.size, 1, none⟩) mw).trans K1.out
      have c2 := (HB.out.cell (p := ⟨w.heap.size, 2, none⟩) mw).trans K2.out
      have C1 := Lib.hid (fun w1 (h : Below w.heap.size w w1) => HC.out w1 wd h (List.mem_of_getElem? hwd))
      have HT := Lib.hid (show (A.take (j + 1)).filter f = (A.take j).filter f ++ (if f wd = true then [wd] else []) from by rw [← take_snoc' hwd, List.filter_append]; congr 1; simp [List.filter_cons])
      have hfl : ((A.take j).filter f).length ≤ 729 := Nat.le_trans (List.length_filter_le _ _) (by simp; omega)
      generalize hfn : (A.take j).filter f = fl at HS HT hfl ⊢
      generalize f wd = fb at C1 HT
      have hji : (j : Int) < (A.length : Int) := by omega
      have hS0 : wj.cell? ⟨w.heap.size, 0, none⟩ = some (.int .i64 (N : Int)) ∧ wj.cell? ⟨w.heap.size, 1, none⟩ = some (.int .i64 S) ∧ wj.cell? ⟨w.heap.size, 2, none⟩ = some (.slice a n c) ∧ wj.cell? ⟨b, j, none⟩ = some (.string (wordT wd)) := ⟨c0, c1, c2, g0⟩
      have hSd : wj.drew.cell? ⟨w.heap.size, 0, none⟩ = some (.int .i64 (N : Int)) ∧ wj.drew.cell? ⟨w.heap.size, 1, none⟩ = some (.int .i64 S) ∧ wj.drew.cell? ⟨w.heap.size, 2, none⟩ = some (.slice a n c) ∧ wj.drew.cell? ⟨b, j, none⟩ = some (.string (wordT wd)) := hS0
      have m4 : w.heap.size < wj.heap.size := by omega
      have HSS := Lib.hid (fun (w' : World) (hb3 : Below wj.heap.size wj w') => (show w'.cell? ⟨w.heap.size, 0, none⟩ = some (.int .i64 (N : Int)) ∧ w'.cell? ⟨w.heap.size, 1, none⟩ = some (.int .i64 S) ∧ w'.cell? ⟨w.heap.size, 2, none⟩ = some (.slice a n c) ∧ w'.cell? ⟨b, j, none⟩ = some (.string (wordT wd)) from ⟨(hb3.cell (p := ⟨w.heap.size, 0, none⟩) m4).trans hS0.1, (hb3.cell (p := ⟨w.heap.size, 1, none⟩) m4).trans hS0.2.1, (hb3.cell (p := ⟨w.heap.size, 2, none⟩) m4).trans hS0.2.2.1, (hb3.cell (p := ⟨b, j, none⟩) hb).trans hS0.2.2.2⟩))
      have B1 := (Below.refl wj.heap.size wj).drew
      have AW1 := AW.out.trans (B1.mono AW.out.size)
      clear hwd hq hc g0 c0 c1 c2 hfn
      go_wp2
      go_region_held3 (fun w' => w'.cell? ⟨w.heap.size, 0, none⟩ = some (.int .i64 (N : Int)) ∧ w'.cell? ⟨w.heap.size, 1, none⟩ = some (.int .i64 S) ∧ w'.cell? ⟨w.heap.size, 2, none⟩ = some (.slice a n c) ∧ w'.cell? ⟨b, j, none⟩ = some (.string (wordT wd)))
        (first | with_reducible exact hS1 | with_reducible exact hSd | with_reducible exact hS0 | go_keep)
        ((first
          | (go_at_call 61; (with_reducible refine (C1.out _ AW1).mono ?_); rintro e w4 ⟨rfl, hb⟩; have B2 := B1.trans (hb.mono B1.size); have hS1 := HSS.out _ B2; clear hb)
          | fail))
      have g4 := hS1.2.2.2
      have hz4 := B2.size
      have HB4 := Lib.hid (HB.out.trans (B2.mono (by omega)))
      have HS4 := Lib.hid (HS.out.below B2 (Nat.le_refl _))
      have hlo4 : w1.heap.size ≤ w4.heap.size := by omega
      have hb4 : b < w4.heap.size := by omega
      clear hS0 hSd HSS B1 B2 AW1 hS1 HS HB AW C1
      cases fb with
      | true =>
        have HT2' := Lib.hid (show (A.take (j + 1)).filter f = fl ++ [wd] from by rw [HT.out]; simp)
        obtain ⟨v', w5, hr, hs5, hb5⟩ := Sep.push (P := Try.prog) OStr.kept 36 36 (.string ⟨#[]⟩) 16 Try.underlying36 infoStr rfl HS4.out hlo4 (w1 := w4.alloc (.cells #[.string (wordT wd)] 9)) ((Below.refl _ _).alloc (Nat.le_refl _) _) (q := .string (wordT wd)) (x := wordT wd) ⟨[], ⟨rfl, rfl⟩, by simp [Fresh]⟩ (bb := w4.heap.size) (c := 1) (World.cell?_alloc_at _ _ _ 0 rfl) (by simp; omega) (by simp; omega)
        obtain ⟨a', c', ev, _⟩ := hs5.strsAt
        subst ev
        have e5 : (fl.map wordT ++ [wordT wd]).length = (fl ++ [wd]).length := by simp
        have e6 : fl.map wordT ++ [wordT wd] = (fl ++ [wd]).map wordT := by simp
        have e7 : (fl ++ [wd]).length = fl.length + 1 := by simp
        rw [e5, e6, e7] at hs5
        rw [e5, e7] at hr
        have HS5 := Lib.hid hs5
        have HB5 := Lib.hid (HB4.out.trans hb5)
        have Hr := Lib.hid hr
        have E7 := Lib.hid e7
        clear HT hs5 hr hb5 e5 e6 e7 HS4 HB4
        go_wp2_with (first
          | (at_builtin; refine wpl_append_run rfl (.tmp 34) (.tmp 39) 36 rfl rfl rfl Hr.out ?_)
          | fail)
        go_roundg (A.length - (j + 1))
        case measure => omega
        case rel => exact ⟨j + 1, _, _, by rw [HT2'.out, E7.out], by go_num, by omega, by rw [HT2'.out, E7.out]; exact HS5, HB5⟩
      | false =>
        have HT2' := Lib.hid (show (A.take (j + 1)).filter f = fl from by rw [HT.out]; simp)
        clear HT
        go_wp2
        go_roundg (A.length - (j + 1))
        case measure => omega
        case rel => exact ⟨j + 1, _, _, by rw [HT2'.out], by go_num, by omega, by rw [HT2'.out]; exact HS4, HB4⟩
    · have HR := Lib.hid (show New OStrs w1.heap.size wj (.slice oa ((A.take j).filter f).length oc) T from by have h := HS.out.headNew; rw [HT2.out]; rw [List.take_of_length_le (by omega)] at h ⊢; exact h)
      have hji : ¬ ((j : Int) < (A.length : Int)) := by omega
      generalize ((A.take j).filter f).length = q at HR ⊢
      clear HB HS
      go_wp2
      go_ret
      exact ⟨_, rfl, HR.out.mono hz10, AW.out⟩
end Go.Proofs.Ytcilgihmaaobeaa
end

section
namespace Go.Proofs.Ytcilgihmaaobeaa
open Go.RowKit Go.Deep Go.Sd
noncomputable def redM (l : Lb) : Bool := resolvM l && decide ((smV l).2.1 = l.2.1)
end Go.Proofs.Ytcilgihmaaobeaa
end

section
namespace Go.Proofs.Ytcilgihmaaobeaa
open Go.RowKit Go.Deep Go.Sd
set_option linter.unusedSimpArgs false
set_option maxHeartbeats 2000000 in
set_option maxRecDepth 100000 in
theorem impl_IsReduced_c {w : World} {v : Value} {l : Lb} (h : LabR w v l) :
    Calls Try.prog 22 #[v] w fun e w' => e = .returned (.bool (redM l)) ∧ Below w.heap.size w w' := by
  have H1 := Lib.hid (fun w1 (hb : Below w.heap.size w w1) => impl_SmallestLabels_c (LabR.frame _ _ _ _ h hb))
  have HR := Lib.hid (show redM l = (resolvM l && decide ((smV l).2.1 = l.2.1)) from rfl)
  generalize redM l = T at HR ⊢
  generalize resolvM l = ok at H1 HR
  generalize smV l = V at H1 HR
  obtain ⟨L, S, xs⟩ := l
  obtain ⟨vL, vS, vxs⟩ := V
  obtain ⟨_, rfl, -, a, c, rfl, -, -, -, -⟩ := h
  simp only at *
  generalize xs.length = n at *
  obtain ⟨w1, e1, A0, c0, c1, c2, m1⟩ := boxA3_ex w 26 (.int .i64 L) (.int .i64 S) (.slice a n c)
  have A1 := Lib.hid A0
  clear A0
  go_enter Try.func22, Try.ntmps22
  go_wp2_with fail
  refine (H1.out _ A1.out).mono ?_
  rintro e w2 ⟨r, rfl, hn, hb⟩
  obtain ⟨ra, rn, rc, er⟩ := hn.labAgg
  simp only at er
  subst er
  replace c1 := (hb.cell (p := ⟨w.heap.size, 1, none⟩) m1).trans c1
  have A2 := Lib.hid (A1.out.trans (hb.mono A1.out.size))
  have m2 : w.heap.size < w2.heap.size := Nat.lt_of_lt_of_le m1 hb.size
  obtain ⟨w3, e3, B0, d0, d1, d2, m3⟩ := boxA3_ex w2 26 (.int .i64 vL) (.int .i64 vS) (.slice ra rn rc)
  replace c1 := (B0.cell (p := ⟨w.heap.size, 1, none⟩) m2).trans c1
  have A3 := Lib.hid (A2.out.trans (B0.mono (by omega)))
  clear hn hb B0 A1 A2 H1 e1 c0 c2 d0 d2
  cases ok with
  | false =>
    have HF := Lib.hid (show T = false from by rw [HR.out]; rfl)
    clear HR
    go_wp2
    go_ret
    exact ⟨by rw [HF.out]; rfl, A3.out⟩
  | true =>
    by_cases hs : vS = S
    · have HF := Lib.hid (show T = true from by rw [HR.out, decide_eq_true hs]; rfl)
      have hq : (vS == S) = true := by rw [beq_iff_eq]; exact hs
      clear HR hs
      go_wp2
      go_ret
      exact ⟨by rw [HF.out]; first | rfl | simp, A3.out⟩
    · have HF := Lib.hid (show T = false from by rw [HR.out, decide_eq_false hs]; rfl)
      have hq : (vS == S) = false := by rw [beq_eq_false_iff_ne]; exact hs
      clear HR hs
      go_wp2
      go_ret
      exact ⟨by rw [HF.out]; first | rfl | simp, A3.out⟩
set_option maxHeartbeats 2000000 in
set_option maxRecDepth 100000 in
theorem spec_IsReduced_c {w : World} {v : Value} {l : Lb} (h : LabR w v l) :
    Calls Try.prog 23 #[v] w fun e w' => e = .returned (.bool (redM l)) ∧ Below w.heap.size w w' := by
  have H1 := Lib.hid (fun w1 (hb : Below w.heap.size w w1) => spec_SmallestLabels_c (LabR.frame _ _ _ _ h hb))
  have HR := Lib.hid (show redM l = (resolvM l && decide ((smV l).2.1 = l.2.1)) from rfl)
  generalize redM l = T at HR ⊢
  generalize resolvM l = ok at H1 HR
  generalize smV l = V at H1 HR
  obtain ⟨L, S, xs⟩ := l
  obtain ⟨vL, vS, vxs⟩ := V
  obtain ⟨_, rfl, -, a, c, rfl, -, -, -, -⟩ := h
  simp only at *
  generalize xs.length = n at *
  obtain ⟨w1, e1, A0, c0, c1, c2, m1⟩ := boxA3_ex w 26 (.int .i64 L) (.int .i64 S) (.slice a n c)
  have A1 := Lib.hid A0
  clear A0
  go_enter Try.func23, Try.ntmps23
  go_wp2_with fail
  refine (H1.out _ A1.out).mono ?_
  rintro e w2 ⟨r, rfl, hn, hb⟩
  obtain ⟨ra, rn, rc, er⟩ := hn.labAgg
  simp only at er
  subst er
  replace c1 := (hb.cell (p := ⟨w.heap.size, 1, none⟩) m1).trans c1
  have A2 := Lib.hid (A1.out.trans (hb.mono A1.out.size))
  have m2 : w.heap.size < w2.heap.size := Nat.lt_of_lt_of_le m1 hb.size
  obtain ⟨w3, e3, B0, d0, d1, d2, m3⟩ := boxA3_ex w2 26 (.int .i64 vL) (.int .i64 vS) (.slice ra rn rc)
  replace c1 := (B0.cell (p := ⟨w.heap.size, 1, none⟩) m2).trans c1
  have A3 := Lib.hid (A2.out.trans (B0.mono (by omega)))
  clear hn hb B0 A1 A2 H1 e1 c0 c2 d0 d2
  cases ok with
  | false =>
    have HF := Lib.hid (show T = false from by rw [HR.out]; rfl)
    clear HR
    go_wp2
    go_ret
    exact ⟨by rw [HF.out]; rfl, A3.out⟩
  | true =>
    by_cases hs : vS = S
    · have HF := Lib.hid (show T = true from by rw [HR.out, decide_eq_true hs]; rfl)
      have hq : (vS == S) = true := by rw [beq_iff_eq]; exact hs
      clear HR hs
      go_wp2
      go_ret
      exact ⟨by rw [HF.out]; first | rfl | simp, A3.out⟩
    · have HF := Lib.hid (show T = false from by rw [HR.out, decide_eq_false hs]; rfl)
      have hq : (vS == S) = false := by rw [beq_eq_false_iff_ne]; exact hs
      clear HR hs
      go_wp2
      go_ret
      exact ⟨by rw [HF.out]; first | rfl | simp, A3.out⟩
end Go.Proofs.Ytcilgihmaaobeaa
end

section
namespace Go.Proofs.Ytcilgihmaaobeaa
open Go.RowKit Go.Deep Go.Sd
theorem posS_pre {sets : List Nat} {t : Nat} (h : t = 0 ∨ t ∈ sets) (u : List Nat) : posS (sets ++ u) t = posS sets t := by
  unfold posS
  by_cases e : t = 0
  · rw [if_pos e, if_pos e]
  · rw [if_neg e, if_neg e]
    rcases h with h | h
    · exact absurd h e
    · rw [List.idxOf_append, if_pos h]
theorem idxOf_no {x : Nat} : ∀ {l : List Nat}, x ∉ l → l.idxOf x = l.length
  | [], _ => rfl
  | y :: l, h => by
    have h1 : y ≠ x := fun e => h (by simp [e])
    have h2 : x ∉ l := fun e => h (by simp [e])
    rw [List.idxOf_cons, idxOf_no h2, show (y == x) = false by simpa using h1]
    rfl
theorem addS_has (sets : List Nat) (t : Nat) : t = 0 ∨ t ∈ addS sets t := by
  unfold addS
  by_cases e : t = 0 ∨ t ∈ sets
  · rw [if_pos e]; exact e
  · rw [if_neg e]; exact Or.inr (by simp)
theorem posS_add (sets : List Nat) (t : Nat) : posS (addS sets t) t = posS sets t := by
  unfold addS
  by_cases e : t = 0 ∨ t ∈ sets
  · rw [if_pos e]
  · rw [if_neg e]
    rw [not_or] at e
    unfold posS
    rw [if_neg e.1, if_neg e.1, List.idxOf_append, if_neg e.2, idxOf_no e.2]
    simp
section
variable {A : List Arc3}
theorem rowS_spec (s : Nat) : ∀ (n x : Nat) (sets : List Nat) (row : List Int), ∃ u, (rowS A s n x sets row).1 = sets ++ u ∧ (∀ t, t ∈ u → ∃ y, x ≤ y ∧ y < x + n ∧ t = stepN A s (y : Int)) ∧
    (∀ y, x ≤ y → y < x + n → stepN A s (y : Int) = 0 ∨ stepN A s (y : Int) ∈ sets ++ u) ∧
    (rowS A s n x sets row).2 = row ++ (List.range' x n).map fun y : Nat => posS (sets ++ u) (stepN A s (y : Int))
  | 0, x, sets, row => ⟨[], by simp [rowS], by simp, by intro y h1 h2; omega, by simp [rowS]⟩
  | n + 1, x, sets, row => by
    obtain ⟨v, h1, h2, h3, h4⟩ := rowS_spec s n (x + 1) (addS sets (stepN A s (x : Int))) (row ++ [posS sets (stepN A s (x : Int))])
    obtain ⟨a, ha⟩ := addS_pre sets (stepN A s (x : Int))
    have hhas := addS_has sets (stepN A s (x : Int))
    have hpos := posS_add sets (stepN A s (x : Int))
    have ham : ∀ t, t ∈ a → t = stepN A s (x : Int) := by
      intro t ht
      unfold addS at ha
      split at ha
      · have : a = [] := by simpa using ha
        rw [this] at ht; cases ht
      · have : a = [stepN A s (x : Int)] := List.append_cancel_left ha.symm
        rw [this] at ht
        simpa using ht
    refine ⟨a ++ v, by show (rowS A s n (x + 1) _ _).1 = _; rw [h1, ha, List.append_assoc], fun t ht => ?_, fun y hy1 hy2 => ?_, ?_⟩
    · rcases List.mem_append.1 ht with ht | ht
      · exact ⟨x, Nat.le_refl _, by omega, ham t ht⟩
      · obtain ⟨y, k1, k2, k3⟩ := h2 t ht
        exact ⟨y, by omega, by omega, k3⟩
    · rw [← List.append_assoc, ← ha]
      by_cases e : y = x
      · subst e
        rcases hhas with h | h
        · exact Or.inl h
        · exact Or.inr (List.mem_append_left _ h)
      · exact h3 y (by omega) (by omega)
    · show (rowS A s n (x + 1) _ _).2 = _
      rw [h4, List.append_assoc, ← List.append_assoc sets a v, ← ha, List.range'_succ, List.map_cons, posS_pre hhas, hpos]
      rfl
theorem range'_zero (L : Nat) (f : Nat → Int) : (List.range' 0 L).map f = (List.range L).map f := by rw [List.range_eq_range']
/-- How the search stands: the sets ahead of k are done. -/
structure BInv (A : List Arc3) (L s0 : Nat) (sets : List Nat) (k : Nat) (next : List (List Int)) : Prop where
  ok : OkS sets
  first : sets[0]? = some s0
  cnt : next.length = k
  le : k ≤ sets.length
  reach : ∀ s, s ∈ sets → ∃ wd, Lets L wd ∧ readB A (bl wd) s0 = s
  row : ∀ i s, i < k → sets[i]? = some s → next[i]? = some ((List.range L).map fun y : Nat => posS sets (stepN A s (y : Int))) ∧ ∀ y, y < L → stepN A s (y : Int) = 0 ∨ stepN A s (y : Int) ∈ sets
theorem BInv.step {L s0 : Nat} (hL : L ≤ 3) (hA : ∀ s x, stepN A s x < 4096) {sets : List Nat} {k : Nat} {next : List (List Int)} (h : BInv A L s0 sets k next) {s : Nat} (hs : sets[k]? = some s) :
    BInv A L s0 (rowS A s L 0 sets []).1 (k + 1) (next ++ [(rowS A s L 0 sets []).2]) := by
  obtain ⟨u, h1, h2, h3, h4⟩ := rowS_spec (A := A) s L 0 sets []
  have hok := rowS_ok hA s L 0 sets [] h.ok
  rw [h1] at hok ⊢
  rw [h4]
  have hkl := (List.getElem?_eq_some_iff.1 hs).1
  refine ⟨hok, ?_, by rw [List.length_append, h.cnt]; rfl, by rw [List.length_append]; omega, fun t ht => ?_, fun i t hi ht => ?_⟩
  · rw [List.getElem?_append_left (by omega)]; exact h.first
  · rcases List.mem_append.1 ht with ht | ht
    · exact h.reach t ht
    · obtain ⟨y, -, hy, rfl⟩ := h2 t ht
      obtain ⟨wd, hw, e⟩ := h.reach s (List.mem_of_getElem? hs)
      exact ⟨wd ++ [y], hw.snoc (by omega), by rw [bl_snoc (by omega), e]⟩
  · rw [List.nil_append, range'_zero]
    by_cases e : i = k
    · subst e
      rw [List.getElem?_append_left hkl, hs] at ht
      cases ht
      refine ⟨?_, fun y hy => h3 y (by omega) (by omega)⟩
      rw [List.getElem?_append_right (by rw [h.cnt]; omega), h.cnt]
      simp
    · rw [List.getElem?_append_left (by omega)] at ht
      obtain ⟨k1, k2⟩ := h.row i t (by omega) ht
      refine ⟨?_, fun y hy => ?_⟩
      · rw [List.getElem?_append_left (by rw [h.cnt]; omega), k1]
        congr 1
        refine List.map_congr_left fun y hy => ?_
        rw [posS_pre (k2 y (List.mem_range.1 hy))]
      · rcases k2 y hy with h | h
        · exact Or.inl h
        · exact Or.inr (List.mem_append_left _ h)
theorem bfsS_inv {L s0 : Nat} (hL : L ≤ 3) (hA : ∀ s x, stepN A s x < 4096) : ∀ (f : Nat) {sets : List Nat} {k : Nat} {next : List (List Int)}, BInv A L s0 sets k next → 4096 ≤ f + k →
    BInv A L s0 (bfsS A L f sets k next).1 (bfsS A L f sets k next).1.length (bfsS A L f sets k next).2
  | 0, sets, k, next, h, hf => by
    have := h.ok.len
    have := h.le
    omega
  | f + 1, sets, k, next, h, hf => by
    unfold bfsS
    cases e : sets[k]? with
    | none =>
      have : k = sets.length := by
        have := List.getElem?_eq_none_iff.1 e
        have := h.le
        omega
      subst this
      exact h
    | some s => exact bfsS_inv hL hA f (h.step hL hA e) (by omega)
theorem BInv.start {L s0 : Nat} (h0 : 0 < s0) (h1 : s0 < 4096) : BInv A L s0 [s0] 0 [] := by
  refine ⟨⟨by simp, fun s hs => by simp at hs; subst hs; exact ⟨h0, h1⟩⟩, rfl, rfl, by simp, fun s hs => ?_, fun i s hi => by omega⟩
  simp at hs
  subst hs
  exact ⟨[], Lets.nil _, rfl⟩
end
/-! The search with words. -/
section
variable {A : List Arc3} {L m s0 : Nat}
end
end Go.Proofs.Ytcilgihmaaobeaa
end

section
namespace Go.Proofs.Ytcilgihmaaobeaa
open Go.RowKit Go.Deep Go.Sd
/-! Valid graphs. -/
def bkey (a : Arc3) : Int := a.1 * 64 + a.2.2 * 16 + a.2.1
def SortB (xs : List Arc3) : Prop := xs.Pairwise fun a b => bkey a < bkey b
theorem bkey_before {L S : Nat} (hL : L ≤ 3) (hS : S ≤ 12) {a b : Arc3} (ha : okArc L S a) (hb : okArc L S b) : before a b = true ↔ bkey a < bkey b := by
  unfold okArc at ha hb
  unfold before bkey
  by_cases e : a.1 = b.1
  · rw [if_neg (by simp [e])]
    by_cases e2 : a.2.2 = b.2.2
    · rw [if_neg (by simp [e2]), decide_eq_true_eq]; omega
    · rw [if_pos e2, decide_eq_true_eq]; omega
  · rw [if_pos e, decide_eq_true_eq]; omega
theorem isLab_of {l : Lb} (h1 : 1 ≤ l.1 ∧ l.1 ≤ 3) (h2 : 1 ≤ l.2.1 ∧ l.2.1 ≤ 12) (ho : ∀ a, a ∈ l.2.2 → okArc l.1.toNat l.2.1.toNat a) (hs : SortB l.2.2) : isLab l = true := by
  unfold isLab
  rw [Bool.and_eq_true, Bool.and_eq_true]
  refine ⟨decide_eq_true h1, decide_eq_true h2, allF_of fun j hj => ?_⟩
  rw [Nat.zero_add]
  unfold arcB arcOk
  have hat : ∀ k, k < l.2.2.length → okArc l.1.toNat l.2.1.toNat (at3 l.2.2 k) := fun k hk => by
    rw [at3_of (List.getElem?_eq_getElem hk)]
    exact ho _ (List.getElem_mem _)
  have h3 := hat j hj
  rw [Bool.and_eq_true]
  refine ⟨decide_eq_true (by unfold okArc at h3; omega), ?_⟩
  cases j with
  | zero => simp
  | succ j =>
    rw [Nat.add_sub_cancel, Bool.or_eq_true]
    right
    rw [bkey_before (by omega) (by omega) (hat j (by omega)) h3, at3_of (List.getElem?_eq_getElem (show j < l.2.2.length by omega)), at3_of (List.getElem?_eq_getElem hj)]
    exact List.pairwise_iff_getElem.1 hs j (j + 1) (by omega) hj (by omega)
theorem isLab_sort {l : Lb} (h : isLab l = true) : SortB l.2.2 := by
  have ho := isLab_arcs h
  have h0 := isLab_ok h
  unfold isLab at h
  rw [Bool.and_eq_true, Bool.and_eq_true] at h
  have step : ∀ k (hk : k + 1 < l.2.2.length), bkey l.2.2[k] < bkey l.2.2[k + 1] := by
    intro k hk
    have h1 := allF_at h.2.2 (k + 1) hk
    rw [Nat.zero_add] at h1
    unfold arcB at h1
    rw [Nat.add_sub_cancel, at3_of (List.getElem?_eq_getElem hk), at3_of (List.getElem?_eq_getElem (show k < l.2.2.length by omega)), Bool.and_eq_true, Bool.or_eq_true] at h1
    rcases h1.2 with h2 | h2
    · simp at h2
    · exact (bkey_before (by omega) (by omega) (ho _ (List.getElem_mem _)) (ho _ (List.getElem_mem _))).1 h2
  unfold SortB
  rw [List.pairwise_iff_getElem]
  have key : ∀ d i (hi : i < l.2.2.length) (hj : i + (d + 1) < l.2.2.length), bkey l.2.2[i] < bkey l.2.2[i + (d + 1)] := by
    intro d
    induction d with
    | zero => intro i hi hj; exact step i hj
    | succ d ih =>
      intro i hi hj
      have h2 := ih i hi (by omega)
      have h3 := step (i + (d + 1)) hj
      exact Int.lt_trans h2 h3
  intro i j hi hj hij
  obtain ⟨d, rfl⟩ : ∃ d, j = i + (d + 1) := ⟨j - i - 1, by omega⟩
  exact key d i hi hj
/-! Names of the places that are kept. -/
theorem nm_mono (b : List Bool) {i j : Nat} (h : i ≤ j) : nm b i ≤ nm b j := by
  unfold nm cntT
  exact List.Sublist.countP_le (List.take_sublist_take_left h)
theorem on_getD {b : List Bool} {i : Nat} : b.getD i false = true ↔ On b i := by
  unfold On
  cases h : b[i]? with
  | none => simp [List.getD, h]
  | some x => simp [List.getD, h]
theorem nm_lt2 {b : List Bool} {i j : Nat} (h : On b i) (hij : i < j) : nm b i < nm b j := by
  have h1 := nm_succ h
  have h2 := nm_mono b (show i + 1 ≤ j from hij)
  simp at h1
  omega
theorem trimA_mem {b : List Bool} {xs : List Arc3} {c : Arc3} : c ∈ trimA b xs ↔ ∃ a, a ∈ xs ∧ On b a.1.toNat ∧ On b a.2.1.toNat ∧ c = renA b a := by
  unfold trimA
  rw [List.mem_map]
  constructor
  · rintro ⟨a, ha, rfl⟩
    obtain ⟨h1, h2⟩ := List.mem_filter.1 ha
    unfold kept at h2
    rw [Bool.and_eq_true, on_getD, on_getD] at h2
    exact ⟨a, h1, h2.1, h2.2, rfl⟩
  · rintro ⟨a, ha, h1, h2, rfl⟩
    refine ⟨a, List.mem_filter.2 ⟨ha, ?_⟩, rfl⟩
    unfold kept
    rw [Bool.and_eq_true, on_getD, on_getD]
    exact ⟨h1, h2⟩
section
variable {l : Lb}
theorem trim_eq (h : trimOk l = true) : trimV l = (l.1, (cntT (liveO l) : Int), trimA (liveO l) l.2.2) := by unfold trimV keepV; rw [if_pos h]
theorem trim_isLab (h : trimOk l = true) : isLab l = true := by
  unfold trimOk at h
  rw [Bool.and_eq_true] at h
  exact h.1
theorem trim_lab (h : trimOk l = true) : isLab (trimV l) = true := by
  have hl := trim_isLab h
  have ho := isLab_arcs hl
  have hs := isLab_sort hl
  obtain ⟨-, k1, k2, k3, k4, -, -⟩ := trim_ok h
  have h0 := isLab_ok hl
  have hc : cntT (liveO l) ≤ 12 := by
    have h3 : cntT (liveO l) ≤ (liveO l).length := cntT_le
    rw [liveO_len] at h3
    omega
  refine isLab_of ⟨k3, k4⟩ ⟨k1, k2⟩ ?_ ?_
  · rw [trim_eq h]
    intro a ha
    obtain ⟨c, hc, h1, h2, rfl⟩ := trimA_mem.1 ha
    have q1 := nm_lt (on_getD.2 h1)
    have q2 := nm_lt (on_getD.2 h2)
    have oc := ho c hc
    unfold okArc at oc ⊢
    simp only [renA, Int.toNat_natCast]
    omega
  · rw [trim_eq h]
    unfold SortB trimA
    rw [List.pairwise_map]
    refine List.Pairwise.imp_of_mem (fun {a b} ha hb hab => ?_) (hs.filter _)
    obtain ⟨ha1, ha2⟩ := List.mem_filter.1 ha
    obtain ⟨hb1, hb2⟩ := List.mem_filter.1 hb
    unfold kept at ha2 hb2
    rw [Bool.and_eq_true, on_getD, on_getD] at ha2 hb2
    have oa := ho a ha1
    have ob := ho b hb1
    have ma := nm_le (liveO l) a.2.1.toNat
    have mb := nm_le (liveO l) b.2.1.toNat
    have e := (bkey_before (by omega) (by omega) oa ob).2 hab
    unfold before at e
    unfold okArc at oa ob
    simp only [bkey, renA]
    by_cases e1 : a.1 = b.1
    · rw [if_neg (by simp [e1])] at e
      rw [e1]
      by_cases e2 : a.2.2 = b.2.2
      · rw [if_neg (by simp [e2]), decide_eq_true_eq] at e
        have := nm_lt2 (j := b.2.1.toNat) ha2.2 (by omega)
        omega
      · rw [if_pos e2, decide_eq_true_eq] at e
        omega
    · rw [if_pos e1, decide_eq_true_eq] at e
      have := nm_lt2 (j := b.1.toNat) ha2.1 (by omega)
      omega
end
end Go.Proofs.Ytcilgihmaaobeaa
end

section
namespace Go.Proofs.Ytcilgihmaaobeaa
open Go.RowKit Go.Deep Go.Sd
theorem rowA_mem {k : Nat} {a : Arc3} : ∀ {r : List Int} {x : Nat}, a ∈ rowA k x r ↔ ∃ (j : Nat) (v : Int), r[j]? = some v ∧ 0 ≤ v ∧ a = ((k : Int), v, ((x + j : Nat) : Int))
  | [], x => by simp [rowA]
  | t :: r, x => by
    unfold rowA
    rw [List.mem_append, rowA_mem (r := r)]
    constructor
    · rintro (h | ⟨j, v, h1, h2, rfl⟩)
      · by_cases e : 0 ≤ t
        · rw [if_pos e] at h
          exact ⟨0, t, rfl, e, by simpa using h⟩
        · rw [if_neg e] at h; cases h
      · exact ⟨j + 1, v, by simpa using h1, h2, by rw [show x + 1 + j = x + (j + 1) by omega]⟩
    · rintro ⟨j, v, h1, h2, rfl⟩
      cases j with
      | zero =>
        left
        have e : t = v := by simpa using h1
        subst e
        rw [if_pos h2]
        simp
      | succ j => exact Or.inr ⟨j, v, by simpa using h1, h2, by rw [show x + 1 + j = x + (j + 1) by omega]⟩
theorem arcsN_mem {a : Arc3} : ∀ {rs : List (List Int)} {k : Nat}, a ∈ arcsN k rs ↔ ∃ (i : Nat) (r : List Int), rs[i]? = some r ∧ a ∈ rowA (k + i) 0 r
  | [], k => by simp [arcsN]
  | r :: rs, k => by
    unfold arcsN
    rw [List.mem_append, arcsN_mem (rs := rs)]
    constructor
    · rintro (h | ⟨i, q, h1, h2⟩)
      · exact ⟨0, r, rfl, h⟩
      · exact ⟨i + 1, q, by simpa using h1, by rw [show k + (i + 1) = k + 1 + i by omega]; exact h2⟩
    · rintro ⟨i, q, h1, h2⟩
      cases i with
      | zero =>
        left
        have e : r = q := by simpa using h1
        rw [e]; exact h2
      | succ i => exact Or.inr ⟨i, q, by simpa using h1, by rw [show k + 1 + i = k + (i + 1) by omega]; exact h2⟩
theorem rowA_sort (k : Nat) : ∀ (r : List Int) (x : Nat), SortK (rowA k x r)
  | [], _ => List.Pairwise.nil
  | t :: r, x => by
    unfold rowA SortK
    rw [List.pairwise_append]
    refine ⟨?_, rowA_sort k r (x + 1), fun a ha b hb => ?_⟩
    · split
      · exact List.pairwise_singleton _ _
      · exact List.Pairwise.nil
    · by_cases e : 0 ≤ t
      · rw [if_pos e] at ha
        have ea : a = ((k : Int), t, (x : Int)) := by simpa using ha
        obtain ⟨j, v, -, -, rfl⟩ := rowA_mem.1 hb
        subst ea
        unfold akey
        simp only
        omega
      · rw [if_neg e] at ha; cases ha
theorem arcsN_sort : ∀ (rs : List (List Int)) (k : Nat), (∀ r, r ∈ rs → r.length ≤ 3) → SortK (arcsN k rs)
  | [], _, _ => List.Pairwise.nil
  | r :: rs, k, h => by
    unfold arcsN SortK
    rw [List.pairwise_append]
    refine ⟨rowA_sort k r 0, arcsN_sort rs (k + 1) fun q hq => h q (by simp [hq]), fun a ha b hb => ?_⟩
    obtain ⟨j, v, h1, -, rfl⟩ := rowA_mem.1 ha
    obtain ⟨i, q, -, h2⟩ := arcsN_mem.1 hb
    obtain ⟨m, u, -, -, rfl⟩ := rowA_mem.1 h2
    have h3 := (List.getElem?_eq_some_iff.1 h1).1
    have h4 := h r (by simp)
    unfold akey
    simp only
    omega
section
variable {l : Lb}
theorem all_ok' {S : Int} (hS1 : 1 ≤ S) (hS2 : S ≤ 12) : 0 < allN S ∧ allN S < 4096 := by
  have h1 : 2 ^ 1 ≤ 2 ^ S.toNat := Nat.pow_le_pow_right (by decide) (by omega)
  have h2 := allN_lt hS2
  unfold allN at h2 ⊢
  omega
theorem sm_lab' (h : resolvM l = true) : isLab l = true := by unfold resolvM at h; rw [Bool.and_eq_true] at h; exact h.1
theorem rsl_facts (h : rslOk l = true) : trimOk l = true ∧ ∃ (sets : List Nat) (next : List (List Int)), BInv (trimV l).2.2 (trimV l).1.toNat (allN (trimV l).2.1) sets sets.length next ∧ sets.length ≤ 12 ∧ rslV l = (l.1, (sets.length : Int), arcsN 0 next) := by
  unfold rslOk at h
  rw [Bool.and_eq_true] at h
  obtain ⟨ht, hs⟩ := h
  obtain ⟨ho, h1, h2, h3, h4, h5, -⟩ := trim_ok ht
  have hb := (all_ok' h1 h2)
  have hi := bfsS_inv (A := (trimV l).2.2) (L := (trimV l).1.toNat) (s0 := allN (trimV l).2.1) (by omega) (fun s x => stepN_lt ho h2 s x) 4096 (BInv.start hb.1 hb.2) (by omega)
  have e := rslT_eq l
  refine ⟨ht, _, _, hi, ?_⟩
  split at e
  · rw [e] at hs; cases hs
  · rename_i hn
    refine ⟨by omega, ?_⟩
    unfold rslV
    rw [if_pos ht, e]
    rfl
/-- An arc of the resolved graph. -/
theorem rsl_arc {A : List Arc3} {L s0 : Nat} {sets : List Nat} {next : List (List Int)} (hI : BInv A L s0 sets sets.length next) {a : Arc3} : a ∈ arcsN 0 next ↔ ∃ (i y j : Nat) (s : Nat), sets[i]? = some s ∧ y < L ∧ sets[j]? = some (stepN A s (y : Int)) ∧ a = ((i : Int), (j : Int), (y : Int)) := by
  rw [arcsN_mem]
  constructor
  · rintro ⟨i, r, hr, ha⟩
    have hil : i < sets.length := by have := (List.getElem?_eq_some_iff.1 hr).1; rw [hI.cnt] at this; exact this
    obtain ⟨s, hs, -⟩ := at_lt hil
    obtain ⟨k1, k2⟩ := hI.row i s hil hs
    rw [hr] at k1
    cases k1
    obtain ⟨y, v, hy, hv, rfl⟩ := rowA_mem.1 ha
    have hyL : y < L := by have := (List.getElem?_eq_some_iff.1 hy).1; simpa using this
    rw [List.getElem?_map, List.getElem?_range hyL] at hy
    have ev : posS sets (stepN A s (y : Int)) = v := by simpa using hy
    have hne : stepN A s (y : Int) ≠ 0 := fun e => by
      unfold posS at ev
      rw [if_pos e] at ev
      omega
    rcases k2 y hyL with e | hm
    · exact absurd e hne
    · refine ⟨i, y, sets.idxOf (stepN A s (y : Int)), s, hs, hyL, ?_, ?_⟩
      · rw [List.getElem?_eq_getElem (List.idxOf_lt_length_of_mem hm)]
        simp
      · unfold posS at ev
        rw [if_neg hne] at ev
        rw [ev, Nat.zero_add, Nat.zero_add]
  · rintro ⟨i, y, j, s, hs, hy, hj, rfl⟩
    have hil := (List.getElem?_eq_some_iff.1 hs).1
    obtain ⟨k1, k2⟩ := hI.row i s hil hs
    refine ⟨i, _, k1, rowA_mem.2 ⟨y, posS sets (stepN A s (y : Int)), ?_, ?_, ?_⟩⟩
    · rw [List.getElem?_map, List.getElem?_range hy]; rfl
    · unfold posS
      have := (hI.ok.2 _ (List.mem_of_getElem? hj)).1
      rw [if_neg (by omega)]
      omega
    · have hp := (hI.ok.2 _ (List.mem_of_getElem? hj)).1
      have e : posS sets (stepN A s (y : Int)) = (j : Int) := by
        unfold posS
        rw [if_neg (by omega)]
        have hjl := (List.getElem?_eq_some_iff.1 hj).1
        have e2 : sets[j] = stepN A s (y : Int) := by rw [List.getElem?_eq_getElem hjl] at hj; exact Option.some.inj hj
        rw [← e2, hI.ok.1.idxOf_getElem j hjl]
      rw [e, Nat.zero_add, Nat.zero_add]
theorem rsl_resolv (h : rslOk l = true) : resolvM (rslV l) = true := by
  obtain ⟨ht, sets, next, hI, h12, e⟩ := rsl_facts h
  obtain ⟨ho, h1, h2, h3, h4, h5, -⟩ := trim_ok ht
  rw [e]
  have hf := (List.getElem?_eq_some_iff.1 hI.first).1
  refine resolv_of ⟨by simp only; omega, by simp only; omega⟩ ⟨by simp only; omega, by simp only; omega⟩ (fun a ha => ?_) (arcsN_sort next 0 fun r hr => ?_)
  · simp only at ha
    obtain ⟨i, y, j, s, hs, hy, hj, rfl⟩ := (rsl_arc hI).1 ha
    have hi := (List.getElem?_eq_some_iff.1 hs).1
    have hj := (List.getElem?_eq_some_iff.1 hj).1
    unfold okArc
    simp only [Int.toNat_natCast]
    omega
  · obtain ⟨i, hi⟩ := List.getElem?_of_mem hr
    have hil : i < sets.length := by have := (List.getElem?_eq_some_iff.1 hi).1; rw [hI.cnt] at this; exact this
    obtain ⟨s, hs, -⟩ := at_lt hil
    obtain ⟨k1, -⟩ := hI.row i s hil hs
    rw [hi] at k1
    cases k1
    simp
    omega
theorem rsl_reads (h : rslOk l = true) : readSameM (rslV l) (trimV l) = true := by
  have hx := rsl_resolv h
  obtain ⟨ht, sets, next, hI, h12, e⟩ := rsl_facts h
  obtain ⟨ho, h1, h2, h3, h4, h5, -⟩ := trim_ok ht
  have hlab := trim_lab ht
  have hoA := isLab_arcs hlab
  unfold readSameM
  rw [sm_lab' hx, hlab, Bool.true_and, Bool.true_and, Bool.and_eq_true]
  refine ⟨decide_eq_true (by rw [e, h5]), ?_⟩
  rw [e]
  simp only [decide_eq_true_eq]
  rw [← h5]
  have hL3 : (trimV l).1.toNat ≤ 3 := by omega
  generalize (trimV l).1.toNat = L at *
  have hf := (List.getElem?_eq_some_iff.1 hI.first).1
  have hsub : ∀ (j : Nat) (s : Nat), sets[j]? = some s → Sub s (allN (trimV l).2.1) := fun j s hs i hi => by
    rw [allN_bit]
    obtain ⟨wd, hw, rfl⟩ := hI.reach s (List.mem_of_getElem? hs)
    rcases List.eq_nil_or_concat wd with e | ⟨u, x, e⟩
    · subst e
      exact (allN_bit _ _).1 hi
    · rw [List.concat_eq_append] at e
      subst e
      have hx := hw.last
      rw [bl_snoc (by omega)] at hi
      exact step_all hoA _ _ _ hi
  have key : ∀ p, ReachP (arcsN 0 next) (trimV l).2.2 L (2 ^ sets.length - 1, allN (trimV l).2.1) p → (p.2 ≠ 0 → ∃ j, sets[j]? = some p.2 ∧ p.1.testBit j = true) ∧ ∀ j, p.1.testBit j = true → ∃ s, sets[j]? = some s ∧ Sub s p.2 := by
    intro p hp
    induction hp with
    | start =>
      refine ⟨fun _ => ⟨0, hI.first, ?_⟩, fun j hj => ?_⟩
      · rw [Nat.testBit_two_pow_sub_one, decide_eq_true_eq]; exact hf
      · rw [Nat.testBit_two_pow_sub_one, decide_eq_true_eq] at hj
        obtain ⟨s, hs, -⟩ := at_lt hj
        exact ⟨s, hs, hsub j s hs⟩
    | @step p y hp hy ih =>
      obtain ⟨ih1, ih2⟩ := ih
      refine ⟨fun hne => ?_, fun j hj => ?_⟩
      · have hne' : stepN (trimV l).2.2 p.2 (y : Int) ≠ 0 := hne
        have hp2 : p.2 ≠ 0 := fun e0 => hne' (by rw [e0]; exact stepN_zero _ _)
        obtain ⟨i, hi, hb⟩ := ih1 hp2
        have hil := (List.getElem?_eq_some_iff.1 hi).1
        rcases (hI.row i _ hil hi).2 y hy with e0 | hm
        · exact absurd e0 hne'
        · obtain ⟨j, hj⟩ := List.getElem?_of_mem hm
          exact ⟨j, hj, stepN_bit.2 ⟨_, (rsl_arc hI).2 ⟨i, y, j, p.2, hi, hy, hj, rfl⟩, rfl, by simpa using hb, by simp⟩⟩
      · obtain ⟨a, ha, a1, a2, a3⟩ := stepN_bit.1 (show (stepN (arcsN 0 next) p.1 (y : Int)).testBit j = true from hj)
        obtain ⟨i, y', j', s, hs, hy', hj', rfl⟩ := (rsl_arc hI).1 ha
        simp only [Int.toNat_natCast] at a1 a2 a3
        subst a3
        obtain ⟨s2, hs2, hsb⟩ := ih2 i a2
        rw [hs] at hs2
        cases hs2
        refine ⟨_, hj', ?_⟩
        rw [a1]
        exact hsb.step _ _
  intro p hp y hy
  have hp0 : ReachP (arcsN 0 next) (trimV l).2.2 L (2 ^ sets.length - 1, allN (trimV l).2.1) p := by
    have : ((sets.length : Int)).toNat = sets.length := Int.toNat_natCast _
    simpa [allN] using hp
  obtain ⟨k1, k2⟩ := key _ (ReachP.step y hp0 hy)
  unfold badP
  generalize nextP (arcsN 0 next) (trimV l).2.2 p y = q at k1 k2 ⊢
  have h1 : q.1 = 0 ↔ q.2 = 0 := by
    constructor
    · intro h1
      apply Classical.byContradiction
      intro h2
      obtain ⟨j, -, hb⟩ := k1 h2
      rw [h1] at hb
      simp at hb
    · intro h1
      refine nat_zero.2 fun j hj => ?_
      obtain ⟨s, hs, hsb⟩ := k2 j hj
      have hpos := (hI.ok.2 s (List.mem_of_getElem? hs)).1
      have : s = 0 := nat_zero.2 fun i hi => by
        have := hsb i hi
        rw [h1] at this
        simp at this
      omega
  by_cases h2 : q.1 = 0
  · rw [h2, h1.1 h2]; rfl
  · have h3 : q.2 ≠ 0 := fun h => h2 (h1.2 h)
    rw [show (q.1 == 0) = false by simpa using h2, show (q.2 == 0) = false by simpa using h3]
    rfl
end
/-- Graphs that read the same have the same words. -/
theorem same_words {a b : Lb} (h : readSameM a b = true) {n : Nat} (hn : n ≤ 6) : rdwM a n = rdwM b n := by
  unfold readSameM at h
  rw [Bool.and_eq_true, Bool.and_eq_true, Bool.and_eq_true] at h
  obtain ⟨ha, hb, h1, h2⟩ := h
  have h1 : a.1 = b.1 := of_decide_eq_true h1
  have hg : goodP a.2.2 b.2.2 a.1.toNat (2 ^ a.2.1.toNat - 1, 2 ^ b.2.1.toNat - 1) := by simpa using h2
  have h0 := isLab_ok ha
  unfold rdwM
  rw [ha, hb, ← h1]
  rw [decide_eq_true (show 0 ≤ (n : Int) ∧ (n : Int) ≤ 6 by omega)]
  simp only [Bool.and_self, if_true]
  congr 1
  refine List.filter_congr fun wd hw => ?_
  have hl : Lets a.1.toNat wd := (allW_mem (by omega) hw).2
  unfold rdwF
  rw [bl_data]
  have key : ∀ wd, Lets a.1.toNat wd → ReachP a.2.2 b.2.2 a.1.toNat (2 ^ a.2.1.toNat - 1, 2 ^ b.2.1.toNat - 1) (readB a.2.2 (bl wd) (allN a.2.1), readB b.2.2 (bl wd) (allN b.2.1)) := fun wd => by
    induction wd using snoc_rec with
    | h0 => exact fun _ => .start
    | h1 u x ih =>
    intro hl
    have hx := hl.last
    rw [bl_snoc (by omega), bl_snoc (by omega)]
    exact ReachP.step x (ih hl.pre) hx
  rcases List.eq_nil_or_concat wd with e | ⟨u, x, e⟩
  · subst e
    have p1 : 0 < allN a.2.1 := by have := (all_ok' (S := a.2.1) (by omega) (by omega)).1; exact this
    have p2 : 0 < allN b.2.1 := by have hb0 := isLab_ok hb; have := (all_ok' (S := b.2.1) (by omega) (by omega)).1; exact this
    show decide (0 < allN a.2.1) = decide (0 < allN b.2.1)
    rw [decide_eq_true p1, decide_eq_true p2]
  · rw [List.concat_eq_append] at e
    subst e
    have hx := hl.last
    have hbad := hg _ (key u hl.pre) x hx
    rw [bl_snoc (by omega), bl_snoc (by omega)]
    unfold badP nextP at hbad
    simp only at hbad
    by_cases e1 : stepN a.2.2 (readB a.2.2 (bl u) (allN a.2.1)) (x : Int) = 0
    · by_cases e2 : stepN b.2.2 (readB b.2.2 (bl u) (allN b.2.1)) (x : Int) = 0
      · rw [e1, e2]
      · rw [e1] at hbad
        rw [show (stepN b.2.2 (readB b.2.2 (bl u) (allN b.2.1)) (x : Int) == 0) = false by simpa using e2] at hbad
        cases hbad
    · by_cases e2 : stepN b.2.2 (readB b.2.2 (bl u) (allN b.2.1)) (x : Int) = 0
      · rw [e2] at hbad
        rw [show (stepN a.2.2 (readB a.2.2 (bl u) (allN a.2.1)) (x : Int) == 0) = false by simpa using e1] at hbad
        cases hbad
      · rw [decide_eq_true (by omega), decide_eq_true (by omega)]
end Go.Proofs.Ytcilgihmaaobeaa
end

section
namespace Go.Proofs.Ytcilgihmaaobeaa
open Go.RowKit Go.Deep Go.Sd
theorem tgtI_mem {L S : Nat} : ∀ {xs : List Arc3}, (∀ a, a ∈ xs → okArc L S a) → ∀ {p x : Int}, 0 ≤ tgtI xs p x → (p, tgtI xs p x, x) ∈ xs
  | [], _, p, x, h => absurd h (by show ¬ (0 : Int) ≤ -1; omega)
  | a :: ys, ho, p, x, h => by
    unfold tgtI at h ⊢
    by_cases hc : a.1 = p ∧ a.2.2 = x
    · rw [if_pos hc]
      have : a = (p, a.2.1, x) := by rw [← hc.1, ← hc.2]
      rw [← this]
      simp
    · rw [if_neg hc] at h ⊢
      exact List.mem_cons_of_mem _ (tgtI_mem (fun b hb => ho b (List.mem_cons_of_mem _ hb)) h)
theorem tgtI_of {xs : List Arc3} (hs : SortK xs) {p q x : Int} (h : (p, q, x) ∈ xs) : tgtI xs p x = q := by
  induction xs with
  | nil => cases h
  | cons a ys ih =>
    unfold SortK at hs
    rw [List.pairwise_cons] at hs
    unfold tgtI
    rcases List.mem_cons.1 h with e | h
    · rw [← e, if_pos ⟨rfl, rfl⟩]
    · by_cases hc : a.1 = p ∧ a.2.2 = x
      · have := hs.1 _ h
        unfold akey at this
        simp only at this
        rw [hc.1, hc.2] at this
        omega
      · rw [if_neg hc]
        exact ih hs.2 h
theorem tgtI_okk {L S : Nat} {xs : List Arc3} (ho : ∀ a, a ∈ xs → okArc L S a) {p x : Int} (h : 0 ≤ tgtI xs p x) : (tgtI xs p x).toNat < S := by
  have := ho _ (tgtI_mem ho h)
  unfold okArc at this
  simp only at this
  omega
theorem rk_surj {c : Nat → Nat} : ∀ {S i : Nat}, i < rk c S → ∃ p, p < S ∧ c p = p ∧ rk c p = i
  | 0, i, h => absurd h (by unfold rk; omega)
  | S + 1, i, h => by
    by_cases h1 : i < rk c S
    · obtain ⟨p, hp, h2⟩ := rk_surj h1
      exact ⟨p, by omega, h2⟩
    · unfold rk at h
      by_cases e : c S = S
      · rw [if_pos e] at h
        exact ⟨S, by omega, e, by omega⟩
      · rw [if_neg e] at h
        omega
theorem nmb_lt {c : Nat → Nat} (hc : Can c) {p S : Nat} (h : p < S) : nmb c p < rk c S := by
  unfold nmb
  exact rk_lt (hc.idem p) (Nat.lt_of_le_of_lt (hc.le p) h)
theorem nmb_surj {c : Nat → Nat} {S i : Nat} (h : i < rk c S) : ∃ p, p < S ∧ nmb c p = i ∧ c p = p := by
  obtain ⟨p, hp, h1, h2⟩ := rk_surj h
  exact ⟨p, hp, by unfold nmb; rw [h1, h2], h1⟩
/-- The last numbering is kept by the arcs. -/
theorem clsV_stable {l : Lb} {p q : Nat} (hp : p < l.2.1.toNat) (hq : q < l.2.1.toNat) (h : clsV l p = clsV l q) {x : Nat} (hx : x < l.1.toNat) : goB (clsV l) (tgtI l.2.2 p x) (tgtI l.2.2 q x) = true := by
  have hk := eqS_iff.1 (clsK_spec l.2.2 l.1.toNat l.2.1.toNat).1
  have e1 := hk p hp
  have e2 := hk q hq
  have e3 : cls l.2.2 l.1.toNat (clsK l.2.2 l.1.toNat l.2.1.toNat + 1) p = cls l.2.2 l.1.toNat (clsK l.2.2 l.1.toNat l.2.1.toNat + 1) q := by rw [← e1, ← e2]; exact h
  have e4 := (lst1_iff (sameB_eqv _ _ _)).1 e3
  exact (sameB_iff.1 e4).2 x hx
/-- What is kept by the arcs is told apart by no numbering. -/
theorem stable_le {xs : List Arc3} {L S : Nat} (ho : ∀ a, a ∈ xs → okArc L S a) {R : Nat → Nat → Prop} (hR : ∀ p q, p < S → q < S → R p q → ∀ x, x < L → (tgtI xs p x < 0 ↔ tgtI xs q x < 0) ∧ (0 ≤ tgtI xs p x → R (tgtI xs p x).toNat (tgtI xs q x).toNat)) :
    ∀ (k : Nat) {p q : Nat}, p < S → q < S → R p q → cls xs L k p = cls xs L k q
  | 0, _, _, _, _, _ => rfl
  | k + 1, p, q, hp, hq, h => by
    refine (lst1_iff (sameB_eqv _ _ _)).2 (sameB_iff.2 ⟨stable_le ho hR k hp hq h, fun x hx => ?_⟩)
    obtain ⟨h1, h2⟩ := hR p q hp hq h x hx
    refine goB_iff.2 ⟨h1, fun h3 => ?_⟩
    exact stable_le ho hR k (tgtI_okk ho h3) (tgtI_okk ho (by omega)) (h2 h3)
section
variable {l : Lb}
theorem sm_lab (h : resolvM l = true) : isLab l = true := by unfold resolvM at h; rw [Bool.and_eq_true] at h; exact h.1
theorem smV_eq (h : resolvM l = true) : smV l = (l.1, (rk (clsV l) l.2.1.toNat : Int), arcS (clsV l) l.2.2) := by
  unfold smV
  rw [if_pos h, smA_cR (clsV_can l)]
theorem arcS_mem {c : Nat → Nat} {xs : List Arc3} {b : Arc3} : b ∈ arcS c xs ↔ ∃ a, a ∈ xs ∧ c a.1.toNat = a.1.toNat ∧ b = ((nmb c a.1.toNat : Int), (nmb c a.2.1.toNat : Int), a.2.2) := by
  unfold arcS
  constructor
  · intro hb
    obtain ⟨a, ha, rfl⟩ := List.mem_map.1 hb
    have h1 := List.mem_filter.1 ha
    exact ⟨a, h1.1, by simpa using h1.2, rfl⟩
  · rintro ⟨a, ha, hc, rfl⟩
    exact List.mem_map.2 ⟨a, List.mem_filter.2 ⟨ha, by simpa using hc⟩, rfl⟩
theorem sm_rk (h : resolvM l = true) : 1 ≤ rk (clsV l) l.2.1.toNat ∧ rk (clsV l) l.2.1.toNat ≤ 12 := by
  obtain ⟨-, h1, h2, -, -⟩ := isLab_ok (sm_lab h)
  have hc := clsV_can l
  have h3 := nmb_lt hc (p := 0) (S := l.2.1.toNat) (by omega)
  have h4 := rk_le (clsV l) l.2.1.toNat
  omega
theorem sm_arcs (h : resolvM l = true) : ∀ b, b ∈ arcS (clsV l) l.2.2 → okArc l.1.toNat (rk (clsV l) l.2.1.toNat) b := by
  intro b hb
  obtain ⟨a, ha, -, rfl⟩ := arcS_mem.1 hb
  have ho := isLab_arcs (sm_lab h) a ha
  have hc := clsV_can l
  unfold okArc at ho ⊢
  have h1 := nmb_lt hc (p := a.1.toNat) (S := l.2.1.toNat) (by omega)
  have h2 := nmb_lt hc (p := a.2.1.toNat) (S := l.2.1.toNat) (by omega)
  simp only
  omega
theorem sm_sort (h : resolvM l = true) : SortK (arcS (clsV l) l.2.2) := by
  have hs := resolv_sort h
  have ho := isLab_arcs (sm_lab h)
  have hl := isLab_ok (sm_lab h)
  unfold SortK arcS
  rw [List.pairwise_map]
  have h1 : (l.2.2.filter fun a => decide (clsV l a.1.toNat = a.1.toNat)).Pairwise fun a b => akey a < akey b := List.Pairwise.filter _ hs
  refine List.Pairwise.imp_of_mem (fun {a b} ha hb hab => ?_) h1
  have ha1 := List.mem_filter.1 ha
  have hb1 := List.mem_filter.1 hb
  have ca : clsV l a.1.toNat = a.1.toNat := by simpa using ha1.2
  have cb : clsV l b.1.toNat = b.1.toNat := by simpa using hb1.2
  have oa := ho a ha1.1
  have ob := ho b hb1.1
  have h2 := (akey_lt (by omega) oa ob).1 hab
  have na : nmb (clsV l) a.1.toNat = rk (clsV l) a.1.toNat := by unfold nmb; rw [ca]
  have nb : nmb (clsV l) b.1.toNat = rk (clsV l) b.1.toNat := by unfold nmb; rw [cb]
  unfold okArc at oa ob
  unfold akey
  simp only
  rw [na, nb]
  rcases h2 with h2 | h2
  · have h3 := rk_lt (c := clsV l) (v := b.1.toNat) ca (by omega)
    omega
  · rw [h2.1]
    omega
theorem sm_resolv (h : resolvM l = true) : resolvM (smV l) = true := by
  rw [smV_eq h]
  have hl := isLab_ok (sm_lab h)
  have hr := sm_rk h
  refine resolv_of ⟨hl.2.2.2.1, hl.2.2.2.2⟩ ⟨by simp only; omega, by simp only; omega⟩ ?_ (sm_sort h)
  intro a ha
  have := sm_arcs h a ha
  simp only [Int.toNat_natCast]
  exact this
/-- Where a letter leads in the smallest graph. -/
theorem sm_tgt (h : resolvM l = true) {p x : Nat} (hp : p < l.2.1.toNat) (hx : x < l.1.toNat) : (tgtI (arcS (clsV l) l.2.2) (nmb (clsV l) p : Int) x < 0 ↔ tgtI l.2.2 p x < 0) ∧ (0 ≤ tgtI l.2.2 p x → tgtI (arcS (clsV l) l.2.2) (nmb (clsV l) p : Int) x = (nmb (clsV l) (tgtI l.2.2 p x).toNat : Int)) := by
  have hc := clsV_can l
  have ho := isLab_arcs (sm_lab h)
  have hs := resolv_sort h
  have hcp : clsV l p < l.2.1.toNat := Nat.lt_of_le_of_lt (hc.le p) hp
  have hst := goB_iff.1 (clsV_stable hcp hp (hc.idem p) hx)
  have key : 0 ≤ tgtI l.2.2 p x → tgtI (arcS (clsV l) l.2.2) (nmb (clsV l) p : Int) x = (nmb (clsV l) (tgtI l.2.2 p x).toNat : Int) := fun h0 => by
    have h1 : 0 ≤ tgtI l.2.2 (clsV l p : Nat) x := by
      have := hst.1
      omega
    have h2 := tgtI_mem ho h1
    refine tgtI_of (sm_sort h) (arcS_mem.2 ⟨_, h2, ?_, ?_⟩)
    · simp only [Int.toNat_natCast]
      exact hc.idem p
    · simp only [Int.toNat_natCast]
      have e1 : nmb (clsV l) (clsV l p) = nmb (clsV l) p := (nmb_iff hc).2 (hc.idem p)
      have e2 : nmb (clsV l) (tgtI l.2.2 (clsV l p : Nat) x).toNat = nmb (clsV l) (tgtI l.2.2 p x).toNat := (nmb_iff hc).2 (hst.2 h1)
      rw [e1, e2]
  refine ⟨⟨fun h1 => ?_, fun h1 => ?_⟩, key⟩
  · apply Classical.byContradiction
    intro h2
    rw [key (by omega)] at h1
    omega
  · apply Classical.byContradiction
    intro h2
    have h3 := tgtI_mem (sm_arcs h) (by omega : 0 ≤ tgtI (arcS (clsV l) l.2.2) (nmb (clsV l) p : Int) x)
    obtain ⟨a, ha, ca, e⟩ := arcS_mem.1 h3
    simp only [Prod.mk.injEq] at e
    have e1 : nmb (clsV l) p = nmb (clsV l) a.1.toNat := by omega
    have e2 := (nmb_iff hc).1 e1
    rw [ca] at e2
    have oa := ho a ha
    unfold okArc at oa
    have e3 : tgtI l.2.2 (clsV l p : Nat) x = a.2.1 := by
      refine tgtI_of hs ?_
      rw [e2, e.2.2]
      have : a = (((a.1.toNat : Nat) : Int), a.2.1, a.2.2) := by rw [Int.toNat_of_nonneg oa.1]
      rw [← this]
      exact ha
    have := hst.1
    omega
/-- In the smallest graph all states are told apart. -/
theorem sm_id (h : resolvM l = true) {i : Nat} (hi : i < rk (clsV l) l.2.1.toNat) : clsV (smV l) i = i := by
  have hc := clsV_can l
  have hcy := clsV_can (smV l)
  have ho := isLab_arcs (sm_lab h)
  have e := smV_eq h
  have hy := sm_resolv h
  have hst : ∀ {p q : Nat}, p < rk (clsV l) l.2.1.toNat → q < rk (clsV l) l.2.1.toNat → clsV (smV l) p = clsV (smV l) q → ∀ {x : Nat}, x < l.1.toNat → goB (clsV (smV l)) (tgtI (arcS (clsV l) l.2.2) p x) (tgtI (arcS (clsV l) l.2.2) q x) = true := fun {p q} hp hq hpq {x} hx => by
    have h1 := clsV_stable (l := smV l) (p := p) (q := q) (x := x) (by rw [e]; simpa using hp) (by rw [e]; simpa using hq) hpq (by rw [e]; exact hx)
    have e3 : (smV l).2.2 = arcS (clsV l) l.2.2 := by rw [e]
    rw [e3] at h1
    exact h1
  generalize clsV (smV l) = cy at hcy hst ⊢
  have hi2 : cy i < rk (clsV l) l.2.1.toNat := Nat.lt_of_le_of_lt (hcy.le i) hi
  obtain ⟨p, hp, h1, -⟩ := nmb_surj hi
  obtain ⟨q, hq, h2, -⟩ := nmb_surj hi2
  have h3 : cls l.2.2 l.1.toNat (clsK l.2.2 l.1.toNat l.2.1.toNat) q = cls l.2.2 l.1.toNat (clsK l.2.2 l.1.toNat l.2.1.toNat) p := by
    refine stable_le ho (R := fun p q => cy (nmb (clsV l) p) = cy (nmb (clsV l) q)) (fun p q hp hq hpq x hx => ?_) _ hq hp (by show cy (nmb (clsV l) q) = cy (nmb (clsV l) p); rw [h2, h1, hcy.idem])
    obtain ⟨a1, a2⟩ := sm_tgt h hp hx
    obtain ⟨b1, b2⟩ := sm_tgt h hq hx
    obtain ⟨c1, c2⟩ := goB_iff.1 (hst (nmb_lt hc hp) (nmb_lt hc hq) hpq hx)
    refine ⟨a1.symm.trans (c1.trans b1), fun h0 => ?_⟩
    have h4 : 0 ≤ tgtI l.2.2 q x := by
      have h5 : ¬ tgtI l.2.2 p x < 0 := by omega
      have h6 := fun hlt => h5 (a1.1 (c1.2 (b1.2 hlt)))
      omega
    have h5 := c2 (by rw [a2 h0]; omega)
    rw [a2 h0, b2 h4] at h5
    simpa using h5
  have h4 : nmb (clsV l) q = nmb (clsV l) p := (nmb_iff hc).2 h3
  rw [h1, h2] at h4
  exact h4
theorem rk_id {c : Nat → Nat} : ∀ {S : Nat}, (∀ i, i < S → c i = i) → rk c S = S
  | 0, _ => rfl
  | S + 1, h => by
    unfold rk
    rw [rk_id fun i hi => h i (by omega), if_pos (h S (by omega))]
theorem sm_again (h : resolvM l = true) : smV (smV l) = smV l := by
  have hy := sm_resolv h
  have e := smV_eq h
  have hid : ∀ i, i < (smV l).2.1.toNat → clsV (smV l) i = i := fun i hi => sm_id h (by rw [e] at hi; simpa using hi)
  rw [smV_eq hy, rk_id hid]
  have ho := isLab_arcs (sm_lab hy)
  generalize clsV (smV l) = cy at hid
  generalize smV l = y at *
  have h0 := isLab_ok (sm_lab hy)
  have hn : ∀ i, i < y.2.1.toNat → nmb cy i = i := fun i hi => by
    unfold nmb
    rw [hid i hi]
    exact rk_id fun j hj => hid j (by omega)
  have e1 : arcS cy y.2.2 = y.2.2 := by
    unfold arcS
    rw [List.filter_eq_self.2 fun a ha => by
      have := ho a ha
      unfold okArc at this
      simp only [decide_eq_true_eq]
      exact hid _ (by omega)]
    have : ∀ a, a ∈ y.2.2 → (((nmb cy a.1.toNat : Nat) : Int), ((nmb cy a.2.1.toNat : Nat) : Int), a.2.2) = a := fun a ha => by
      have := ho a ha
      unfold okArc at this
      rw [hn _ (by omega), hn _ (by omega), Int.toNat_of_nonneg (by omega), Int.toNat_of_nonneg (by omega)]
    exact (List.map_congr_left this).trans (List.map_id _)
  rw [e1]
  refine Prod.ext rfl (Prod.ext ?_ rfl)
  simp only
  omega
/-- The smallest graph reads the same words. -/
theorem sm_reads (h : resolvM l = true) : readSameM (smV l) l = true := by
  have hy := sm_resolv h
  have e := smV_eq h
  have hc := clsV_can l
  have ho := isLab_arcs (sm_lab h)
  have hl0 := isLab_ok (sm_lab h)
  unfold readSameM
  rw [sm_lab hy, sm_lab h, Bool.true_and, Bool.true_and, Bool.and_eq_true]
  refine ⟨decide_eq_true (by rw [e]), ?_⟩
  simp only [decide_eq_true_eq]
  have key : ∀ p, ReachP (smV l).2.2 l.2.2 (smV l).1.toNat (2 ^ (smV l).2.1.toNat - 1, 2 ^ l.2.1.toNat - 1) p → (∀ i, p.2.testBit i = true → i < l.2.1.toNat) ∧ ∀ j, p.1.testBit j = true ↔ ∃ i, p.2.testBit i = true ∧ nmb (clsV l) i = j := by
    intro p hp
    induction hp with
    | start =>
      have a1 := fun i => allN_bit l.2.1 i
      have a2 := fun i => allN_bit (smV l).2.1 i
      unfold allN at a1 a2
      refine ⟨fun i hi => (a1 i).1 hi, fun j => ?_⟩
      simp only
      rw [a2]
      have e2 : (smV l).2.1.toNat = rk (clsV l) l.2.1.toNat := by rw [e]; simp
      rw [e2]
      constructor
      · intro hj
        obtain ⟨i, hi, h1, -⟩ := nmb_surj hj
        exact ⟨i, (a1 i).2 hi, h1⟩
      · rintro ⟨i, hi, rfl⟩
        exact nmb_lt hc ((a1 i).1 hi)
    | @step p x hp hx ih =>
      obtain ⟨ih1, ih2⟩ := ih
      have hx2 : x < l.1.toNat := by rw [e] at hx; exact hx
      refine ⟨fun i hi => step_all ho _ _ i hi, fun j => ?_⟩
      show (stepN (smV l).2.2 p.1 (x : Int)).testBit j = true ↔ ∃ i, (stepN l.2.2 p.2 (x : Int)).testBit i = true ∧ nmb (clsV l) i = j
      have e3 : (smV l).2.2 = arcS (clsV l) l.2.2 := by rw [e]
      rw [e3, stepN_bit]
      constructor
      · rintro ⟨b, hb, hbx, hbp, hbj⟩
        obtain ⟨i, hi, hij⟩ := (ih2 _).1 hbp
        have hb2 : (((nmb (clsV l) i : Nat) : Int), b.2.1, (x : Int)) ∈ arcS (clsV l) l.2.2 := by
          have ob := sm_arcs h b hb
          unfold okArc at ob
          have : (((nmb (clsV l) i : Nat) : Int), b.2.1, (x : Int)) = b := by
            rw [hij, Int.toNat_of_nonneg ob.1, ← hbx]
          rw [this]; exact hb
        have h1 := tgtI_of (sm_sort h) hb2
        have ob := sm_arcs h b hb
        unfold okArc at ob
        obtain ⟨a1, a2⟩ := sm_tgt h (ih1 i hi) hx2
        have h2 : 0 ≤ tgtI l.2.2 i x := by
          apply Classical.byContradiction
          intro hn
          have := a1.2 (by omega)
          omega
        rw [a2 h2] at h1
        have h3 := tgtI_mem ho h2
        exact ⟨(tgtI l.2.2 i x).toNat, stepN_bit.2 ⟨_, h3, rfl, by simpa using hi, rfl⟩, by omega⟩
      · rintro ⟨i, hi, hij⟩
        obtain ⟨a, ha, hax, has, hai⟩ := stepN_bit.1 hi
        have oa := ho a ha
        unfold okArc at oa
        have h1 : tgtI l.2.2 (a.1.toNat : Nat) x = a.2.1 := by
          refine tgtI_of (resolv_sort h) ?_
          have : (((a.1.toNat : Nat) : Int), a.2.1, (x : Int)) = a := by rw [Int.toNat_of_nonneg oa.1, ← hax]
          rw [this]; exact ha
        obtain ⟨-, a2⟩ := sm_tgt h (p := a.1.toNat) (by omega) hx2
        have h2 := a2 (by omega)
        have h3 := tgtI_mem (sm_arcs h) (p := ((nmb (clsV l) a.1.toNat : Nat) : Int)) (x := (x : Int)) (by omega)
        refine ⟨_, h3, rfl, ?_, ?_⟩
        · simp only [Int.toNat_natCast]
          exact (ih2 _).2 ⟨a.1.toNat, has, rfl⟩
        · simp only
          rw [h2, h1, hai, ← hij]
          simp
  intro p hp x hx
  obtain ⟨k1, k2⟩ := key _ (ReachP.step x hp hx)
  unfold badP
  generalize nextP (smV l).2.2 l.2.2 p x = q at k1 k2 ⊢
  have h1 : q.1 = 0 ↔ q.2 = 0 := by
    rw [nat_zero, nat_zero]
    constructor
    · intro h1 i hi
      exact h1 _ ((k2 _).2 ⟨i, hi, rfl⟩)
    · intro h1 j hj
      obtain ⟨i, hi, -⟩ := (k2 j).1 hj
      exact h1 i hi
  by_cases h2 : q.1 = 0
  · rw [h2, h1.1 h2]; rfl
  · have h3 : q.2 ≠ 0 := fun h => h2 (h1.2 h)
    rw [show (q.1 == 0) = false by simpa using h2, show (q.2 == 0) = false by simpa using h3]
    rfl
end
end Go.Proofs.Ytcilgihmaaobeaa
end

section
namespace Go.Sd
open Go.ChangeShapes Go.WideShapes Go.ChangeAt Go.RowKit Go.Deep
section
variable {H : Type} {enc : TypeId × Value → H} {P : Program} {W : World} {base : Nat}
theorem open_Bytes {t q : TypeId} (ht : P.underlying t = some (.slice q)) (hq : P.underlying q = some (.int .u8)) (cq : P.cellsOf q = 1) {v : Value} {d : DataW H} {p : List MemPlace}
    (hv : Value.okWide P W .any base t v) (h : DataW.Trod enc P W 0 (fun _ => true) true t v d p) : ∃ xs, BytR W v xs ∧ True := by
  obtain ⟨a, len, cap, rfl⟩ := okWide_slice ht hv
  obtain ⟨fuel, hf⟩ := h
  have h := hf
  simp only [Value.cells] at h
  rcases open_ints ht hq cq h with ⟨hcs, _⟩ | ⟨a', l, c, zs, hcs, _, hl, hm, hz, _, hcell, hwz⟩
  · simp at hcs
    obtain ⟨rfl, rfl, rfl⟩ := hcs
    exact ⟨[], ⟨[], Sl.mk' rfl (by simp) (by simp) (by simp) (by simp), rfl, by simp⟩, trivial⟩
  · simp at hcs
    obtain ⟨rfl, rfl, rfl⟩ := hcs
    simp only [if_true] at hz
    have hm' : cap ≤ 9223372036854775807 := hm
    refine ⟨zs.take len, ⟨(zs.take len).map (Value.int .u8), Sl.mk' (by simp; omega) hl hm' ?_ (by simp), by simp, ?_⟩, trivial⟩
    · intro a'' ha i u hu
      cases ha
      rw [List.getElem?_map, Option.map_eq_some_iff] at hu
      obtain ⟨z, hz1, rfl⟩ := hu
      have hi : i < (zs.take len).length := (List.getElem?_eq_some_iff.1 hz1).1
      rw [List.length_take] at hi
      rw [List.getElem?_take, if_pos (by omega)] at hz1
      have := hcell i (by omega)
      rw [List.getD, hz1] at this
      simpa using this
    · intro i u z hu hz1
      rw [List.getElem?_map, hz1] at hu
      simp at hu
      exact hu.symm
end
end Go.Sd
end

section
namespace Go.Proofs.Ytcilgihmaaobeaa
open Go.RowKit Go.Deep Go.Sd
set_option linter.unusedSimpArgs false
set_option maxHeartbeats 1000000 in
theorem big_c {w : World} {a : Option Addr} {n c : Nat} (hn : n ≤ 9223372036854775807) :
    Calls Try.prog 5 #[.slice a n c] w fun e w' => e = .returned (.bool (decide (1048576 < n))) ∧ w = w' := by
  have hd : decide ((1048576 : Int) < (n : Int)) = decide (1048576 < n) := decide_eq_decide.2 (by omega)
  generalize decide (1048576 < n) = D at hd ⊢
  go_enter Try.func5, Try.ntmps5
  go_wp2
  go_ret
  exact ⟨by rw [← hd]; rfl, rfl⟩
end Go.Proofs.Ytcilgihmaaobeaa
end
