/-
  CountSync, the reference's.
-/
import Derived.Test.YtjgiobapdkdhpaaRows
import Derived.Test.YtjgiobapdkdhpaaBase
import Derived.Test.YtjgiobapdkdhpaaHarn
import Derived.Test.YtjgiobapdkdhpaaLab
import Derived.Test.YtjgiobapdkdhpaaLabC
import Derived.Test.YtjgiobapdkdhpaaLabM
import Derived.Test.YtjgiobapdkdhpaaResolv
import Derived.Test.YtjgiobapdkdhpaaRead
import Derived.Test.YtjgiobapdkdhpaaReadFrom
import Derived.Test.YtjgiobapdkdhpaaRank
import Derived.Test.YtjgiobapdkdhpaaWordRank
import Derived.Test.YtjgiobapdkdhpaaLeastRS
import Derived.Test.YtjgiobapdkdhpaaWordM
import Derived.Test.YtjgiobapdkdhpaaWordI
import Derived.Test.YtjgiobapdkdhpaaL2All
import Derived.Test.YtjgiobapdkdhpaaWalkH
import Derived.IntWalk
import Derived.Deep.RegionHeld3
import Derived.Deep.DeepCutAuto
import Derived.Test.YtjgiobapdkdhpaaCountSI
import Derived.Test.YtjgiobapdkdhpaaWord
namespace Go.Proofs.Ytjgiobapdkdhpaa
open Go.RowKit Go.Deep Go.Sd
set_option linter.unusedSimpArgs false
theorem letB_of {N : Nat} (hN : N ≤ 3) : ∀ wd : List Nat, (∀ x, x ∈ wd → x < N) → letB (N : Int) (wd.map fun x => UInt8.ofNat (97 + x)) = true
  | [], _ => rfl
  | x :: wd, h => by
    have hx := h x (by simp)
    have e4 : (UInt8.ofNat (97 + x)).toNat = 97 + x := by simp; omega
    simp only [List.map_cons, letB]
    rw [e4, if_pos (by omega)]
    exact letB_of hN wd fun y hy => h y (List.mem_cons_of_mem _ hy)
theorem wordM_of {N : Nat} (h1 : 1 ≤ N) (hN : N ≤ 3) {wd : List Nat} (hl : wd.length ≤ 16) (hw : ∀ x, x ∈ wd → x < N) : wordM (N : Int) (wordT wd) = true := by
  unfold wordM
  rw [decide_eq_true (by omega), wordT_size, decide_eq_true hl]
  exact letB_of hN wd hw
theorem rank_cnt {L : Lb} {N : Nat} (hr : resolvM L = true) (hL : L.1 = (N : Int)) (h1 : 1 ≤ N) (hN : N ≤ 3) {wd : List Nat} (hl : wd.length ≤ 16) (hw : ∀ x, x ∈ wd → x < N) : decide (rankM L (wordT wd) = 1) = cntF L wd := by
  unfold rankM cntF endN
  rw [hr, hL, wordM_of h1 hN hl hw, if_pos (show (true && true) = true from rfl)]
  by_cases h : popN (readB L.2.2 (wordT wd).data.toList (allN L.2.1)) = 1
  · rw [decide_eq_true h, decide_eq_true (by omega)]
  · rw [decide_eq_false h, decide_eq_false (by omega)]
theorem l1Bit_c (b : Bool) (w : World) : Calls Try.prog 122 #[.bool b] w fun e w' => e = .returned (.int .i64 (if b = true then 1 else 0)) ∧ w = w' := by
  cases b with
  | true =>
    go_enter Try.func122, Try.ntmps122
    go_wp2
    go_ret
    exact ⟨rfl, rfl⟩
  | false =>
    go_enter Try.func122, Try.ntmps122
    go_wp2
    go_ret
    exact ⟨rfl, rfl⟩
set_option maxHeartbeats 4000000 in
set_option maxRecDepth 100000 in
theorem spec_CountSync_c {w : World} {v : Value} {l : Lb} (h : LabR w v l) {m : Int} (hI : I64 m) :
    Calls Try.prog 54 #[v, .int .i64 m] w fun e w' => e = .returned (.int .i64 (countM l m)) ∧ Below w.heap.size w w' := by
  have H1 := Lib.hid (fun w1 (hb : Below w.heap.size w w1) => spec_IsResolving_c (LabR.frame _ _ _ _ h hb))
  have Hfr := Lib.hid (fun w1 (hb : Below w.heap.size w w1) => LabR.frame _ _ _ _ h hb)
  obtain ⟨T, hT⟩ : ∃ T, T = countM l m := ⟨_, rfl⟩
  rw [← hT]
  have HT := Lib.hid hT
  clear hT
  have Hok := Lib.hid (fun h => resolv_facts (l := l) h)
  have HF0 := Lib.hid (fun (h : resolvM l = false) => (show countM l m = -1 from by unfold countM; rw [h]; rfl))
  generalize hil : resolvM l = il at H1
  have Hil := Lib.hid hil
  clear hil
  obtain ⟨L, S, xs⟩ := l
  obtain ⟨_, rfl, -, a, c, rfl, -, -, -, -⟩ := h
  simp only at *
  generalize hn : xs.length = n at *
  clear hn
  obtain ⟨w1, ex, hb1, c0, c1, c2, m1⟩ := boxA3_ex w 28 (.int .i64 L) (.int .i64 S) (.slice a n c)
  have A1 := Lib.hid hb1
  clear hb1
  go_enter Try.func54, Try.ntmps54
  go_wp2_with fail
  refine (H1.out _ A1.out).mono ?_
  rintro e w2 ⟨rfl, hb1⟩
  replace c0 := (hb1.cell (p := ⟨w.heap.size, 0, none⟩) m1).trans c0
  replace c1 := (hb1.cell (p := ⟨w.heap.size, 1, none⟩) m1).trans c1
  replace c2 := (hb1.cell (p := ⟨w.heap.size, 2, none⟩) m1).trans c2
  have m2 : w.heap.size < w2.heap.size := Nat.lt_of_lt_of_le m1 hb1.size
  replace A1 := Lib.hid (A1.out.trans (hb1.mono A1.out.size))
  clear hb1 ex H1 m1
  cases il with
  | false =>
    have HF := Lib.hid (show T = -1 from by rw [HT.out]; exact HF0.out Hil.out)
    clear HT HF0 Hil Hok Hfr
    go_wp2
    go_ret
    exact ⟨by rw [HF.out]; rfl, A1.out⟩
  | true =>
  have Hil2 := Lib.hid (Hok.out Hil.out)
  clear Hok HF0
  have Hin := Lib.hid (fun w1 => l1In_c m 0 6 w1)
  by_cases h06 : ¬ (0 ≤ m ∧ m ≤ 6)
  · have HF := Lib.hid (show T = -1 from by rw [HT.out]; unfold countM; rw [decide_eq_false h06]; simp)
    have hin : (decide (0 ≤ m) && decide (m ≤ 6)) = false := by
      by_cases h0 : 0 ≤ m
      · rw [decide_eq_true h0, decide_eq_false (by omega)]; rfl
      · rw [decide_eq_false h0]; rfl
    rw [hin] at Hin
    clear HT Hil Hil2 Hfr hin h06
    go_wp2_with fail
    refine (Hin.out _).mono ?_
    rintro e w' ⟨rfl, rfl⟩
    go_wp2
    go_ret
    exact ⟨by rw [HF.out]; rfl, A1.out⟩
  have h06' : 0 ≤ m ∧ m ≤ 6 := by omega
  have hin : (decide (0 ≤ m) && decide (m ≤ 6)) = true := by rw [decide_eq_true h06'.1, decide_eq_true h06'.2]; rfl
  rw [hin] at Hin
  obtain ⟨ho, hS1, hS2, hL1, hL2⟩ := Hil2.out
  obtain ⟨N, rfl⟩ := Int.eq_ofNat_of_zero_le (show 0 ≤ L by omega)
  obtain ⟨k, rfl⟩ := Int.eq_ofNat_of_zero_le (show 0 ≤ m by omega)
  have HT2 := Lib.hid (show T = (((allW N k).filter (cntF ((N : Int), S, xs))).length : Int) from by rw [HT.out]; unfold countM; rw [Hil.out, decide_eq_true (by omega)]; rfl)
  have HA := Lib.hid (fun w1 => l2All_c (w := w1) (L := N) (n := k) (by omega) (by omega) (by omega))
  have Hme := Lib.hid (fun wd (h : wd ∈ allW N k) => (show (wd.length ≤ 16 ∧ ∀ x, x ∈ wd → x < N) from by have h1 := allW_mem (show 0 < N by omega) h; exact ⟨by omega, h1.2⟩))
  have Hsy := Lib.hid (fun wd (h : wd ∈ allW N k) => (show decide (rankM ((N : Int), S, xs) (wordT wd) = 1) = cntF ((N : Int), S, xs) wd from rank_cnt (N := N) Hil.out rfl (by omega) (by omega) (Hme.out wd h).1 (Hme.out wd h).2))
  have HC := Lib.hid (fun w1 wd (hb : Below w.heap.size w w1) (h : wd ∈ allW N k) => (show Calls Try.prog 123 #[.agg #[.int .i64 (N : Int), .int .i64 S, .slice a n c], .string (wordT wd)] w1 fun e w' => e = .returned (.bool (cntF ((N : Int), S, xs) wd)) ∧ Below w1.heap.size w1 w' from by rw [← Hsy.out wd h]; exact spec_IsSynchronizing_c (Hfr.out w1 hb) (by rw [wordT_size]; have := (Hme.out wd h).1; unfold maxLen; omega)))
  have hlen : (allW N k).length ≤ 729 := by rw [allW_len (by omega)]; exact pow_le (by omega) (by omega)
  generalize cntF ((N : Int), S, xs) = f at HT2 HC
  generalize allW N k = A at HT2 HA HC hlen
  clear HT Hil Hil2 ho Hfr hS1 hS2 hL1 hL2 hin h06 h06' Hsy Hme
  go_wp2_with fail
  refine (Hin.out _).mono ?_
  rintro e w' ⟨rfl, rfl⟩
  go_wp2_with fail
  refine (HA.out _).mono ?_
  rintro e w3 ⟨r, rfl, hn, hb⟩
  have hn2 : SlOf (ValR Value.string) w3 r (A.map wordT) := by obtain ⟨F, hF, _⟩ := hn; exact OwnOf.reads (fun _ _ _ _ h => h.1) hF
  obtain ⟨ra, rc, rfl, _, _, hcell⟩ := hn2.shape
  have A3 := Lib.hid (A1.out.trans (hb.mono A1.out.size))
  replace c0 := (hb.cell (p := ⟨w.heap.size, 0, none⟩) m2).trans c0
  replace c1 := (hb.cell (p := ⟨w.heap.size, 1, none⟩) m2).trans c1
  replace c2 := (hb.cell (p := ⟨w.heap.size, 2, none⟩) m2).trans c2
  have m3 : w.heap.size < w3.heap.size := Nat.lt_of_lt_of_le m2 hb.size
  have K0 := Lib.hid c0
  have K1 := Lib.hid c1
  have K2 := Lib.hid c2
  have Hcell := Lib.hid hcell
  rw [List.length_map] at Hcell ⊢
  clear hn hn2 hb HA A1 Hin hcell c0 c1 c2 m2
  go_wp2
  go_loopg [5, 7] A.length (fun g s i wr => ∃ (j : Nat), s = .int .i64 (((A.take j).filter f).length : Int) ∧ i = .int .i64 j ∧ j + g = A.length ∧ Hid (Below w3.heap.size w3 wr))
  case atStart => exact ⟨0, rfl, rfl, by omega, Lib.hid (Below.refl _ _)⟩
  case round =>
    obtain ⟨j, rfl, rfl, hj, HB⟩ := hrel
    by_cases hjl : j < A.length
    · obtain ⟨wd, hwd, _⟩ := at_lt hjl
      obtain ⟨b, o, rfl, hb, hx0⟩ := Hcell.out (by omega)
      obtain ⟨u, hu, rfl⟩ := hx0 j (wordT wd) (by simp [hwd])
      have g0 := (HB.out.cell (p := ⟨b, o + j, none⟩) hb).trans hu
      have hz := HB.out.size
      have c0 := (HB.out.cell (p := ⟨w.heap.size, 0, none⟩) m3).trans K0.out
      have c1 := (HB.out.cell (p := ⟨w.heap.size, 1, none⟩) m3).trans K1.out
      have c2 := (HB.out.cell (p := ⟨w.heap.size, 2, none⟩) m3).trans K2.out
      have AW := Lib.hid (A3.out.trans (HB.out.mono A3.out.size))
      have C1 := Lib.hid (fun w1 (h : Below w.heap.size w w1) => HC.out w1 wd h (List.mem_of_getElem? hwd))
      have HT := Lib.hid (show (((A.take (j + 1)).filter f).length : Int) = (((A.take j).filter f).length : Int) + (if f wd = true then 1 else 0) from by
        rw [← take_snoc' hwd, List.filter_append, List.length_append]
        cases hf : f wd <;> simp [List.filter_cons, hf])
      have hfl : ((A.take j).filter f).length ≤ 729 := Nat.le_trans (List.length_filter_le _ _) (by simp; omega)
      generalize ((A.take j).filter f).length = q at HT hfl ⊢
      generalize f wd = fb at C1 HT
      have C2 := Lib.hid (fun w => l1Bit_c fb w)
      have hz' : (if fb = true then (1 : Int) else 0) = 0 ∨ (if fb = true then (1 : Int) else 0) = 1 := by cases fb <;> simp
      generalize (if fb = true then (1 : Int) else 0) = z at C2 HT hz'
      have hwz : wrap64 ((q : Int) + z) = (q : Int) + z := IntWalk.wrap64_in _ (by omega)
      have hwz2 : IntKind.i64.wrap ((q : Int) + z) = (q : Int) + z := IntWalk.i64_in _ (by omega)
      have hji : (j : Int) < (A.length : Int) := by omega
      have hS0 : wr.cell? ⟨w.heap.size, 0, none⟩ = some (.int .i64 (N : Int)) ∧ wr.cell? ⟨w.heap.size, 1, none⟩ = some (.int .i64 S) ∧ wr.cell? ⟨w.heap.size, 2, none⟩ = some (.slice a n c) ∧ wr.cell? ⟨b, o + j, none⟩ = some (.string (wordT wd)) := ⟨c0, c1, c2, g0⟩
      have hSd : wr.drew.cell? ⟨w.heap.size, 0, none⟩ = some (.int .i64 (N : Int)) ∧ wr.drew.cell? ⟨w.heap.size, 1, none⟩ = some (.int .i64 S) ∧ wr.drew.cell? ⟨w.heap.size, 2, none⟩ = some (.slice a n c) ∧ wr.drew.cell? ⟨b, o + j, none⟩ = some (.string (wordT wd)) := hS0
      have m4 : w.heap.size < wr.heap.size := by omega
      have hb4 : b < wr.heap.size := by omega
      have HSS := Lib.hid (fun (w' : World) (hb3 : Below wr.heap.size wr w') => (show w'.cell? ⟨w.heap.size, 0, none⟩ = some (.int .i64 (N : Int)) ∧ w'.cell? ⟨w.heap.size, 1, none⟩ = some (.int .i64 S) ∧ w'.cell? ⟨w.heap.size, 2, none⟩ = some (.slice a n c) ∧ w'.cell? ⟨b, o + j, none⟩ = some (.string (wordT wd)) from ⟨(hb3.cell (p := ⟨w.heap.size, 0, none⟩) m4).trans hS0.1, (hb3.cell (p := ⟨w.heap.size, 1, none⟩) m4).trans hS0.2.1, (hb3.cell (p := ⟨w.heap.size, 2, none⟩) m4).trans hS0.2.2.1, (hb3.cell (p := ⟨b, o + j, none⟩) hb4).trans hS0.2.2.2⟩))
      have B1 := (Below.refl wr.heap.size wr).drew
      have AW1 := AW.out.trans (B1.mono AW.out.size)
      clear hwd hx0 hu g0 c0 c1 c2 hz'
      go_wp2
      go_region_held3 (fun w' => w'.cell? ⟨w.heap.size, 0, none⟩ = some (.int .i64 (N : Int)) ∧ w'.cell? ⟨w.heap.size, 1, none⟩ = some (.int .i64 S) ∧ w'.cell? ⟨w.heap.size, 2, none⟩ = some (.slice a n c) ∧ w'.cell? ⟨b, o + j, none⟩ = some (.string (wordT wd)))
        (first | with_reducible exact hS1 | with_reducible exact hSd | with_reducible exact hS0 | go_keep)
        ((first
          | (go_at_call 122; (with_reducible refine (C2.out _).mono ?_); rintro e w' ⟨rfl, rfl⟩)
          | (go_at_call 123; (with_reducible refine (C1.out _ AW1).mono ?_); rintro e w4 ⟨rfl, hb⟩; have B2 := B1.trans (hb.mono B1.size); have hS1 := HSS.out _ B2; clear hb)
          | fail))
      have HB2 := Lib.hid (HB.out.trans (B2.mono hz))
      clear hS0 hSd HSS B1 B2 AW1 hS1
      go_wp2
      go_roundg (A.length - (j + 1))
      case measure => omega
      case rel => exact ⟨j + 1, by rw [HT.out], by go_num, by omega, HB2⟩
    · have HF := Lib.hid (show T = (((A.take j).filter f).length : Int) from by rw [HT2.out, List.take_of_length_le (by omega)])
      have hji : ¬ ((j : Int) < (A.length : Int)) := by omega
      generalize ((A.take j).filter f).length = q at HF ⊢
      have AW := Lib.hid (A3.out.trans (HB.out.mono A3.out.size))
      clear HB Hcell
      go_wp2
      go_ret
      exact ⟨by rw [HF.out]; rfl, AW.out⟩
end Go.Proofs.Ytjgiobapdkdhpaa
