/-
  Texts of this claim joined: laws for its walks, contracts of the functions that the law reaches.
-/
import Derived.Test.YtcilgihmaaobeaaFnResolvedM16
import Derived.Test.YtcilgihmaaobeaaFnResolvedM14
import Derived.Test.YtcilgihmaaobeaaFnResolvedM13
import Derived.Test.YtcilgihmaaobeaaFnResolvedM2
import Derived.Test.YtcilgihmaaobeaaFnResolvedM4
import Derived.Test.YtcilgihmaaobeaaFnResolvedM18
import Derived.Deep.RegionHeld3
import Derived.Deep.DeepCutAuto
import Derived.Test.YtcilgihmaaobeaaRows
import Derived.Test.YtcilgihmaaobeaaFnResolvedM1
import Derived.WideKeyPair
import Derived.Maps.Keyed
set_option linter.unusedVariables false
set_option linter.unusedSimpArgs false
section
namespace Go.Proofs.Ytcilgihmaaobeaa
open Go.RowKit Go.Deep Go.Sd Go.Maps
set_option linter.unusedSimpArgs false
set_option maxHeartbeats 8000000 in
set_option maxRecDepth 100000 in
theorem impl_ResolveLabels_c {w : World} {v : Value} {l : Lb} (h : LabR w v l) :
    Calls Try.prog 7 #[v] w (Makes2 OLab w (rslV l) (rslOk l)) := by
  have H1 := Lib.hid (fun w1 (hb : Below w.heap.size w w1) => impl_TrimLabels_c (LabR.frame _ _ _ _ h hb))
  have HV := Lib.hid (show rslV l = if trimOk l = true then rslR l.1 (rslT l) else (0, 0, []) from rfl)
  have HO := Lib.hid (show rslOk l = (trimOk l && (rslT l).isSome) from rfl)
  have Hok := Lib.hid (fun (hr : trimOk l = true) => trim_ok hr)
  have HTe := Lib.hid (show rslT l = bfsR (trimV l).2.2 (trimV l).1.toNat 4096 [allN (trimV l).2.1] 0 [] from rfl)
  generalize rslV l = V at HV ⊢
  generalize rslOk l = ok at HO ⊢
  generalize rslT l = T at HV HO HTe
  generalize trimOk l = il at H1 HV HO Hok
  generalize trimV l = t at H1 Hok HTe
  obtain ⟨L, S, xs⟩ := l
  obtain ⟨tL, tS, txs⟩ := t
  obtain ⟨va, rfl, -, a, cc, rfl, -, -, -, -⟩ := h
  simp only at *
  generalize hn : xs.length = n at *
  clear hn
  obtain ⟨wA, eA, hA0⟩ : ∃ wA, wA = (w.alloc (.cells #[.int .i64 L, .int .i64 S, .slice a n cc] 26)).alloc (.cells #[.int .i64 0, .int .i64 0, .slice none 0 0] 26) ∧ Below w.heap.size w wA := ⟨_, rfl, ((Below.refl _ _).alloc (Nat.le_refl _) _).alloc (by simp) _⟩
  have zA : wA.heap.size = w.heap.size + 1 + 1 := by rw [eA]; simp
  have l0 : wA.cell? ⟨w.heap.size, 0, none⟩ = some (.int .i64 L) := by rw [eA]; simp [go_sem]
  have l1 : wA.cell? ⟨w.heap.size, 1, none⟩ = some (.int .i64 S) := by rw [eA]; simp [go_sem]
  have l2 : wA.cell? ⟨w.heap.size, 2, none⟩ = some (.slice a n cc) := by rw [eA]; simp [go_sem]
  have R0 := Lib.hid (show wA.cell? ⟨w.heap.size + 1, 0, none⟩ = some (.int .i64 0) from by rw [eA]; simp [go_sem])
  have R1 := Lib.hid (show wA.cell? ⟨w.heap.size + 1, 1, none⟩ = some (.int .i64 0) from by rw [eA]; simp [go_sem])
  have R2 := Lib.hid (show wA.cell? ⟨w.heap.size + 1, 2, none⟩ = some (.slice none 0 0) from by rw [eA]; simp [go_sem])
  have F0 := Lib.hid (show wA.frozen? ⟨w.heap.size + 1, 0, none⟩ = false from by rw [eA]; simp [go_sem])
  have F1 := Lib.hid (show wA.frozen? ⟨w.heap.size + 1, 1, none⟩ = false from by rw [eA]; simp [go_sem])
  have F2 := Lib.hid (show wA.frozen? ⟨w.heap.size + 1, 2, none⟩ = false from by rw [eA]; simp [go_sem])
  have HA := Lib.hid hA0
  have eW := eA.symm
  have h1w : w.heap.size + 1 < wA.heap.size := by omega
  have h0w : w.heap.size < wA.heap.size := by omega
  clear eA hA0 zA
  go_enter Try.func7, Try.ntmps7
  go_wp2_with fail
  refine (H1.out _ HA.out).mono ?_
  rintro e w1 ⟨r, rfl, hn, hb1⟩
  obtain ⟨ta, tn, tc, er⟩ := hn.labAgg
  simp only at er
  subst er
  replace l0 := (hb1.cell (p := ⟨w.heap.size, 0, none⟩) h0w).trans l0
  replace l1 := (hb1.cell (p := ⟨w.heap.size, 1, none⟩) h0w).trans l1
  replace l2 := (hb1.cell (p := ⟨w.heap.size, 2, none⟩) h0w).trans l2
  replace R0 := Lib.hid ((hb1.cell (p := ⟨w.heap.size + 1, 0, none⟩) h1w).trans R0.out)
  replace F0 := Lib.hid ((hb1.frozen (p := ⟨w.heap.size + 1, 0, none⟩) h1w).trans F0.out)
  replace R1 := Lib.hid ((hb1.cell (p := ⟨w.heap.size + 1, 1, none⟩) h1w).trans R1.out)
  replace F1 := Lib.hid ((hb1.frozen (p := ⟨w.heap.size + 1, 1, none⟩) h1w).trans F1.out)
  replace R2 := Lib.hid ((hb1.cell (p := ⟨w.heap.size + 1, 2, none⟩) h1w).trans R2.out)
  replace F2 := Lib.hid ((hb1.frozen (p := ⟨w.heap.size + 1, 2, none⟩) h1w).trans F2.out)
  have A1 := Lib.hid (HA.out.trans (hb1.mono HA.out.size))
  replace h1w : w.heap.size + 1 < w1.heap.size := Nat.lt_of_lt_of_le h1w hb1.size
  replace h0w : w.heap.size < w1.heap.size := Nat.lt_of_lt_of_le h0w hb1.size
  have Ht := Lib.hid (fun w' (hb : Below w1.heap.size w1 w') => LabR.frame _ _ _ _ hn.lab (hb.mono (Nat.le_refl _)))
  obtain ⟨w2, e2, hb2, q0, q1, q2, m2⟩ := boxA3_ex w1 26 (.int .i64 tL) (.int .i64 tS) (.slice ta tn tc)
  have z2 : w2.heap.size = w1.heap.size + 1 := by rw [← e2]; simp
  replace l0 := (hb2.cell (p := ⟨w.heap.size, 0, none⟩) h0w).trans l0
  replace l1 := (hb2.cell (p := ⟨w.heap.size, 1, none⟩) h0w).trans l1
  replace l2 := (hb2.cell (p := ⟨w.heap.size, 2, none⟩) h0w).trans l2
  replace R0 := Lib.hid ((hb2.cell (p := ⟨w.heap.size + 1, 0, none⟩) h1w).trans R0.out)
  replace F0 := Lib.hid ((hb2.frozen (p := ⟨w.heap.size + 1, 0, none⟩) h1w).trans F0.out)
  replace R1 := Lib.hid ((hb2.cell (p := ⟨w.heap.size + 1, 1, none⟩) h1w).trans R1.out)
  replace F1 := Lib.hid ((hb2.frozen (p := ⟨w.heap.size + 1, 1, none⟩) h1w).trans F1.out)
  replace R2 := Lib.hid ((hb2.cell (p := ⟨w.heap.size + 1, 2, none⟩) h1w).trans R2.out)
  replace F2 := Lib.hid ((hb2.frozen (p := ⟨w.heap.size + 1, 2, none⟩) h1w).trans F2.out)
  have A2 := Lib.hid (A1.out.trans (hb2.mono A1.out.size))
  replace h1w : w.heap.size + 1 < w2.heap.size := by omega
  replace h0w : w.heap.size < w2.heap.size := by omega
  have H2 := Lib.hid hb2
  clear eW hb1 H1 HA hn hb2
  cases il with
  | false =>
    have HW := Lib.hid (show V = (0, 0, []) from by rw [HV.out]; rfl)
    have HF := Lib.hid (show ok = false from by rw [HO.out]; rfl)
    clear HV HO Hok HTe Ht H2 q0 q1 q2
    have r0 := R0.out
    have r1 := R1.out
    have r2 := R2.out
    have t0 := F0.out
    have t1 := F1.out
    have t2 := F2.out
    go_wp2
    have s0 := World.cell?_setCell_same w2 _ (.int .i64 0) R0.out
    have u1 := (World.cell?_setCell_other _ ⟨w.heap.size + 1, 0, none⟩ _ (.int .i64 0) (by simp)).trans R1.out
    have s1 := World.cell?_setCell_same _ _ (.int .i64 0) u1
    have u2 := (World.cell?_setCell_other _ ⟨w.heap.size + 1, 1, none⟩ _ (.int .i64 0) (by simp)).trans ((World.cell?_setCell_other _ ⟨w.heap.size + 1, 0, none⟩ _ (.int .i64 0) (by simp)).trans R2.out)
    have s2 := World.cell?_setCell_same _ _ (.slice none 0 0) u2
    refine bodyPost_ret (v := .tuple #[.agg #[.int .i64 0, .int .i64 0, .slice none 0 0], .bool false]) (by simp [results, Try.results7, go_sem, s0, s1, s2]) rfl ?_
    exact ⟨_, by rw [HF.out], by rw [HW.out]; exact New.lab0, (((A2.out.setCell (p := ⟨w.heap.size + 1, 0, none⟩) (by simp) _).setCell (p := ⟨w.heap.size + 1, 1, none⟩) (by simp) _).setCell (p := ⟨w.heap.size + 1, 2, none⟩) (by simp) _)⟩
  | true =>
  obtain ⟨ho, hS1, hS2, hL1, hL2, hLL, -⟩ := Hok.out (by first | rfl | trivial)
  replace HO := Lib.hid (show ok = T.isSome from HO.out)
  replace HV := Lib.hid (show V = rslR L T from HV.out)
  subst hLL
  obtain ⟨N, rfl⟩ := Int.eq_ofNat_of_zero_le (show 0 ≤ tL by omega)
  rw [show ((N : Nat) : Int).toNat = N from rfl] at HTe
  have HO' := HO
  clear HO
  have HAl := Lib.hid (fun w' (hb : Below w1.heap.size w1 w') => impl_all_c (Ht.out w' hb) hS1 hS2)
  have HSt := Lib.hid (fun w' (hb : Below w1.heap.size w1 w') q (hq : q < 4096) x => impl_step_c (Ht.out w' hb) ho hS2 hq x)
  have Hlt := Lib.hid (fun q x => stepN_lt ho hS2 q x)
  simp only at HAl HSt Hlt
  have hA4 := allN_lt hS2
  have HO0 := Lib.hid (all_ok hS1 hS2)
  generalize allN tS = A at hA4 HO0 HAl HTe
  have hN3 : N ≤ 3 := by omega
  clear Hok Ht ho hL1 hL2 hS1 hS2 l0 l1 l2
  have hmm := @run_makeMap Try.prog
  go_wp2_with fail
  refine (HAl.out _ H2.out).mono ?_
  rintro e w3 ⟨rfl, hb3⟩
  replace q0 := (hb3.cell (p := ⟨w1.heap.size, 0, none⟩) m2).trans q0
  replace q1 := (hb3.cell (p := ⟨w1.heap.size, 1, none⟩) m2).trans q1
  replace q2 := (hb3.cell (p := ⟨w1.heap.size, 2, none⟩) m2).trans q2
  replace R0 := Lib.hid ((hb3.cell (p := ⟨w.heap.size + 1, 0, none⟩) h1w).trans R0.out)
  replace F0 := Lib.hid ((hb3.frozen (p := ⟨w.heap.size + 1, 0, none⟩) h1w).trans F0.out)
  replace R1 := Lib.hid ((hb3.cell (p := ⟨w.heap.size + 1, 1, none⟩) h1w).trans R1.out)
  replace F1 := Lib.hid ((hb3.frozen (p := ⟨w.heap.size + 1, 1, none⟩) h1w).trans F1.out)
  replace R2 := Lib.hid ((hb3.cell (p := ⟨w.heap.size + 1, 2, none⟩) h1w).trans R2.out)
  replace F2 := Lib.hid ((hb3.frozen (p := ⟨w.heap.size + 1, 2, none⟩) h1w).trans F2.out)
  have A3 := Lib.hid (A2.out.trans (hb3.mono A2.out.size))
  have H3 := Lib.hid (H2.out.trans (hb3.mono H2.out.size))
  have z3 : w2.heap.size ≤ w3.heap.size := hb3.size
  replace h1w : w.heap.size + 1 < w3.heap.size := by omega
  replace h0w : w.heap.size < w3.heap.size := by omega
  have m3 : w1.heap.size < w3.heap.size := by omega
  clear hb3 H2 A2 e2
  have hs4 := (Sep.nil w3.heap.size w3).new (OInts.kept 3).held ((Below.refl _ _).alloc (Nat.le_refl _) _) (Nat.le_refl _) (New.oneInt (e := 3) w3 (A : Int))
  obtain ⟨w4, e4⟩ : ∃ x, x = w3.alloc (.cells #[.int .i64 (A : Int)] 3) := ⟨_, rfl⟩
  rw [← e4] at hs4
  have hz4 : w4.heap.size = w3.heap.size + 1 := by rw [e4]; simp
  have hb4 : Below w3.heap.size w3 w4 := by rw [e4]; exact (Below.refl _ _).alloc (Nat.le_refl _) _
  have e4s := e4.symm
  have hs5 := hs4.mapNew (by omega) Try.prog 3 3 domS (fun s : Nat => .int .i64 (s : Int)) (fun y : NumS => .lit (.int .i64 (y.1 : Int)))
  rw [namG_nil] at hs5
  obtain ⟨w5, e5⟩ : ∃ x, x = w4.alloc (.map #[] 0) := ⟨_, rfl⟩
  rw [← e5] at hs5
  have hz5 : w5.heap.size = w4.heap.size + 1 := by rw [e5]; simp
  have hb5 : Below w3.heap.size w3 w5 := by rw [e5]; exact hb4.alloc (by omega) _
  have e5s := e5.symm
  replace q0 := (hb5.cell (p := ⟨w1.heap.size, 0, none⟩) m3).trans q0
  replace q1 := (hb5.cell (p := ⟨w1.heap.size, 1, none⟩) m3).trans q1
  replace q2 := (hb5.cell (p := ⟨w1.heap.size, 2, none⟩) m3).trans q2
  have HS5 := Lib.hid hs5
  have HB5 := Lib.hid hb5
  clear e4 e5 hs4 hb4 hs5 hb5
  go_wp2_with fail
  refine (HAl.out _ (H3.out.trans (HB5.out.mono H3.out.size))).mono ?_
  rintro e w6 ⟨rfl, hb6⟩
  have z6 := hb6.size
  obtain ⟨bm, hbm⟩ : ∃ x, x = w3.heap.size + 1 := ⟨_, rfl⟩
  have hs6 := HS5.out.below hb6 (Nat.le_refl _)
  rw [hz4, ← hbm] at hs6
  try rw [← hbm]
  obtain ⟨w7, hr7, hs7, hb7, -⟩ := Sep.namAdd (b := bm) (n := 0) (Z := []) hs6 (by omega) (by omega) A (by unfold domS; omega) (by simp) (by simp)
  have hr7' : (Instr.mapUpdate 55 (.map (some bm)) (.int .i64 (A : Int)) (.int .i64 0)).run Try.prog w6 = .ok () w7 := hr7
  have hb57 := (hb6.mono (show w3.heap.size ≤ w5.heap.size by omega)).trans hb7
  have hb67 := HB5.out.trans hb57
  replace q0 := (hb57.cell (p := ⟨w1.heap.size, 0, none⟩) m3).trans q0
  replace q1 := (hb57.cell (p := ⟨w1.heap.size, 1, none⟩) m3).trans q1
  replace q2 := (hb57.cell (p := ⟨w1.heap.size, 2, none⟩) m3).trans q2
  have HS7 := Lib.hid (show Sep w3.heap.size w7 [Res.nams bm 1 [A], Res.ints 3 (.slice (some ⟨w3.heap.size, 0, none⟩) 1 1) (natL [A])] from hs7)
  have HB7 := Lib.hid hb67
  have z7 := hb67.size
  clear hr7 hs7 hb7 hs6 hb6 hb57 hb67 HS5 HB5 hz4 hz5 hbm z6
  go_wp2
  clear hr7' hmm e4s e5s
  obtain ⟨w8, e8, hb8, o0, o1, o2, m8⟩ := boxA3_ex w7 26 (.int .i64 N) (.int .i64 0) (.slice none 0 0)
  have hs8 := HS7.out.boxNew z7 [.int .i64 N, .int .i64 0, .slice none 0 0] 26
  have hz8 := hb8.size
  have HS0 := Lib.hid (show Sep w3.heap.size w8 [Res.row 59 3 acell (.slice none 0 0) [], Res.box w7.heap.size [.int .i64 N, .int .i64 0, .slice none 0 0], Res.nams bm [A].length [A], Res.ints 3 (.slice (some ⟨w3.heap.size, 0, none⟩) 1 1) (natL [A])] from by
    have hs8' : Sep w3.heap.size w8 [Res.box w7.heap.size [.int .i64 N, .int .i64 0, .slice none 0 0], Res.nams bm [A].length [A], Res.ints 3 (.slice (some ⟨w3.heap.size, 0, none⟩) 1 1) (natL [A])] := by rw [← e8]; exact hs8
    exact hs8'.new RowG.held (Below.refl _ _) (by omega) (RowG.nil (lo := w8.heap.size)))
  have HB0 := Lib.hid (HB7.out.trans (hb8.mono z7))
  rw [e8]
  have K0 := Lib.hid q0
  have K1 := Lib.hid q1
  have K2 := Lib.hid q2
  have Z8 := Lib.hid (show w3.heap.size ≤ w7.heap.size from z7)
  replace K0 := Lib.hid ((hb8.cell (p := ⟨w1.heap.size, 0, none⟩) (show w1.heap.size < w7.heap.size by omega)).trans K0.out)
  replace K1 := Lib.hid ((hb8.cell (p := ⟨w1.heap.size, 1, none⟩) (show w1.heap.size < w7.heap.size by omega)).trans K1.out)
  replace K2 := Lib.hid ((hb8.cell (p := ⟨w1.heap.size, 2, none⟩) (show w1.heap.size < w7.heap.size by omega)).trans K2.out)
  clear HAl hA4 o0 o1 o2 e8 hb8 hs8 q0 q1 q2 HB7 HS7 m8
  have HTs := Lib.hid HTe.out.symm
  have hz38 : w3.heap.size ≤ w8.heap.size := by omega
  have HB00 := Lib.hid (Below.refl w3.heap.size w8)
  clear HTe
  go_loopg [6, 9] 4096 (fun g vs i wr => ∃ (k : Nat) (Z : List Nat) (zs : List Arc3) (sa ya : Option Addr) (sc yn yc : Nat), vs = .slice sa Z.length sc ∧ i = .int .i64 k ∧ k + g = 4096 ∧ Z.length ≤ 12 ∧ zs.length ≤ 3 * k ∧ k ≤ Z.length ∧ Hid (OkS Z) ∧ Hid (bfsR txs N g Z k zs = T) ∧ Hid (Sep w3.heap.size wr [Res.row 59 3 acell (.slice ya yn yc) zs, Res.box w7.heap.size [.int .i64 N, .int .i64 0, .slice ya yn yc], Res.nams bm Z.length Z, Res.ints 3 (.slice sa Z.length sc) (natL Z)]) ∧ Hid (Below w3.heap.size w8 wr))
  case atStart => exact ⟨0, [A], [], _, _, _, _, _, rfl, rfl, by omega, by simp, by simp, by simp, HO0, HTs, HS0, HB00⟩
  case round =>
    clear HO0 HTs HS0 HB00
    obtain ⟨k, Z, zs, sa, ya, sc, yn, yc, rfl, rfl, hk, hZ, has, hkZ, HO, HT, HS, HB⟩ := hrel
    obtain ⟨wq, rfl⟩ : ∃ x, x = wr := ⟨_, rfl⟩
    have zq := HB.out.size
    by_cases hlt : k < Z.length
    · obtain ⟨s, hs, _⟩ := at_lt hlt
      obtain ⟨g, rfl⟩ : ∃ x, gk = x + 1 := ⟨gk - 1, by omega⟩
      have HT2 := Lib.hid (show (if 12 < (rowR txs s k N 0 Z zs).1.length then none else bfsR txs N g (rowR txs s k N 0 Z zs).1 (k + 1) (rowR txs s k N 0 Z zs).2) = T from by have h := HT.out; unfold bfsR at h; rw [hs] at h; exact h)
      have Hs := Lib.hid hs
      have q0 := (HB.out.cell (p := ⟨w1.heap.size, 0, none⟩) m3).trans K0.out
      have hki : (k : Int) < (Z.length : Int) := by omega
      clear HT hs
      go_wp2
      go_loopg [6, 40] N (fun g2 vs i wr => ∃ (x : Nat) (Z : List Nat) (zs : List Arc3) (sa ya : Option Addr) (sc yn yc : Nat), vs = .slice sa Z.length sc ∧ i = .int .i64 x ∧ x + g2 = N ∧ k < Z.length ∧ Z.length ≤ 12 + x ∧ zs.length ≤ 3 * k + x ∧ Hid (OkS Z) ∧ Hid (Z[k]? = some s) ∧ Hid ((if 12 < (rowR txs s k g2 x Z zs).1.length then none else bfsR txs N g (rowR txs s k g2 x Z zs).1 (k + 1) (rowR txs s k g2 x Z zs).2) = T) ∧ Hid (Sep w3.heap.size wr [Res.row 59 3 acell (.slice ya yn yc) zs, Res.box w7.heap.size [.int .i64 N, .int .i64 0, .slice ya yn yc], Res.nams bm Z.length Z, Res.ints 3 (.slice sa Z.length sc) (natL Z)]) ∧ Hid (Below w3.heap.size w8 wr))
      case atStart => exact ⟨0, Z, zs, _, _, _, _, _, rfl, rfl, by omega, hlt, by omega, by omega, HO, Hs, HT2, HS, HB⟩
      case round =>
        have hk12 : k < 12 := by omega
        clear HO Hs HT2 HS HB hlt hki hZ has hkZ q0 zq
        obtain ⟨x, Z, zs, sa, ya, sc, yn, yc, rfl, rfl, hx, hlt, hZ, has, HO, Hs, HT2, HS, HB⟩ := hrel
        obtain ⟨wx, rfl⟩ : ∃ x, x = wr := ⟨_, rfl⟩
        have zx := HB.out.size
        by_cases hxl : x < N
        · obtain ⟨g2, hg2⟩ : ∃ y, gk = y + 1 := ⟨gk - 1, by omega⟩
          subst hg2
          have hki : (k : Int) < (Z.length : Int) := by omega
          have hxi : (x : Int) < (N : Int) := by omega
          obtain ⟨_, _, hv, _, hq⟩ := (HS.out.front [_, _, _]).intsAt
          obtain ⟨bl, e1, hbl, hcl⟩ := hq (by simp; omega)
          simp at hv
          obtain ⟨rfl, rfl⟩ := hv
          subst e1
          have f0 := hcl k (s : Int) (by simp [Hs.out])
          have hs4 := (HO.out.2 s (List.mem_of_getElem? Hs.out)).2
          have q0 := (HB.out.cell (p := ⟨w1.heap.size, 0, none⟩) m3).trans K0.out
          have q1 := (HB.out.cell (p := ⟨w1.heap.size, 1, none⟩) m3).trans K1.out
          have q2 := (HB.out.cell (p := ⟨w1.heap.size, 2, none⟩) m3).trans K2.out
          have HA := Lib.hid ((H3.out.trans (HB0.out.mono H3.out.size)).trans (HB.out.mono H3.out.size))
          have C1 := Lib.hid (fun w' (hb : Below w1.heap.size w1 w') => HSt.out w' hb s hs4 (x : Int))
          have Htl := Lib.hid (Hlt.out s (x : Int))
          have HTx := Lib.hid (show (if 12 < (rowR txs s k g2 (x + 1) (addS Z (stepN txs s (x : Int))) (if stepN txs s (x : Int) = 0 then zs else zs ++ [((k : Int), posS Z (stepN txs s (x : Int)), (x : Int))])).1.length then none else bfsR txs N g (rowR txs s k g2 (x + 1) (addS Z (stepN txs s (x : Int))) (if stepN txs s (x : Int) = 0 then zs else zs ++ [((k : Int), posS Z (stepN txs s (x : Int)), (x : Int))])).1 (k + 1) (rowR txs s k g2 (x + 1) (addS Z (stepN txs s (x : Int))) (if stepN txs s (x : Int) = 0 then zs else zs ++ [((k : Int), posS Z (stepN txs s (x : Int)), (x : Int))])).2) = T from HT2.out)
          generalize stepN txs s (x : Int) = t at C1 Htl HTx
          have hS0 : wx.cell? ⟨w1.heap.size, 0, none⟩ = some (.int .i64 N) ∧ wx.cell? ⟨w1.heap.size, 1, none⟩ = some (.int .i64 tS) ∧ wx.cell? ⟨w1.heap.size, 2, none⟩ = some (.slice ta tn tc) ∧ wx.cell? ⟨bl, k, none⟩ = some (.int .i64 (s : Int)) := ⟨q0, q1, q2, f0⟩
          have hSd : wx.drew.cell? ⟨w1.heap.size, 0, none⟩ = some (.int .i64 N) ∧ wx.drew.cell? ⟨w1.heap.size, 1, none⟩ = some (.int .i64 tS) ∧ wx.drew.cell? ⟨w1.heap.size, 2, none⟩ = some (.slice ta tn tc) ∧ wx.drew.cell? ⟨bl, k, none⟩ = some (.int .i64 (s : Int)) := hS0
          have m1x : w1.heap.size < wx.heap.size := by omega
          have HSS := Lib.hid (fun (w' : World) (hb3 : Below wx.heap.size wx w') => (show w'.cell? ⟨w1.heap.size, 0, none⟩ = some (.int .i64 N) ∧ w'.cell? ⟨w1.heap.size, 1, none⟩ = some (.int .i64 tS) ∧ w'.cell? ⟨w1.heap.size, 2, none⟩ = some (.slice ta tn tc) ∧ w'.cell? ⟨bl, k, none⟩ = some (.int .i64 (s : Int)) from ⟨(hb3.cell (p := ⟨w1.heap.size, 0, none⟩) m1x).trans hS0.1, (hb3.cell (p := ⟨w1.heap.size, 1, none⟩) m1x).trans hS0.2.1, (hb3.cell (p := ⟨w1.heap.size, 2, none⟩) m1x).trans hS0.2.2.1, (hb3.cell (p := ⟨bl, k, none⟩) hbl).trans hS0.2.2.2⟩))
          have B1 := (Below.refl wx.heap.size wx).drew
          have HA1 := HA.out.trans (B1.mono HA.out.size)
          clear hcl hq HT2 f0 q0 q1 q2 hs4
          go_wp2
          go_region_held3 (fun w' => w'.cell? ⟨w1.heap.size, 0, none⟩ = some (.int .i64 N) ∧ w'.cell? ⟨w1.heap.size, 1, none⟩ = some (.int .i64 tS) ∧ w'.cell? ⟨w1.heap.size, 2, none⟩ = some (.slice ta tn tc) ∧ w'.cell? ⟨bl, k, none⟩ = some (.int .i64 (s : Int)))
            (first | with_reducible exact hS1 | with_reducible exact hSd | with_reducible exact hS0 | go_keep)
            ((first
              | (go_at_call 39; (with_reducible refine (C1.out _ HA1).mono ?_); rintro e w9 ⟨rfl, hb2⟩; have hb3 := B1.trans hb2; have hS1 := HSS.out w9 hb3; clear hb2)
              | fail))
          clear hS0 hSd HSS B1 HA1 hS1
          have hz9 := hb3.size
          have HS9 := Lib.hid (HS.out.below hb3 (Nat.le_refl _))
          have HB9 := Lib.hid (HB.out.trans (hb3.mono (by omega)))
          have hz39 : w3.heap.size ≤ w9.heap.size := by omega
          clear HS HB hb3 HA C1 hbl m1x
          by_cases ht0 : t = 0
          · subst ht0
            have HTy := Lib.hid (show (if 12 < (rowR txs s k g2 (x + 1) Z zs).1.length then none else bfsR txs N g (rowR txs s k g2 (x + 1) Z zs).1 (k + 1) (rowR txs s k g2 (x + 1) Z zs).2) = T from by have h := HTx.out; rw [show addS Z 0 = Z from by unfold addS; rw [if_pos (Or.inl rfl)], if_pos rfl] at h; exact h)
            clear HTx
            go_wp2
            go_roundg (N - (x + 1))
            case measure => omega
            case rel => exact ⟨x + 1, Z, zs, _, _, _, _, _, rfl, by go_num, by omega, hlt, by omega, by omega, HO, Hs, by rw [show N - (x + 1) = g2 by omega]; exact HTy, HS9, HB9⟩
          · have htb : ((t : Int) == 0) = false := by rw [beq_eq_false_iff_ne]; omega
            have hdt : domS t := by have := Htl.out; unfold domS; omega
            have hal := Lib.hid (show zs.length ≤ 40 from by omega)
            by_cases hm : t ∈ Z
            · have HTy := Lib.hid (show (if 12 < (rowR txs s k g2 (x + 1) Z (zs ++ [((k : Int), (Z.idxOf t : Int), (x : Int))])).1.length then none else bfsR txs N g (rowR txs s k g2 (x + 1) Z (zs ++ [((k : Int), (Z.idxOf t : Int), (x : Int))])).1 (k + 1) (rowR txs s k g2 (x + 1) Z (zs ++ [((k : Int), (Z.idxOf t : Int), (x : Int))])).2) = T from by have h := HTx.out; rw [show addS Z t = Z from by unfold addS; rw [if_pos (Or.inr hm)], if_neg ht0, show posS Z t = (Z.idxOf t : Int) from by unfold posS; rw [if_neg ht0]] at h; exact h)
              obtain ⟨hlk1, hlk2⟩ := (HS9.out.front [_, _]).namGet t hdt hm (by omega)
              generalize (Z.idxOf t : Nat) = ix at HTy hlk1 hlk2
              have hin := Lib.hid hm
              have hsP := HS9.out
              clear HTx hm
              obtain ⟨v', wc, hr, hs2, hb2⟩ := hsP.pushG (P := Try.prog) acell_lay 24 24 (.agg #[.int .i64 0, .int .i64 0, .int .i64 0]) 24 Try.underlying24 infoA rfl hz39 (w1 := w9.alloc (.cells #[.int .i64 k, .int .i64 (ix : Int), .int .i64 x] 59)) ((Below.refl _ _).alloc (Nat.le_refl _) _) ((k : Int), (ix : Int), (x : Int)) (bb := w9.heap.size) 1
                (by
                  intro i u hu
                  match i, hu with
                  | 0, hu => simp [acell] at hu; subst hu; simp [go_sem]
                  | 1, hu => simp [acell] at hu; subst hu; simp [go_sem]
                  | 2, hu => simp [acell] at hu; subst hu; simp [go_sem]) (by have := hal.out; omega) (by have := hal.out; omega)
              obtain ⟨za, zn, zc, rfl⟩ : ∃ a n c, v' = .slice a n c := hs2.headNew.imp (fun F hF => hF.1) |> fun h => by obtain ⟨F, hF⟩ := h; obtain ⟨a, c, e⟩ := RowG.slice hF; exact ⟨a, _, c, e⟩
              have ob := hsP.swap.headBox.2
              have o2 := (ob.2 2 _ rfl).1
              have o2f := (ob.2 2 _ rfl).2
              have hbx := hs2.swap.headBox.2
              have hc2 := (hbx.2 2 _ rfl).1
              have hf2 := (hbx.2 2 _ rfl).2
              have hst := hs2.swap.boxStore (by have := hb2.size; omega) (j := 2) rfl (.slice za zn zc)
              have HST := Lib.hid hst.swap
              have HBs := Lib.hid ((HB9.out.trans hb2).setCell (p := ⟨w7.heap.size, 2, none⟩) Z8.out (.slice za zn zc))
              have Hr := Lib.hid hr
              clear hsP ob hbx hst hs2 hb2 hr
              go_wp2_with (first
                | (at_builtin; refine wpl_append_run rfl (.tmp 69) (.tmp 76) 24 rfl rfl rfl Hr.out ?_)
                | fail)
              go_roundg (N - (x + 1))
              case measure => omega
              case rel => exact ⟨x + 1, Z, zs ++ [((k : Int), (ix : Int), (x : Int))], _, _, _, _, _, rfl, by go_num, by omega, hlt, by omega, by simp; omega, HO, Hs, by rw [show N - (x + 1) = g2 by omega]; exact HTy, HST, HBs⟩
            · have HTy := Lib.hid (show (if 12 < (rowR txs s k g2 (x + 1) (Z ++ [t]) (zs ++ [((k : Int), (Z.length : Int), (x : Int))])).1.length then none else bfsR txs N g (rowR txs s k g2 (x + 1) (Z ++ [t]) (zs ++ [((k : Int), (Z.length : Int), (x : Int))])).1 (k + 1) (rowR txs s k g2 (x + 1) (Z ++ [t]) (zs ++ [((k : Int), (Z.length : Int), (x : Int))])).2) = T from by have h := HTx.out; rw [show addS Z t = Z ++ [t] from by unfold addS; rw [if_neg (by rw [not_or]; exact ⟨ht0, hm⟩)], if_neg ht0, show posS Z t = (Z.length : Int) from by unfold posS; rw [if_neg ht0, List.idxOf_eq_length hm]] at h; exact h)
              have hlk2 := (HS9.out.front [_, _]).namNone t hdt hm
              have HO2 := Lib.hid (show OkS (Z ++ [t]) from by have h := HO.out.add Htl.out; rwa [show addS Z t = Z ++ [t] from (by unfold addS; rw [if_neg (by rw [not_or]; exact ⟨ht0, hm⟩)])] at h)
              obtain ⟨wa, hra, hsa, hba, -⟩ := (HS9.out.front [_, _]).namAdd hz39 (by omega) t hdt hm (by omega)
              have hza := hba.size
              obtain ⟨la', lc', wb, hrb, hsb, hbb⟩ := (hsa.front [_, _, _]).pushInt (P := Try.prog) 54 54 Try.underlying54 infoI (by omega) (t : Int) (by simp; omega) 3
              have e8 : natL Z ++ [(t : Int)] = natL (Z ++ [t]) := by simp
              have e8' : (natL (Z ++ [t])).length = Z.length + 1 := by simp
              rw [e8, e8'] at hrb hsb
              have Hrb := Lib.hid hrb
              have hzb := hbb.size
              have hsP := Sep.back [_, _] (Sep.back [_, _, _] hsb)
              obtain ⟨hlk1, -⟩ := (hsP.front [_, _]).namGet t hdt (by simp) (by simp; omega)
              rw [idx_snoc hm] at hlk1
              have Hs2 := Lib.hid (show (Z ++ [t])[k]? = some s from by rw [List.getElem?_append_left hlt]; exact Hs.out)
              have E8 := Lib.hid (show (Z ++ [t]).length = Z.length + 1 from by simp)
              have HBP := Lib.hid ((HB9.out.trans hba).trans hbb)
              have E9 := Lib.hid (show (Z ++ [t]).length ≤ 12 + (x + 1) from by simp; omega)
              have E10 := Lib.hid (show k < (Z ++ [t]).length from by simp; omega)
              have hzP : w3.heap.size ≤ wb.heap.size := by omega
              clear HTx hm HO Hs hrb hsa hsb hba hbb e8 e8' hza hzb HS9 HB9
              obtain ⟨v', wc, hr, hs2, hb2⟩ := hsP.pushG (P := Try.prog) acell_lay 24 24 (.agg #[.int .i64 0, .int .i64 0, .int .i64 0]) 24 Try.underlying24 infoA rfl hzP (w1 := wb.alloc (.cells #[.int .i64 k, .int .i64 (Z.length : Int), .int .i64 x] 59)) ((Below.refl _ _).alloc (Nat.le_refl _) _) ((k : Int), (Z.length : Int), (x : Int)) (bb := wb.heap.size) 1
                (by
                  intro i u hu
                  match i, hu with
                  | 0, hu => simp [acell] at hu; subst hu; simp [go_sem]
                  | 1, hu => simp [acell] at hu; subst hu; simp [go_sem]
                  | 2, hu => simp [acell] at hu; subst hu; simp [go_sem]) (by have := hal.out; omega) (by have := hal.out; omega)
              obtain ⟨za, zn, zc, rfl⟩ : ∃ a n c, v' = .slice a n c := hs2.headNew.imp (fun F hF => hF.1) |> fun h => by obtain ⟨F, hF⟩ := h; obtain ⟨a, c, e⟩ := RowG.slice hF; exact ⟨a, _, c, e⟩
              have ob := hsP.swap.headBox.2
              have o2 := (ob.2 2 _ rfl).1
              have o2f := (ob.2 2 _ rfl).2
              have hbx := hs2.swap.headBox.2
              have hc2 := (hbx.2 2 _ rfl).1
              have hf2 := (hbx.2 2 _ rfl).2
              have hst := hs2.swap.boxStore (by have := hb2.size; omega) (j := 2) rfl (.slice za zn zc)
              have HST := Lib.hid hst.swap
              have HBs := Lib.hid ((HBP.out.trans hb2).setCell (p := ⟨w7.heap.size, 2, none⟩) Z8.out (.slice za zn zc))
              have Hr := Lib.hid hr
              clear hsP ob hbx hst hs2 hb2 hr
              go_wp2_with (first
                | (at_builtin; refine wpl_append_run rfl (.tmp 64) (.tmp 66) 54 rfl rfl rfl Hrb.out ?_)
                | (at_builtin; refine wpl_append_run rfl (.tmp 69) (.tmp 76) 24 rfl rfl rfl Hr.out ?_)
                | fail)
              go_roundg (N - (x + 1))
              case measure => omega
              case rel => exact ⟨x + 1, Z ++ [t], zs ++ [((k : Int), (Z.length : Int), (x : Int))], _, _, _, _, _, by rw [E8.out], by go_num, by omega, E10.out, E9.out, by simp; omega, HO2, Hs2, by rw [show N - (x + 1) = g2 by omega]; exact HTy, by rw [E8.out]; exact HST, HBs⟩
        · have hg : gk = 0 := by omega
          have hxi : ¬ ((x : Int) < (N : Int)) := by omega
          have HT3 := Lib.hid (show (if 12 < Z.length then none else bfsR txs N g Z (k + 1) zs) = T from by have h := HT2.out; rw [hg] at h; exact h)
          clear HT2
          by_cases h12 : 12 < Z.length
          · have HTn := Lib.hid (show T = none from by have h := HT3.out; rw [if_pos h12] at h; exact h.symm)
            have HW := Lib.hid (show V = (0, 0, []) from by rw [HV.out, HTn.out]; rfl)
            have HF := Lib.hid (show ok = false from by rw [HO'.out, HTn.out]; rfl)
            have h12i : (12 : Int) < (Z.length : Int) := by omega
            replace R0 := Lib.hid (((HB0.out.trans HB.out).cell (p := ⟨w.heap.size + 1, 0, none⟩) h1w).trans R0.out)
            replace F0 := Lib.hid (((HB0.out.trans HB.out).frozen (p := ⟨w.heap.size + 1, 0, none⟩) h1w).trans F0.out)
            replace R1 := Lib.hid (((HB0.out.trans HB.out).cell (p := ⟨w.heap.size + 1, 1, none⟩) h1w).trans R1.out)
            replace F1 := Lib.hid (((HB0.out.trans HB.out).frozen (p := ⟨w.heap.size + 1, 1, none⟩) h1w).trans F1.out)
            replace R2 := Lib.hid (((HB0.out.trans HB.out).cell (p := ⟨w.heap.size + 1, 2, none⟩) h1w).trans R2.out)
            replace F2 := Lib.hid (((HB0.out.trans HB.out).frozen (p := ⟨w.heap.size + 1, 2, none⟩) h1w).trans F2.out)
            have HB2 := Lib.hid ((A3.out.trans (HB0.out.mono A3.out.size)).trans (HB.out.mono A3.out.size))
            clear HS HB HT3 HTn HO Hs
            have r0 := R0.out
            have r1 := R1.out
            have r2 := R2.out
            have t0 := F0.out
            have t1 := F1.out
            have t2 := F2.out
            go_wp2
            have s0 := World.cell?_setCell_same wx _ (.int .i64 0) R0.out
            have u1 := (World.cell?_setCell_other _ ⟨w.heap.size + 1, 0, none⟩ _ (.int .i64 0) (by simp)).trans R1.out
            have s1 := World.cell?_setCell_same _ _ (.int .i64 0) u1
            have u2 := (World.cell?_setCell_other _ ⟨w.heap.size + 1, 1, none⟩ _ (.int .i64 0) (by simp)).trans ((World.cell?_setCell_other _ ⟨w.heap.size + 1, 0, none⟩ _ (.int .i64 0) (by simp)).trans R2.out)
            have s2 := World.cell?_setCell_same _ _ (.slice none 0 0) u2
            refine bodyPost_ret (v := .tuple #[.agg #[.int .i64 0, .int .i64 0, .slice none 0 0], .bool false]) (by simp [results, Try.results7, go_sem, s0, s1, s2]) rfl ?_
            exact ⟨_, by rw [HF.out], by rw [HW.out]; exact New.lab0, (((HB2.out.setCell (p := ⟨w.heap.size + 1, 0, none⟩) (by simp) _).setCell (p := ⟨w.heap.size + 1, 1, none⟩) (by simp) _).setCell (p := ⟨w.heap.size + 1, 2, none⟩) (by simp) _)⟩
          · have HTy := Lib.hid (show bfsR txs N g Z (k + 1) zs = T from by have h := HT3.out; rw [if_neg h12] at h; exact h)
            have h12i : ¬ ((12 : Int) < (Z.length : Int)) := by omega
            clear HT3 Hs
            go_wp2
            go_roundg g
            case measure => omega
            case rel => exact ⟨k + 1, Z, zs, _, _, _, _, _, rfl, by go_num, by omega, by omega, by omega, by omega, HO, HTy, HS, HB⟩
    · have hki : ¬ ((k : Int) < (Z.length : Int)) := by omega
      have HTn := Lib.hid (show T = some (Z, zs) from by
        rw [← HT.out]
        cases gk with
        | zero => rfl
        | succ g => unfold bfsR; rw [List.getElem?_eq_none (by omega)])
      have HW := Lib.hid (show V = ((N : Int), (Z.length : Int), zs) from by rw [HV.out, HTn.out]; rfl)
      have HF := Lib.hid (show ok = true from by rw [HO'.out, HTn.out]; rfl)
      have hsb := (HS.out.swap.boxStore (by omega) (j := 1) rfl (.int .i64 (Z.length : Int)))
      obtain ⟨-, mb, hbx⟩ := HS.out.swap.headBox
      have o0 := (hbx 0 _ rfl).1
      have o1 := (hbx 1 _ rfl).1
      have o1f := (hbx 1 _ rfl).2
      have o2 := (hbx 2 _ rfl).1
      have HRw2 := Lib.hid (show New (RowA 59) w3.heap.size (wq.setCell ⟨w7.heap.size, 1, none⟩ (.int .i64 (Z.length : Int))) (.slice ya yn yc) zs from hsb.swap.headNew)
      have hbs : Below w3.heap.size w3 (wq.setCell ⟨w7.heap.size, 1, none⟩ (.int .i64 (Z.length : Int))) := (HB0.out.trans HB.out).setCell (p := ⟨w7.heap.size, 1, none⟩) Z8.out _
      replace R0 := Lib.hid (((HB0.out.trans HB.out).cell (p := ⟨w.heap.size + 1, 0, none⟩) h1w).trans R0.out)
      replace F0 := Lib.hid (((HB0.out.trans HB.out).frozen (p := ⟨w.heap.size + 1, 0, none⟩) h1w).trans F0.out)
      replace R1 := Lib.hid (((HB0.out.trans HB.out).cell (p := ⟨w.heap.size + 1, 1, none⟩) h1w).trans R1.out)
      replace F1 := Lib.hid (((HB0.out.trans HB.out).frozen (p := ⟨w.heap.size + 1, 1, none⟩) h1w).trans F1.out)
      replace R2 := Lib.hid (((HB0.out.trans HB.out).cell (p := ⟨w.heap.size + 1, 2, none⟩) h1w).trans R2.out)
      replace F2 := Lib.hid (((HB0.out.trans HB.out).frozen (p := ⟨w.heap.size + 1, 2, none⟩) h1w).trans F2.out)
      have HB2 := Lib.hid (A3.out.trans (hbs.mono A3.out.size))
      have mq : w.heap.size + 1 < w7.heap.size := by have := Z8.out; omega
      have Q0 := Lib.hid ((World.cell?_setCell_other wq ⟨w7.heap.size, 1, none⟩ ⟨w.heap.size + 1, 0, none⟩ (.int .i64 (Z.length : Int)) (by simp <;> omega)).trans R0.out)
      have Q1 := Lib.hid ((World.cell?_setCell_other wq ⟨w7.heap.size, 1, none⟩ ⟨w.heap.size + 1, 1, none⟩ (.int .i64 (Z.length : Int)) (by simp <;> omega)).trans R1.out)
      have Q2 := Lib.hid ((World.cell?_setCell_other wq ⟨w7.heap.size, 1, none⟩ ⟨w.heap.size + 1, 2, none⟩ (.int .i64 (Z.length : Int)) (by simp <;> omega)).trans R2.out)
      clear HS HB HT HTn HO hbx hsb hbs
      have r0 := R0.out
      have r1 := R1.out
      have r2 := R2.out
      have t0 := F0.out
      have t1 := F1.out
      have t2 := F2.out
      go_wp2
      have s0 := World.cell?_setCell_same (wq.setCell ⟨w7.heap.size, 1, none⟩ (.int .i64 (Z.length : Int))) _ (.int .i64 N) Q0.out
      have u1 := (World.cell?_setCell_other _ ⟨w.heap.size + 1, 0, none⟩ _ (.int .i64 N) (by simp)).trans Q1.out
      have s1 := World.cell?_setCell_same _ _ (.int .i64 (Z.length : Int)) u1
      have u2 := (World.cell?_setCell_other _ ⟨w.heap.size + 1, 1, none⟩ _ (.int .i64 (Z.length : Int)) (by simp)).trans ((World.cell?_setCell_other _ ⟨w.heap.size + 1, 0, none⟩ _ (.int .i64 N) (by simp)).trans Q2.out)
      have s2 := World.cell?_setCell_same _ _ (.slice ya yn yc) u2
      refine bodyPost_ret (v := .tuple #[.agg #[.int .i64 N, .int .i64 (Z.length : Int), .slice ya yn yc], .bool true]) (by simp [results, Try.results7, go_sem, s0, s1, s2]) rfl ?_
      refine ⟨_, by rw [HF.out], ?_, (((HB2.out.setCell (p := ⟨w.heap.size + 1, 0, none⟩) (by simp) _).setCell (p := ⟨w.heap.size + 1, 1, none⟩) (by simp) _).setCell (p := ⟨w.heap.size + 1, 2, none⟩) (by simp) _)⟩
      have hk2 := New.storeLow RowG.held (New.storeLow RowG.held (New.storeLow RowG.held HRw2.out h1w (.int .i64 N) (p := ⟨w.heap.size + 1, 0, none⟩)) h1w (.int .i64 (Z.length : Int)) (p := ⟨w.heap.size + 1, 1, none⟩)) h1w (.slice ya yn yc) (p := ⟨w.heap.size + 1, 2, none⟩)
      obtain ⟨F, hF, hFn, hFg⟩ := hk2
      rw [HW.out]
      exact ⟨F, ⟨_, rfl, RowG.arcs hF⟩, hFn, fun b hb => by have := hFg b hb; omega⟩
end Go.Proofs.Ytcilgihmaaobeaa
end

section
namespace Go.Proofs.Ytcilgihmaaobeaa
open Go.RowKit Go.Deep Go.Sd Go.Maps
def pcell (p : P2) : List Value := [.int .i64 (p.1 : Int), .int .i64 (p.2 : Int)]
theorem pcell_lay : Lay 2 pcell := ⟨by decide, fun _ => rfl, fun x u hu => by
  simp [pcell] at hu
  rcases hu with rfl | rfl <;> rfl⟩
def pval (p : P2) : Value := .agg #[.int .i64 (p.1 : Int), .int .i64 (p.2 : Int)]
theorem infoP2 : (Try.prog.info? 68).map (fun i => (i.zero, i.size, i.bytes)) = some (some (.agg #[.int .i64 0, .int .i64 0]), 2, 16) := by kernel_rfl
theorem arrP2 : WideMaps.ArrKey Try.prog 68 3 2 := ⟨Try.underlying68, by kernel_rfl, by kernel_rfl, by kernel_rfl⟩
def domP (p : P2) : Prop := domS p.1 ∧ domS p.2
noncomputable def keyP (p : P2) : Lit := .string (keyBytes [.int .i64 (p.1 : Int), .int .i64 (p.2 : Int)])
theorem typesPos : ∃ m, Try.prog.types.size = m + 1 := ⟨Try.prog.types.size - 1, by
  have h : 0 < Try.prog.types.size := of_decide_eq_true (by kernel_rfl)
  omega⟩
theorem keyP_of {p : P2} (h : domP p) : keyOf Try.prog 68 (pval p) = some (keyP p) :=
  WideMaps.keyOf_pair arrP2 Try.underlying3 typesPos (wf_i64 h.1) (wf_i64 h.2)
theorem mapK_pair : MapK Try.prog 68 4 domP pval keyP (fun y : Bool => .bool y) (fun y => .lit (.bool y)) where
  law := Keyed.of_law arrP2.law
  key := fun x hx => keyP_of hx
  inj := fun x y hx hy h => by
    have h1 := keyP_of hx
    have h2 := keyP_of hy
    rw [← h] at h2
    have h3 := (Keyed.of_law arrP2.law).inj h1 h2
    unfold pval at h3
    simp at h3
    exact Prod.ext (by omega) (by omega)
  val := fun y => plainElem_bool Try.underlying4 y
  inv := fun y v ps h => by
    exact boolElem_inv Try.underlying4 h
  lit := fun x _ => by simp [keyP, WideAt.IsKeyLit]
/-- The map that holds these pairs. -/
def memG (ps : List P2) : P2 → Option Bool := fun p => if p ∈ ps then some true else none
theorem memG_add (ps : List P2) (x : P2) {d : ∀ x' : P2, Decidable (x' = x)} : (fun x' => @ite _ (x' = x) (d x') (some true) (memG ps x')) = memG (ps ++ [x]) := by
  funext x'
  unfold memG
  by_cases e : x' = x
  · simp [e]
  · simp [e]
theorem memG_nil : (fun _ : P2 => (none : Option Bool)) = memG [] := by funext x; simp [memG]
noncomputable abbrev Res.pairs (b n : Nat) (ps : List P2) : Res := Res.map Try.prog 68 4 domP keyP (fun y => .lit (.bool y)) b n (memG ps)
open Classical in
theorem _root_.Go.Sd.Sep.pairAdd {lo : Nat} {w : World} {rs : List Res} {b n : Nat} {ps : List P2} (h : Sep lo w (Res.pairs b n ps :: rs)) (hlo : lo ≤ w.heap.size) (hn : n ≤ 16777216) (x : P2) (hx : domP x) :
    ∃ w', (Instr.mapUpdate 70 (.map (some b)) (pval x) (.bool true)).run Try.prog w = .ok () w' ∧ Sep lo w' (Res.pairs b (n + 1) (ps ++ [x]) :: rs) ∧ Below lo w w' ∧ ∀ p : Addr, p.block < w.heap.size → p.block ≠ b → w'.cell? p = w.cell? p := by
  obtain ⟨w', hr, hs, hb, hk⟩ := h.mapStore mapK_pair hlo Try.underlying70 (by unfold maxLen; omega) x hx true
  refine ⟨w', hr, ?_, hb, hk⟩
  show Sep lo w' (Res.map Try.prog 68 4 domP keyP (fun y => .lit (.bool y)) b (n + 1) (memG (ps ++ [x])) :: rs)
  rw [← memG_add ps x (d := fun _ => Classical.propDecidable _)]
  exact hs
theorem zeroB' (w : World) : (zeroValue 4).run Try.prog w = .ok (.bool false) w := by kernel_rfl
theorem _root_.Go.Sd.Sep.pairLook {lo : Nat} {w : World} {rs : List Res} {b n : Nat} {ps : List P2} (h : Sep lo w (Res.pairs b n ps :: rs)) (x : P2) (hx : domP x) :
    (Instr.lookup 70 (.map (some b)) (pval x) false).run Try.prog w = .ok (.bool (decide (x ∈ ps))) w := by
  have h1 := h.mapLook mapK_pair Try.underlying70 (zeroB' w) (plainElem_bool Try.underlying4 false) (fun v ps h => boolElem_inv Try.underlying4 h) x hx
  rw [h1]
  unfold memG
  by_cases e : x ∈ ps
  · simp [e]
  · simp [e]
end Go.Proofs.Ytcilgihmaaobeaa
end
