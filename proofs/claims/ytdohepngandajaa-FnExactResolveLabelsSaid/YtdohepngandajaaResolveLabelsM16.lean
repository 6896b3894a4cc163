/-
  Texts of this claim joined: laws for its walks, contracts of the functions that the law reaches, and the theorem that the program's answer is the reference's for all arguments.
-/
import Derived.Test.YtdohepngandajaaResolveLabelsM2
import Derived.Test.YtdohepngandajaaResolveLabelsM3
import Derived.Deep.RegionHeld3
import Derived.Deep.DeepCutAuto
import Derived.Test.YtdohepngandajaaResolveLabelsM15
import Derived.Test.YtdohepngandajaaRows
import Derived.WalkKit
import Derived.ProofKit
import Derived.OpenShut
import Derived.ShutString
import Derived.ChangeOld
import Derived.Below
import Derived.Lib.SmallJoins
section
/-
  The law on ResolveLabels, walked over the contracts of both sides.
-/
namespace Go.Proofs.Ytdohepngandajaa
open Go.RowKit Go.Deep Go.Sd
set_option linter.unusedVariables false in
set_option maxHeartbeats 4000000 in
set_option maxRecDepth 100000 in
theorem law_ResolveLabels {w : World} {v0 : Value} {a0 : Lb} (t0 : LabR w v0 a0) (b0 : I64 a0.1 ∧ I64 a0.2.1) :
    Calls Try.prog 6 #[v0] w fun e w' => e = .returned (.bool true) ∧ Below w.heap.size w w' := by
  have qg0 : (3 * ((rslV a0)).2.2.length : Int) ≤ 1099511627776 := rslV_bd a0
  have rg0 : 0 ≤ (3 * ((rslV a0)).2.2.length : Int) := by omega
  obtain ⟨V0, hV0⟩ : ∃ V, V = rslV a0 := ⟨_, rfl⟩
  rw [← hV0] at qg0 rg0
  have HV0 := Lib.hid hV0
  clear hV0
  obtain ⟨VL0, VS0, Vx0⟩ := V0
  simp only at qg0 rg0
  generalize hvl0 : Vx0.length = vl0 at *
  have HVl0 := Lib.hid hvl0
  clear hvl0
  have Qg0 := Lib.hid qg0
  have Rg0 := Lib.hid rg0
  clear qg0 rg0
  have T0 := Lib.hid t0
  obtain ⟨L0, S0, xs0⟩ := a0
  obtain ⟨va0, rfl, _, aa0, ac0, rfl, _, _, _, _⟩ := t0
  simp only at *
  have B0 := Lib.hid b0
  clear b0
  generalize hln0 : xs0.length = ln0 at *
  have HL0 := Lib.hid hln0
  clear hln0
  have A0 : Below w.heap.size w w := Below.refl _ _
  have Z0 := Lib.hid (fun (v : Value) (wz : World) (h : LabR wz v (L0, S0, xs0)) => szLabels_c h (l := 1048576) (by omega) (by omega))
  simp only at Z0
  rw [HL0.out] at Z0
  have d0 := szS_bd 1048576 ln0 (by omega)
  generalize szS 1048576 ln0 = l0 at Z0 d0
  go_enter Try.func6, Try.ntmps6
  go_wp2_with fail
  obtain ⟨w1, ex, hb1, ca00, ca01, ca02, ma0⟩ := boxA3_ex w 24 (.int .i64 L0) (.int .i64 S0) (.slice aa0 ln0 ac0)
  change Calls Try.prog _ _ (w.alloc (.cells #[.int .i64 L0, .int .i64 S0, .slice aa0 ln0 ac0] 24)) _
  rw [ex]
  clear ex
  have qa0 := ma0
  replace A0 := A0.trans (hb1.mono A0.size)
  have z1 := hb1.size
  clear hb1
  refine (Z0.out _ _ (LabR.frame _ _ _ _ T0.out A0)).mono ?_
  rintro e w2 ⟨rfl, hb2⟩
  replace A0 := A0.trans (hb2.mono A0.size)
  replace ca00 := (hb2.cell (p := ⟨w.heap.size, 0, none⟩) ma0).trans ca00
  replace ca01 := (hb2.cell (p := ⟨w.heap.size, 1, none⟩) ma0).trans ca01
  replace ca02 := (hb2.cell (p := ⟨w.heap.size, 2, none⟩) ma0).trans ca02
  replace ma0 := Nat.lt_of_lt_of_le ma0 hb2.size
  have z2 := hb2.size
  clear hb2
  by_cases n0 : l0 < 0
  · go_wp2
    go_ret
    exact ⟨rfl, A0⟩
  have sz0 := Lib.hid (show xs0.length ≤ 1048576 from by rw [HL0.out]; omega)
  have ln0b : (ln0 : Int) ≤ 1048576 := by omega
  have l00 : 0 ≤ l0 := by omega
  have l01 : l0 ≤ 1048576 := by omega
  clear d0 n0 Z0
  go_wp2_with fail
  refine (toLabels_o (LabR.frame _ _ _ _ T0.out A0) sz0.out).mono ?_
  rintro e w3 ⟨p0, rfl, hp0, hb3⟩
  replace A0 := A0.trans (hb3.mono A0.size)
  replace ca00 := (hb3.cell (p := ⟨w.heap.size, 0, none⟩) ma0).trans ca00
  replace ca01 := (hb3.cell (p := ⟨w.heap.size, 1, none⟩) ma0).trans ca01
  replace ca02 := (hb3.cell (p := ⟨w.heap.size, 2, none⟩) ma0).trans ca02
  replace ma0 := Nat.lt_of_lt_of_le ma0 hb3.size
  have z3 := hb3.size
  clear hb3
  replace hp0 := hp0.inn OLab.held
  go_wp2_with fail
  refine (spec_ResolveLabels_c (New.lab hp0.new)).mono ?_
  rintro e w4 ⟨s0, rfl, hs0, hb4⟩
  replace A0 := A0.trans (hb4.mono A0.size)
  replace hp0 := hp0.keep OLab.held hb4 (by omega)
  replace ca00 := (hb4.cell (p := ⟨w.heap.size, 0, none⟩) ma0).trans ca00
  replace ca01 := (hb4.cell (p := ⟨w.heap.size, 1, none⟩) ma0).trans ca01
  replace ca02 := (hb4.cell (p := ⟨w.heap.size, 2, none⟩) ma0).trans ca02
  replace ma0 := Nat.lt_of_lt_of_le ma0 hb4.size
  have z4 := hb4.size
  clear hb4
  rw [← HV0.out] at hs0
  obtain ⟨vs0, es0, _, yas0, ycs0, hyvs0, _, _, _, _⟩ := New.lab hs0
  subst hyvs0
  subst es0
  simp only at hs0 ⊢
  rw [HVl0.out] at hs0 ⊢
  replace hs0 := hs0.inn OLab.held
  clear hp0
  have R0 := (New.lab hs0.new)
  clear hs0
  have hwA : Below w4.heap.size w4 w4 := Below.refl _ _
  go_wp2_with fail
  obtain ⟨w5, ex, hb5, cs00, cs01, cs02, ms0⟩ := boxA3_ex w4 28 (.int .i64 VL0) (.int .i64 VS0) (.slice yas0 vl0 ycs0)
  change Calls Try.prog _ _ (w4.alloc (.cells #[.int .i64 VL0, .int .i64 VS0, .slice yas0 vl0 ycs0] 28)) _
  rw [ex]
  clear ex
  have qs0 := ms0
  replace A0 := A0.trans (hb5.mono A0.size)
  replace hwA := hwA.trans (hb5.mono hwA.size)
  replace ca00 := (hb5.cell (p := ⟨w.heap.size, 0, none⟩) ma0).trans ca00
  replace ca01 := (hb5.cell (p := ⟨w.heap.size, 1, none⟩) ma0).trans ca01
  replace ca02 := (hb5.cell (p := ⟨w.heap.size, 2, none⟩) ma0).trans ca02
  replace ma0 := Nat.lt_of_lt_of_le ma0 hb5.size
  have z5 := hb5.size
  clear hb5
  refine (toLabels_o (LabR.frame _ _ _ _ T0.out A0) sz0.out).mono ?_
  rintro e w6 ⟨x0, rfl, hx0, hb6⟩
  replace A0 := A0.trans (hb6.mono A0.size)
  replace hwA := hwA.trans (hb6.mono hwA.size)
  replace ca00 := (hb6.cell (p := ⟨w.heap.size, 0, none⟩) ma0).trans ca00
  replace ca01 := (hb6.cell (p := ⟨w.heap.size, 1, none⟩) ma0).trans ca01
  replace ca02 := (hb6.cell (p := ⟨w.heap.size, 2, none⟩) ma0).trans ca02
  replace ma0 := Nat.lt_of_lt_of_le ma0 hb6.size
  replace cs00 := (hb6.cell (p := ⟨w4.heap.size, 0, none⟩) ms0).trans cs00
  replace cs01 := (hb6.cell (p := ⟨w4.heap.size, 1, none⟩) ms0).trans cs01
  replace cs02 := (hb6.cell (p := ⟨w4.heap.size, 2, none⟩) ms0).trans cs02
  replace ms0 := Nat.lt_of_lt_of_le ms0 hb6.size
  have z6 := hb6.size
  clear hb6
  replace hx0 := hx0.inn OLab.held
  have hrx0 := (New.lab hx0.new)
  obtain ⟨vx0, ex0, _, ya0, yc0, hyv0, _, _, _, _⟩ := hrx0
  subst hyv0
  subst ex0
  simp only at hx0 ⊢
  rw [HL0.out] at hx0 ⊢
  go_wp2_with fail
  obtain ⟨w7, ex, hb7, cx00, cx01, cx02, mx0⟩ := boxA3_ex w6 28 (.int .i64 L0) (.int .i64 S0) (.slice ya0 ln0 yc0)
  change Calls Try.prog _ _ (w6.alloc (.cells #[.int .i64 L0, .int .i64 S0, .slice ya0 ln0 yc0] 28)) _
  rw [ex]
  clear ex
  have qx0 := mx0
  replace A0 := A0.trans (hb7.mono A0.size)
  replace hwA := hwA.trans (hb7.mono hwA.size)
  replace hx0 := hx0.keep OLab.held hb7 (by omega)
  replace ca00 := (hb7.cell (p := ⟨w.heap.size, 0, none⟩) ma0).trans ca00
  replace ca01 := (hb7.cell (p := ⟨w.heap.size, 1, none⟩) ma0).trans ca01
  replace ca02 := (hb7.cell (p := ⟨w.heap.size, 2, none⟩) ma0).trans ca02
  replace ma0 := Nat.lt_of_lt_of_le ma0 hb7.size
  replace cs00 := (hb7.cell (p := ⟨w4.heap.size, 0, none⟩) ms0).trans cs00
  replace cs01 := (hb7.cell (p := ⟨w4.heap.size, 1, none⟩) ms0).trans cs01
  replace cs02 := (hb7.cell (p := ⟨w4.heap.size, 2, none⟩) ms0).trans cs02
  replace ms0 := Nat.lt_of_lt_of_le ms0 hb7.size
  have z7 := hb7.size
  clear hb7
  refine (impl_ResolveLabels_c (New.lab hx0.new)).mono ?_
  rintro e w8 ⟨g0, rfl, hg0, hb8⟩
  replace A0 := A0.trans (hb8.mono A0.size)
  replace hwA := hwA.trans (hb8.mono hwA.size)
  replace hx0 := hx0.keep OLab.held hb8 (by omega)
  replace ca00 := (hb8.cell (p := ⟨w.heap.size, 0, none⟩) ma0).trans ca00
  replace ca01 := (hb8.cell (p := ⟨w.heap.size, 1, none⟩) ma0).trans ca01
  replace ca02 := (hb8.cell (p := ⟨w.heap.size, 2, none⟩) ma0).trans ca02
  replace ma0 := Nat.lt_of_lt_of_le ma0 hb8.size
  replace cs00 := (hb8.cell (p := ⟨w4.heap.size, 0, none⟩) ms0).trans cs00
  replace cs01 := (hb8.cell (p := ⟨w4.heap.size, 1, none⟩) ms0).trans cs01
  replace cs02 := (hb8.cell (p := ⟨w4.heap.size, 2, none⟩) ms0).trans cs02
  replace ms0 := Nat.lt_of_lt_of_le ms0 hb8.size
  replace cx00 := (hb8.cell (p := ⟨w6.heap.size, 0, none⟩) mx0).trans cx00
  replace cx01 := (hb8.cell (p := ⟨w6.heap.size, 1, none⟩) mx0).trans cx01
  replace cx02 := (hb8.cell (p := ⟨w6.heap.size, 2, none⟩) mx0).trans cx02
  replace mx0 := Nat.lt_of_lt_of_le mx0 hb8.size
  have z8 := hb8.size
  clear hb8
  rw [← HV0.out] at hg0
  obtain ⟨vg0, eg0, _, yag0, ycg0, hyvg0, _, _, _, _⟩ := New.lab hg0
  subst hyvg0
  subst eg0
  simp only at hg0 ⊢
  rw [HVl0.out] at hg0 ⊢
  replace hg0 := hg0.inn OLab.held
  go_wp2_with fail
  obtain ⟨w9, ex, hb9, cg00, cg01, cg02, mg0⟩ := boxA3_ex w8 28 (.int .i64 VL0) (.int .i64 VS0) (.slice yag0 vl0 ycg0)
  change Calls Try.prog _ _ (w8.alloc (.cells #[.int .i64 VL0, .int .i64 VS0, .slice yag0 vl0 ycg0] 28)) _
  rw [ex]
  clear ex
  have qg0 := mg0
  replace A0 := A0.trans (hb9.mono A0.size)
  replace hwA := hwA.trans (hb9.mono hwA.size)
  replace hx0 := hx0.keep OLab.held hb9 (by omega)
  replace hg0 := hg0.keep OLab.held hb9 (by omega)
  replace ca00 := (hb9.cell (p := ⟨w.heap.size, 0, none⟩) ma0).trans ca00
  replace ca01 := (hb9.cell (p := ⟨w.heap.size, 1, none⟩) ma0).trans ca01
  replace ca02 := (hb9.cell (p := ⟨w.heap.size, 2, none⟩) ma0).trans ca02
  replace ma0 := Nat.lt_of_lt_of_le ma0 hb9.size
  replace cs00 := (hb9.cell (p := ⟨w4.heap.size, 0, none⟩) ms0).trans cs00
  replace cs01 := (hb9.cell (p := ⟨w4.heap.size, 1, none⟩) ms0).trans cs01
  replace cs02 := (hb9.cell (p := ⟨w4.heap.size, 2, none⟩) ms0).trans cs02
  replace ms0 := Nat.lt_of_lt_of_le ms0 hb9.size
  replace cx00 := (hb9.cell (p := ⟨w6.heap.size, 0, none⟩) mx0).trans cx00
  replace cx01 := (hb9.cell (p := ⟨w6.heap.size, 1, none⟩) mx0).trans cx01
  replace cx02 := (hb9.cell (p := ⟨w6.heap.size, 2, none⟩) mx0).trans cx02
  replace mx0 := Nat.lt_of_lt_of_le mx0 hb9.size
  have z9 := hb9.size
  clear hb9
  refine (eqLabels_same (New.lab hg0.new) (LabR.frame _ _ _ _ R0 hwA)).mono ?_
  rintro e w10 ⟨rfl, hb10⟩
  replace A0 := A0.trans (hb10.mono A0.size)
  replace hwA := hwA.trans (hb10.mono hwA.size)
  replace hx0 := hx0.keep OLab.held hb10 (by omega)
  replace hg0 := hg0.keep OLab.held hb10 (by omega)
  replace ca00 := (hb10.cell (p := ⟨w.heap.size, 0, none⟩) ma0).trans ca00
  replace ca01 := (hb10.cell (p := ⟨w.heap.size, 1, none⟩) ma0).trans ca01
  replace ca02 := (hb10.cell (p := ⟨w.heap.size, 2, none⟩) ma0).trans ca02
  replace ma0 := Nat.lt_of_lt_of_le ma0 hb10.size
  replace cs00 := (hb10.cell (p := ⟨w4.heap.size, 0, none⟩) ms0).trans cs00
  replace cs01 := (hb10.cell (p := ⟨w4.heap.size, 1, none⟩) ms0).trans cs01
  replace cs02 := (hb10.cell (p := ⟨w4.heap.size, 2, none⟩) ms0).trans cs02
  replace ms0 := Nat.lt_of_lt_of_le ms0 hb10.size
  replace cx00 := (hb10.cell (p := ⟨w6.heap.size, 0, none⟩) mx0).trans cx00
  replace cx01 := (hb10.cell (p := ⟨w6.heap.size, 1, none⟩) mx0).trans cx01
  replace cx02 := (hb10.cell (p := ⟨w6.heap.size, 2, none⟩) mx0).trans cx02
  replace mx0 := Nat.lt_of_lt_of_le mx0 hb10.size
  replace cg00 := (hb10.cell (p := ⟨w8.heap.size, 0, none⟩) mg0).trans cg00
  replace cg01 := (hb10.cell (p := ⟨w8.heap.size, 1, none⟩) mg0).trans cg01
  replace cg02 := (hb10.cell (p := ⟨w8.heap.size, 2, none⟩) mg0).trans cg02
  replace mg0 := Nat.lt_of_lt_of_le mg0 hb10.size
  have z10 := hb10.size
  clear hb10
  go_wp2
  have hrx := New.lab hx0.new
  have hS0 : w10.cell? ⟨w6.heap.size, 0, none⟩ = some (.int .i64 L0) ∧ w10.cell? ⟨w6.heap.size, 1, none⟩ = some (.int .i64 S0) ∧ w10.cell? ⟨w6.heap.size, 2, none⟩ = some (.slice ya0 ln0 yc0) ∧ w10.cell? ⟨w.heap.size, 0, none⟩ = some (.int .i64 L0) ∧ w10.cell? ⟨w.heap.size, 1, none⟩ = some (.int .i64 S0) ∧ w10.cell? ⟨w.heap.size, 2, none⟩ = some (.slice aa0 ln0 ac0) := ⟨cx00, cx01, cx02, ca00, ca01, ca02⟩
  have hSd : w10.drew.cell? ⟨w6.heap.size, 0, none⟩ = some (.int .i64 L0) ∧ w10.drew.cell? ⟨w6.heap.size, 1, none⟩ = some (.int .i64 S0) ∧ w10.drew.cell? ⟨w6.heap.size, 2, none⟩ = some (.slice ya0 ln0 yc0) ∧ w10.drew.cell? ⟨w.heap.size, 0, none⟩ = some (.int .i64 L0) ∧ w10.drew.cell? ⟨w.heap.size, 1, none⟩ = some (.int .i64 S0) ∧ w10.drew.cell? ⟨w.heap.size, 2, none⟩ = some (.slice aa0 ln0 ac0) := hS0
  have HS := Lib.hid (fun (w2 : World) (hb3 : Below w10.heap.size w10 w2) => (show w2.cell? ⟨w6.heap.size, 0, none⟩ = some (.int .i64 L0) ∧ w2.cell? ⟨w6.heap.size, 1, none⟩ = some (.int .i64 S0) ∧ w2.cell? ⟨w6.heap.size, 2, none⟩ = some (.slice ya0 ln0 yc0) ∧ w2.cell? ⟨w.heap.size, 0, none⟩ = some (.int .i64 L0) ∧ w2.cell? ⟨w.heap.size, 1, none⟩ = some (.int .i64 S0) ∧ w2.cell? ⟨w.heap.size, 2, none⟩ = some (.slice aa0 ln0 ac0) from ⟨(hb3.cell (p := ⟨w6.heap.size, 0, none⟩) mx0).trans cx00, (hb3.cell (p := ⟨w6.heap.size, 1, none⟩) mx0).trans cx01, (hb3.cell (p := ⟨w6.heap.size, 2, none⟩) mx0).trans cx02, (hb3.cell (p := ⟨w.heap.size, 0, none⟩) ma0).trans ca00, (hb3.cell (p := ⟨w.heap.size, 1, none⟩) ma0).trans ca01, (hb3.cell (p := ⟨w.heap.size, 2, none⟩) ma0).trans ca02⟩))
  have C1 := Lib.hid (fun w2 (hb3 : Below w10.heap.size w10 w2) => toLabels_c (LabR.frame _ _ _ _ T0.out (A0.trans (hb3.mono A0.size))) sz0.out)
  have C2 := Lib.hid (fun w2 (hb3 : Below w10.heap.size w10 w2) => fun v (hy : LabR w2 v _) => eqLabels_same (LabR.frame _ _ _ _ hrx hb3) hy)
  have B1 := (Below.refl w10.heap.size w10).drew
  go_region_held3 (fun w' => w'.cell? ⟨w6.heap.size, 0, none⟩ = some (.int .i64 L0) ∧ w'.cell? ⟨w6.heap.size, 1, none⟩ = some (.int .i64 S0) ∧ w'.cell? ⟨w6.heap.size, 2, none⟩ = some (.slice ya0 ln0 yc0) ∧ w'.cell? ⟨w.heap.size, 0, none⟩ = some (.int .i64 L0) ∧ w'.cell? ⟨w.heap.size, 1, none⟩ = some (.int .i64 S0) ∧ w'.cell? ⟨w.heap.size, 2, none⟩ = some (.slice aa0 ln0 ac0))
    (first | with_reducible exact hS2 | with_reducible exact hS1 | with_reducible exact hSd | with_reducible exact hS0 | go_keep)
    ((first
      | (go_at_call 17; (with_reducible refine (C2.out _ B2 _ hy0).mono ?_); rintro e w_3 ⟨rfl, hb⟩; have B3 := B2.trans (hb.mono B2.size); have hS2 := HS.out _ B3; clear hb)
      | (go_at_call 15; (with_reducible refine (C1.out _ B1).mono ?_); rintro e w_2 ⟨y0, rfl, hy0, hb⟩; have B2 := B1.trans (hb.mono B1.size); have hS1 := HS.out _ B2; clear hb)
      | fail))
  have hbz := B3
  clear hS0 hSd HS C1 C2 B1 B2 B3 hy0 hS1 hrx
  replace A0 := A0.trans (hbz.mono A0.size)
  replace hwA := hwA.trans (hbz.mono hwA.size)
  replace hx0 := hx0.keep OLab.held hbz (by omega)
  replace hg0 := hg0.keep OLab.held hbz (by omega)
  replace ca00 := (hbz.cell (p := ⟨w.heap.size, 0, none⟩) ma0).trans ca00
  replace ca01 := (hbz.cell (p := ⟨w.heap.size, 1, none⟩) ma0).trans ca01
  replace ca02 := (hbz.cell (p := ⟨w.heap.size, 2, none⟩) ma0).trans ca02
  replace ma0 := Nat.lt_of_lt_of_le ma0 hbz.size
  replace cs00 := (hbz.cell (p := ⟨w4.heap.size, 0, none⟩) ms0).trans cs00
  replace cs01 := (hbz.cell (p := ⟨w4.heap.size, 1, none⟩) ms0).trans cs01
  replace cs02 := (hbz.cell (p := ⟨w4.heap.size, 2, none⟩) ms0).trans cs02
  replace ms0 := Nat.lt_of_lt_of_le ms0 hbz.size
  replace cx00 := (hbz.cell (p := ⟨w6.heap.size, 0, none⟩) mx0).trans cx00
  replace cx01 := (hbz.cell (p := ⟨w6.heap.size, 1, none⟩) mx0).trans cx01
  replace cx02 := (hbz.cell (p := ⟨w6.heap.size, 2, none⟩) mx0).trans cx02
  replace mx0 := Nat.lt_of_lt_of_le mx0 hbz.size
  replace cg00 := (hbz.cell (p := ⟨w8.heap.size, 0, none⟩) mg0).trans cg00
  replace cg01 := (hbz.cell (p := ⟨w8.heap.size, 1, none⟩) mg0).trans cg01
  replace cg02 := (hbz.cell (p := ⟨w8.heap.size, 2, none⟩) mg0).trans cg02
  replace mg0 := Nat.lt_of_lt_of_le mg0 hbz.size
  have z11 := hbz.size
  clear hbz
  have M := Lib.hid (markLabels_in (k0 := 1) hx0 (by omega) (by simp only; rw [HL0.out]; omega) (by omega))
  simp only at M
  rw [HL0.out] at M
  go_wp2_with fail
  refine M.out.mono ?_
  rintro e w12 ⟨rfl, hm12, ho12⟩
  clear M
  replace A0 := A0.trans (ho12.below (by omega) A0.size)
  replace hwA := hwA.trans (ho12.below (by omega) hwA.size)
  replace hg0 := hg0.off OLab.held ho12 (by omega)
  replace ca00 := (ho12.cell3 (p := ⟨w.heap.size, 0, none⟩) ma0 (by simp <;> omega)).trans ca00
  replace ca01 := (ho12.cell3 (p := ⟨w.heap.size, 1, none⟩) ma0 (by simp <;> omega)).trans ca01
  replace ca02 := (ho12.cell3 (p := ⟨w.heap.size, 2, none⟩) ma0 (by simp <;> omega)).trans ca02
  replace ma0 := Nat.lt_of_lt_of_le ma0 ho12.size
  replace cs00 := (ho12.cell3 (p := ⟨w4.heap.size, 0, none⟩) ms0 (by simp <;> omega)).trans cs00
  replace cs01 := (ho12.cell3 (p := ⟨w4.heap.size, 1, none⟩) ms0 (by simp <;> omega)).trans cs01
  replace cs02 := (ho12.cell3 (p := ⟨w4.heap.size, 2, none⟩) ms0 (by simp <;> omega)).trans cs02
  replace ms0 := Nat.lt_of_lt_of_le ms0 ho12.size
  replace cx00 := (ho12.cell3 (p := ⟨w6.heap.size, 0, none⟩) mx0 (by simp <;> omega)).trans cx00
  replace cx01 := (ho12.cell3 (p := ⟨w6.heap.size, 1, none⟩) mx0 (by simp <;> omega)).trans cx01
  replace cx02 := (ho12.cell3 (p := ⟨w6.heap.size, 2, none⟩) mx0 (by simp <;> omega)).trans cx02
  replace mx0 := Nat.lt_of_lt_of_le mx0 ho12.size
  replace cg00 := (ho12.cell3 (p := ⟨w8.heap.size, 0, none⟩) mg0 (by simp <;> omega)).trans cg00
  replace cg01 := (ho12.cell3 (p := ⟨w8.heap.size, 1, none⟩) mg0 (by simp <;> omega)).trans cg01
  replace cg02 := (ho12.cell3 (p := ⟨w8.heap.size, 2, none⟩) mg0 (by simp <;> omega)).trans cg02
  replace mg0 := Nat.lt_of_lt_of_le mg0 ho12.size
  have z12 := ho12.size
  clear ho12
  clear hx0 hm12
  go_wp2_with fail
  refine (eqLabels_same (New.lab hg0.new) (LabR.frame _ _ _ _ R0 hwA)).mono ?_
  rintro e w13 ⟨rfl, hb13⟩
  replace A0 := A0.trans (hb13.mono A0.size)
  replace hwA := hwA.trans (hb13.mono hwA.size)
  replace hg0 := hg0.keep OLab.held hb13 (by omega)
  replace ca00 := (hb13.cell (p := ⟨w.heap.size, 0, none⟩) ma0).trans ca00
  replace ca01 := (hb13.cell (p := ⟨w.heap.size, 1, none⟩) ma0).trans ca01
  replace ca02 := (hb13.cell (p := ⟨w.heap.size, 2, none⟩) ma0).trans ca02
  replace ma0 := Nat.lt_of_lt_of_le ma0 hb13.size
  replace cs00 := (hb13.cell (p := ⟨w4.heap.size, 0, none⟩) ms0).trans cs00
  replace cs01 := (hb13.cell (p := ⟨w4.heap.size, 1, none⟩) ms0).trans cs01
  replace cs02 := (hb13.cell (p := ⟨w4.heap.size, 2, none⟩) ms0).trans cs02
  replace ms0 := Nat.lt_of_lt_of_le ms0 hb13.size
  replace cx00 := (hb13.cell (p := ⟨w6.heap.size, 0, none⟩) mx0).trans cx00
  replace cx01 := (hb13.cell (p := ⟨w6.heap.size, 1, none⟩) mx0).trans cx01
  replace cx02 := (hb13.cell (p := ⟨w6.heap.size, 2, none⟩) mx0).trans cx02
  replace mx0 := Nat.lt_of_lt_of_le mx0 hb13.size
  replace cg00 := (hb13.cell (p := ⟨w8.heap.size, 0, none⟩) mg0).trans cg00
  replace cg01 := (hb13.cell (p := ⟨w8.heap.size, 1, none⟩) mg0).trans cg01
  replace cg02 := (hb13.cell (p := ⟨w8.heap.size, 2, none⟩) mg0).trans cg02
  replace mg0 := Nat.lt_of_lt_of_le mg0 hb13.size
  have z13 := hb13.size
  clear hb13
  have qg0 := Qg0.out
  have rg0 := Rg0.out
  have M := Lib.hid (markLabels_in (k0 := 1) hg0 (by omega) (by simp only; rw [HVl0.out]; omega) (by omega))
  simp only at M
  rw [HVl0.out] at M
  go_wp2_with fail
  refine M.out.mono ?_
  rintro e w14 ⟨rfl, hm14, ho14⟩
  clear M
  replace A0 := A0.trans (ho14.below (by omega) A0.size)
  replace hwA := hwA.trans (ho14.below (by omega) hwA.size)
  replace ca00 := (ho14.cell3 (p := ⟨w.heap.size, 0, none⟩) ma0 (by simp <;> omega)).trans ca00
  replace ca01 := (ho14.cell3 (p := ⟨w.heap.size, 1, none⟩) ma0 (by simp <;> omega)).trans ca01
  replace ca02 := (ho14.cell3 (p := ⟨w.heap.size, 2, none⟩) ma0 (by simp <;> omega)).trans ca02
  replace ma0 := Nat.lt_of_lt_of_le ma0 ho14.size
  replace cs00 := (ho14.cell3 (p := ⟨w4.heap.size, 0, none⟩) ms0 (by simp <;> omega)).trans cs00
  replace cs01 := (ho14.cell3 (p := ⟨w4.heap.size, 1, none⟩) ms0 (by simp <;> omega)).trans cs01
  replace cs02 := (ho14.cell3 (p := ⟨w4.heap.size, 2, none⟩) ms0 (by simp <;> omega)).trans cs02
  replace ms0 := Nat.lt_of_lt_of_le ms0 ho14.size
  replace cx00 := (ho14.cell3 (p := ⟨w6.heap.size, 0, none⟩) mx0 (by simp <;> omega)).trans cx00
  replace cx01 := (ho14.cell3 (p := ⟨w6.heap.size, 1, none⟩) mx0 (by simp <;> omega)).trans cx01
  replace cx02 := (ho14.cell3 (p := ⟨w6.heap.size, 2, none⟩) mx0 (by simp <;> omega)).trans cx02
  replace mx0 := Nat.lt_of_lt_of_le mx0 ho14.size
  replace cg00 := (ho14.cell3 (p := ⟨w8.heap.size, 0, none⟩) mg0 (by simp <;> omega)).trans cg00
  replace cg01 := (ho14.cell3 (p := ⟨w8.heap.size, 1, none⟩) mg0 (by simp <;> omega)).trans cg01
  replace cg02 := (ho14.cell3 (p := ⟨w8.heap.size, 2, none⟩) mg0 (by simp <;> omega)).trans cg02
  replace mg0 := Nat.lt_of_lt_of_le mg0 ho14.size
  have z14 := ho14.size
  clear ho14
  clear hg0
  have hg0 := hm14
  clear hm14
  have M := Lib.hid (heldLabels_same (x := (VL0, VS0, Vx0)) (k0 := 1) (New.lab hg0.new) (by omega) (by simp only; rw [HVl0.out]; omega))
  simp only at M
  rw [HVl0.out] at M
  go_wp2_with fail
  refine (M.out).mono ?_
  rintro e w15 ⟨rfl, hb15⟩
  replace A0 := A0.trans (hb15.mono A0.size)
  replace hwA := hwA.trans (hb15.mono hwA.size)
  replace hg0 := hg0.keep OLab.held hb15 (by omega)
  replace ca00 := (hb15.cell (p := ⟨w.heap.size, 0, none⟩) ma0).trans ca00
  replace ca01 := (hb15.cell (p := ⟨w.heap.size, 1, none⟩) ma0).trans ca01
  replace ca02 := (hb15.cell (p := ⟨w.heap.size, 2, none⟩) ma0).trans ca02
  replace ma0 := Nat.lt_of_lt_of_le ma0 hb15.size
  replace cs00 := (hb15.cell (p := ⟨w4.heap.size, 0, none⟩) ms0).trans cs00
  replace cs01 := (hb15.cell (p := ⟨w4.heap.size, 1, none⟩) ms0).trans cs01
  replace cs02 := (hb15.cell (p := ⟨w4.heap.size, 2, none⟩) ms0).trans cs02
  replace ms0 := Nat.lt_of_lt_of_le ms0 hb15.size
  replace cx00 := (hb15.cell (p := ⟨w6.heap.size, 0, none⟩) mx0).trans cx00
  replace cx01 := (hb15.cell (p := ⟨w6.heap.size, 1, none⟩) mx0).trans cx01
  replace cx02 := (hb15.cell (p := ⟨w6.heap.size, 2, none⟩) mx0).trans cx02
  replace mx0 := Nat.lt_of_lt_of_le mx0 hb15.size
  replace cg00 := (hb15.cell (p := ⟨w8.heap.size, 0, none⟩) mg0).trans cg00
  replace cg01 := (hb15.cell (p := ⟨w8.heap.size, 1, none⟩) mg0).trans cg01
  replace cg02 := (hb15.cell (p := ⟨w8.heap.size, 2, none⟩) mg0).trans cg02
  replace mg0 := Nat.lt_of_lt_of_le mg0 hb15.size
  have z15 := hb15.size
  clear hb15
  clear M
  go_wp2_with fail
  refine (toLabels_o (LabR.frame _ _ _ _ T0.out A0) sz0.out).mono ?_
  rintro e w16 ⟨u0, rfl, hu0, hb16⟩
  replace A0 := A0.trans (hb16.mono A0.size)
  replace hwA := hwA.trans (hb16.mono hwA.size)
  replace hg0 := hg0.keep OLab.held hb16 (by omega)
  replace ca00 := (hb16.cell (p := ⟨w.heap.size, 0, none⟩) ma0).trans ca00
  replace ca01 := (hb16.cell (p := ⟨w.heap.size, 1, none⟩) ma0).trans ca01
  replace ca02 := (hb16.cell (p := ⟨w.heap.size, 2, none⟩) ma0).trans ca02
  replace ma0 := Nat.lt_of_lt_of_le ma0 hb16.size
  replace cs00 := (hb16.cell (p := ⟨w4.heap.size, 0, none⟩) ms0).trans cs00
  replace cs01 := (hb16.cell (p := ⟨w4.heap.size, 1, none⟩) ms0).trans cs01
  replace cs02 := (hb16.cell (p := ⟨w4.heap.size, 2, none⟩) ms0).trans cs02
  replace ms0 := Nat.lt_of_lt_of_le ms0 hb16.size
  replace cx00 := (hb16.cell (p := ⟨w6.heap.size, 0, none⟩) mx0).trans cx00
  replace cx01 := (hb16.cell (p := ⟨w6.heap.size, 1, none⟩) mx0).trans cx01
  replace cx02 := (hb16.cell (p := ⟨w6.heap.size, 2, none⟩) mx0).trans cx02
  replace mx0 := Nat.lt_of_lt_of_le mx0 hb16.size
  replace cg00 := (hb16.cell (p := ⟨w8.heap.size, 0, none⟩) mg0).trans cg00
  replace cg01 := (hb16.cell (p := ⟨w8.heap.size, 1, none⟩) mg0).trans cg01
  replace cg02 := (hb16.cell (p := ⟨w8.heap.size, 2, none⟩) mg0).trans cg02
  replace mg0 := Nat.lt_of_lt_of_le mg0 hb16.size
  have z16 := hb16.size
  clear hb16
  replace hu0 := hu0.inn OLab.held
  go_wp2_with fail
  refine (impl_ResolveLabels_c (New.lab hu0.new)).mono ?_
  rintro e w17 ⟨f0, rfl, hf0, hb17⟩
  replace A0 := A0.trans (hb17.mono A0.size)
  replace hwA := hwA.trans (hb17.mono hwA.size)
  replace hg0 := hg0.keep OLab.held hb17 (by omega)
  replace hu0 := hu0.keep OLab.held hb17 (by omega)
  replace ca00 := (hb17.cell (p := ⟨w.heap.size, 0, none⟩) ma0).trans ca00
  replace ca01 := (hb17.cell (p := ⟨w.heap.size, 1, none⟩) ma0).trans ca01
  replace ca02 := (hb17.cell (p := ⟨w.heap.size, 2, none⟩) ma0).trans ca02
  replace ma0 := Nat.lt_of_lt_of_le ma0 hb17.size
  replace cs00 := (hb17.cell (p := ⟨w4.heap.size, 0, none⟩) ms0).trans cs00
  replace cs01 := (hb17.cell (p := ⟨w4.heap.size, 1, none⟩) ms0).trans cs01
  replace cs02 := (hb17.cell (p := ⟨w4.heap.size, 2, none⟩) ms0).trans cs02
  replace ms0 := Nat.lt_of_lt_of_le ms0 hb17.size
  replace cx00 := (hb17.cell (p := ⟨w6.heap.size, 0, none⟩) mx0).trans cx00
  replace cx01 := (hb17.cell (p := ⟨w6.heap.size, 1, none⟩) mx0).trans cx01
  replace cx02 := (hb17.cell (p := ⟨w6.heap.size, 2, none⟩) mx0).trans cx02
  replace mx0 := Nat.lt_of_lt_of_le mx0 hb17.size
  replace cg00 := (hb17.cell (p := ⟨w8.heap.size, 0, none⟩) mg0).trans cg00
  replace cg01 := (hb17.cell (p := ⟨w8.heap.size, 1, none⟩) mg0).trans cg01
  replace cg02 := (hb17.cell (p := ⟨w8.heap.size, 2, none⟩) mg0).trans cg02
  replace mg0 := Nat.lt_of_lt_of_le mg0 hb17.size
  have z17 := hb17.size
  clear hb17
  rw [← HV0.out] at hf0
  obtain ⟨vf0, ef0, _, yaf0, ycf0, hyvf0, _, _, _, _⟩ := New.lab hf0
  subst hyvf0
  subst ef0
  simp only at hf0 ⊢
  rw [HVl0.out] at hf0 ⊢
  replace hf0 := hf0.inn OLab.held
  clear hu0
  go_wp2_with fail
  obtain ⟨w18, ex, hb18, cf00, cf01, cf02, mf0⟩ := boxA3_ex w17 28 (.int .i64 VL0) (.int .i64 VS0) (.slice yaf0 vl0 ycf0)
  change Calls Try.prog _ _ (w17.alloc (.cells #[.int .i64 VL0, .int .i64 VS0, .slice yaf0 vl0 ycf0] 28)) _
  rw [ex]
  clear ex
  have qf0 := mf0
  replace A0 := A0.trans (hb18.mono A0.size)
  replace hwA := hwA.trans (hb18.mono hwA.size)
  replace hg0 := hg0.keep OLab.held hb18 (by omega)
  replace hf0 := hf0.keep OLab.held hb18 (by omega)
  replace ca00 := (hb18.cell (p := ⟨w.heap.size, 0, none⟩) ma0).trans ca00
  replace ca01 := (hb18.cell (p := ⟨w.heap.size, 1, none⟩) ma0).trans ca01
  replace ca02 := (hb18.cell (p := ⟨w.heap.size, 2, none⟩) ma0).trans ca02
  replace ma0 := Nat.lt_of_lt_of_le ma0 hb18.size
  replace cs00 := (hb18.cell (p := ⟨w4.heap.size, 0, none⟩) ms0).trans cs00
  replace cs01 := (hb18.cell (p := ⟨w4.heap.size, 1, none⟩) ms0).trans cs01
  replace cs02 := (hb18.cell (p := ⟨w4.heap.size, 2, none⟩) ms0).trans cs02
  replace ms0 := Nat.lt_of_lt_of_le ms0 hb18.size
  replace cx00 := (hb18.cell (p := ⟨w6.heap.size, 0, none⟩) mx0).trans cx00
  replace cx01 := (hb18.cell (p := ⟨w6.heap.size, 1, none⟩) mx0).trans cx01
  replace cx02 := (hb18.cell (p := ⟨w6.heap.size, 2, none⟩) mx0).trans cx02
  replace mx0 := Nat.lt_of_lt_of_le mx0 hb18.size
  replace cg00 := (hb18.cell (p := ⟨w8.heap.size, 0, none⟩) mg0).trans cg00
  replace cg01 := (hb18.cell (p := ⟨w8.heap.size, 1, none⟩) mg0).trans cg01
  replace cg02 := (hb18.cell (p := ⟨w8.heap.size, 2, none⟩) mg0).trans cg02
  replace mg0 := Nat.lt_of_lt_of_le mg0 hb18.size
  have z18 := hb18.size
  clear hb18
  refine (eqLabels_same (New.lab hf0.new) (LabR.frame _ _ _ _ R0 hwA)).mono ?_
  rintro e w19 ⟨rfl, hb19⟩
  replace A0 := A0.trans (hb19.mono A0.size)
  replace hwA := hwA.trans (hb19.mono hwA.size)
  replace hg0 := hg0.keep OLab.held hb19 (by omega)
  replace hf0 := hf0.keep OLab.held hb19 (by omega)
  replace ca00 := (hb19.cell (p := ⟨w.heap.size, 0, none⟩) ma0).trans ca00
  replace ca01 := (hb19.cell (p := ⟨w.heap.size, 1, none⟩) ma0).trans ca01
  replace ca02 := (hb19.cell (p := ⟨w.heap.size, 2, none⟩) ma0).trans ca02
  replace ma0 := Nat.lt_of_lt_of_le ma0 hb19.size
  replace cs00 := (hb19.cell (p := ⟨w4.heap.size, 0, none⟩) ms0).trans cs00
  replace cs01 := (hb19.cell (p := ⟨w4.heap.size, 1, none⟩) ms0).trans cs01
  replace cs02 := (hb19.cell (p := ⟨w4.heap.size, 2, none⟩) ms0).trans cs02
  replace ms0 := Nat.lt_of_lt_of_le ms0 hb19.size
  replace cx00 := (hb19.cell (p := ⟨w6.heap.size, 0, none⟩) mx0).trans cx00
  replace cx01 := (hb19.cell (p := ⟨w6.heap.size, 1, none⟩) mx0).trans cx01
  replace cx02 := (hb19.cell (p := ⟨w6.heap.size, 2, none⟩) mx0).trans cx02
  replace mx0 := Nat.lt_of_lt_of_le mx0 hb19.size
  replace cg00 := (hb19.cell (p := ⟨w8.heap.size, 0, none⟩) mg0).trans cg00
  replace cg01 := (hb19.cell (p := ⟨w8.heap.size, 1, none⟩) mg0).trans cg01
  replace cg02 := (hb19.cell (p := ⟨w8.heap.size, 2, none⟩) mg0).trans cg02
  replace mg0 := Nat.lt_of_lt_of_le mg0 hb19.size
  replace cf00 := (hb19.cell (p := ⟨w17.heap.size, 0, none⟩) mf0).trans cf00
  replace cf01 := (hb19.cell (p := ⟨w17.heap.size, 1, none⟩) mf0).trans cf01
  replace cf02 := (hb19.cell (p := ⟨w17.heap.size, 2, none⟩) mf0).trans cf02
  replace mf0 := Nat.lt_of_lt_of_le mf0 hb19.size
  have z19 := hb19.size
  clear hb19
  have M := Lib.hid (heldLabels_same (x := (VL0, VS0, Vx0)) (k0 := 1) (New.lab hg0.new) (by omega) (by simp only; rw [HVl0.out]; omega))
  simp only at M
  rw [HVl0.out] at M
  go_wp2_with fail
  refine (M.out).mono ?_
  rintro e w20 ⟨rfl, hb20⟩
  replace A0 := A0.trans (hb20.mono A0.size)
  replace hwA := hwA.trans (hb20.mono hwA.size)
  replace hg0 := hg0.keep OLab.held hb20 (by omega)
  replace hf0 := hf0.keep OLab.held hb20 (by omega)
  replace ca00 := (hb20.cell (p := ⟨w.heap.size, 0, none⟩) ma0).trans ca00
  replace ca01 := (hb20.cell (p := ⟨w.heap.size, 1, none⟩) ma0).trans ca01
  replace ca02 := (hb20.cell (p := ⟨w.heap.size, 2, none⟩) ma0).trans ca02
  replace ma0 := Nat.lt_of_lt_of_le ma0 hb20.size
  replace cs00 := (hb20.cell (p := ⟨w4.heap.size, 0, none⟩) ms0).trans cs00
  replace cs01 := (hb20.cell (p := ⟨w4.heap.size, 1, none⟩) ms0).trans cs01
  replace cs02 := (hb20.cell (p := ⟨w4.heap.size, 2, none⟩) ms0).trans cs02
  replace ms0 := Nat.lt_of_lt_of_le ms0 hb20.size
  replace cx00 := (hb20.cell (p := ⟨w6.heap.size, 0, none⟩) mx0).trans cx00
  replace cx01 := (hb20.cell (p := ⟨w6.heap.size, 1, none⟩) mx0).trans cx01
  replace cx02 := (hb20.cell (p := ⟨w6.heap.size, 2, none⟩) mx0).trans cx02
  replace mx0 := Nat.lt_of_lt_of_le mx0 hb20.size
  replace cg00 := (hb20.cell (p := ⟨w8.heap.size, 0, none⟩) mg0).trans cg00
  replace cg01 := (hb20.cell (p := ⟨w8.heap.size, 1, none⟩) mg0).trans cg01
  replace cg02 := (hb20.cell (p := ⟨w8.heap.size, 2, none⟩) mg0).trans cg02
  replace mg0 := Nat.lt_of_lt_of_le mg0 hb20.size
  replace cf00 := (hb20.cell (p := ⟨w17.heap.size, 0, none⟩) mf0).trans cf00
  replace cf01 := (hb20.cell (p := ⟨w17.heap.size, 1, none⟩) mf0).trans cf01
  replace cf02 := (hb20.cell (p := ⟨w17.heap.size, 2, none⟩) mf0).trans cf02
  replace mf0 := Nat.lt_of_lt_of_le mf0 hb20.size
  have z20 := hb20.size
  clear hb20
  clear M
  go_wp2
  go_ret
  exact ⟨rfl, A0⟩
end Go.Proofs.Ytdohepngandajaa
end

section
/-
  The program's ResolveLabels returns what the reference's returns, and leaves its arguments alone, for every input. No condition.
-/
namespace Go.Proofs.Ytdohepngandajaa.fnExactResolveLabels
open Go.ChangeShapes Go.WideShapes Go.ChangeAt Go.RowKit Go.Sd Go.Joins
open Go.ChangeMaps (open_string shut_string)
set_option linter.unusedVariables false
theorem own : ownKnob Try.prog.godebug = none := by kernel_rfl
theorem laidOut : laidOutB Try.prog = true := by kernel_rfl
set_option maxRecDepth 100000 in
theorem lifted (os : Os) (started : os.Started) (H : Type) (enc : TypeId × Value → H) :
    ReturnsInHanded {} Try.checked os 6 .any (Rows.fnExactResolveLabelsSpec.pre6 enc Try.prog Try.f6 Rows.fnExactResolveLabelsRow.domain false) (Rows.fnExactResolveLabelsSpec.post enc Try.prog Try.f6 false true false false) := by
  refine returnsInHanded_of_change (C := Try.checked) own started (by kernel_rfl) Try.func6
    (ChangeSpec.witness6 (enc := enc) (C := Try.checked) false ⟨#[], #[.agg #[.int .i64 0, .int .i64 0, .slice none 0 0]], []⟩ 8 (by kernel_rfl) (by kernel_rfl) (by kernel_rfl) (by kernel_rfl)) ?_
  intro W base args ds gs before hval0 hW hcnd _
  have hval : ∀ (j : Nat) t v, Try.f6.params[j]? = some t → args[j]? = some v → Value.okWide Try.prog W .any base t v := hval0
  have hW' := hW
  obtain ⟨p, q, hA0, hV, rfl, hfz, hnd⟩ := hW
  have hA : DataW.TrodAll enc Try.prog W 0 (fun _ => true) true Try.f6.params.toList args.toList ds p := hA0
  rw [Try.params6] at hA hval
  obtain ⟨v0, vs0, d0, ds0, p0, q0, hargs, rfl, rfl, h0, r0⟩ := trodAll_cons hA
  obtain ⟨rfl, rfl, rfl⟩ := trodAll_nil r0
  obtain rfl : args = #[v0] := by cases args; simp_all
  obtain ⟨rfl, rfl⟩ := trodVars_none hV
  have k0 := h0
  have lt0 : ∀ x ∈ p0, x.block < W.heap.size := by obtain ⟨m, hm⟩ := k0; exact DataW.trod_lt m _ _ _ hm
  obtain ⟨a0, t0, b0⟩ := open_Labels Try.underlying24 (by kernel_rfl) (by kernel_rfl) rfl rfl rfl Try.underlying22 Try.underlying115 Try.underlying3 rfl rfl rfl rfl rfl rfl (by kernel_rfl) (by kernel_rfl) (hval 0 24 v0 rfl rfl) h0
  clear hA0 hval0
  refine (law_ResolveLabels t0 b0).mono fun e W' ⟨he, bel⟩ => ?_
  subst he
  exact ⟨_, rfl, _, _, _, [], _, [], hW', trodAll_mk1 (shut_bool Try.underlying4 _), (trodAll_cons_mk (Below.trod laidOut (by kernel_rfl) (of_decide_eq_true (by kernel_rfl)) k0 bel lt0) trodAll_mk0), rfl, bel.frame _, fun h => by cases h⟩

theorem over : Rows.fnExactResolveLabelsRow.holds Try.pinned (OpenSpec.ofChange Rows.fnExactResolveLabelsSpec) :=
  OpenClaim.holds_of_wide 6 Try.f6 rfl rfl rfl rfl rfl rfl rfl ⟨rfl, rfl, rfl, rfl, rfl⟩ rfl rfl rfl rfl rfl (by kernel_rfl) Try.func6 (by kernel_rfl)
    (of_decide_eq_true (by kernel_rfl)) (by unfold Func.isWrapper; first | (rw [if_pos (by decide +kernel)]; kernel_rfl) | (rw [if_neg (by decide +kernel)]; exact ⟨rfl, rfl⟩))
    (fun os started H enc _ => lifted os started H enc)

theorem proved : Rows.FnExactResolveLabelsSaid := over
#print axioms proved
end Go.Proofs.Ytdohepngandajaa.fnExactResolveLabels
end
