/-
  The law on ReadSame, walked over the contracts of both sides.
-/
import Derived.Test.YtjgiobapdkdhpaaLawKit
import Derived.Test.YtjgiobapdkdhpaaLabH
import Derived.Test.YtjgiobapdkdhpaaLabO
import Derived.Test.YtjgiobapdkdhpaaLabC
import Derived.Deep.RegionHeld3
import Derived.Deep.DeepCutAuto
import Derived.Test.YtjgiobapdkdhpaaLab
import Derived.Test.YtjgiobapdkdhpaaReadS
import Derived.Test.YtjgiobapdkdhpaaReadI
import Derived.Test.YtjgiobapdkdhpaaOpen
namespace Go.Proofs.Ytjgiobapdkdhpaa
open Go.RowKit Go.Deep Go.Sd
set_option linter.unusedVariables false in
set_option maxHeartbeats 2000000 in
set_option maxRecDepth 10000 in
theorem law_ReadSame {w : World} {v0 : Value} {a0 : Lb} (t0 : LabR w v0 a0) (b0 : I64 a0.1 ∧ I64 a0.2.1) {v1 : Value} {a1 : Lb} (t1 : LabR w v1 a1) (b1 : I64 a1.1 ∧ I64 a1.2.1) :
    Calls Try.prog 9 #[v0, v1] w fun e w' => e = .returned (.bool true) ∧ Below w.heap.size w w' := by
  have T0 := Lib.hid t0
  obtain ⟨L0, S0, xs0⟩ := a0
  obtain ⟨va0, rfl, _, aa0, ac0, rfl, _, _, _, _⟩ := t0
  simp only at *
  have B0 := Lib.hid b0
  clear b0
  generalize hln0 : xs0.length = ln0 at *
  have HL0 := Lib.hid hln0
  clear hln0
  have T1 := Lib.hid t1
  obtain ⟨L1, S1, xs1⟩ := a1
  obtain ⟨va1, rfl, _, aa1, ac1, rfl, _, _, _, _⟩ := t1
  simp only at *
  have B1 := Lib.hid b1
  clear b1
  generalize hln1 : xs1.length = ln1 at *
  have HL1 := Lib.hid hln1
  clear hln1
  have A0 : Below w.heap.size w w := Below.refl _ _
  have Z0 := Lib.hid (fun (v : Value) (wz : World) (h : LabR wz v (L0, S0, xs0)) => szLabels_c h (l := 1048576) (by omega) (by omega))
  simp only at Z0
  rw [HL0.out] at Z0
  have d0 := szS_bd 1048576 ln0 (by omega)
  generalize szS 1048576 ln0 = l0 at Z0 d0
  go_enter Try.func9, Try.ntmps9
  go_wp2_with fail
  change Calls Try.prog _ _ ((w.alloc (.cells #[(.int .i64 L0), (.int .i64 S0), (.slice aa0 ln0 ac0)] 24)).alloc (.cells #[(.int .i64 L1), (.int .i64 S1), (.slice aa1 ln1 ac1)] 24)) _
  obtain ⟨w1, ex, hb1, ca00, ca01, ca02, ma0⟩ := boxA3_ex w 24 (.int .i64 L0) (.int .i64 S0) (.slice aa0 ln0 ac0)
  have eb0 : w1.heap.size = w.heap.size + 1 := by rw [← ex]; simp
  rw [ex]
  clear ex
  replace A0 := A0.trans (hb1.mono A0.size)
  have z1 := hb1.size
  clear hb1
  obtain ⟨w2, ex, hb2, ca10, ca11, ca12, ma1⟩ := boxA3_ex w1 24 (.int .i64 L1) (.int .i64 S1) (.slice aa1 ln1 ac1)
  rw [eb0] at ma1 ca10 ca11 ca12
  rw [ex]
  clear ex
  replace A0 := A0.trans (hb2.mono A0.size)
  replace ca00 := (hb2.cell (p := ⟨w.heap.size, 0, none⟩) ma0).trans ca00
  replace ca01 := (hb2.cell (p := ⟨w.heap.size, 1, none⟩) ma0).trans ca01
  replace ca02 := (hb2.cell (p := ⟨w.heap.size, 2, none⟩) ma0).trans ca02
  replace ma0 := Nat.lt_of_lt_of_le ma0 hb2.size
  have z2 := hb2.size
  clear hb2
  refine (Z0.out _ _ (LabR.frame _ _ _ _ T0.out A0)).mono ?_
  rintro e w3 ⟨rfl, hb3⟩
  replace A0 := A0.trans (hb3.mono A0.size)
  replace ca00 := (hb3.cell (p := ⟨w.heap.size, 0, none⟩) ma0).trans ca00
  replace ca01 := (hb3.cell (p := ⟨w.heap.size, 1, none⟩) ma0).trans ca01
  replace ca02 := (hb3.cell (p := ⟨w.heap.size, 2, none⟩) ma0).trans ca02
  replace ma0 := Nat.lt_of_lt_of_le ma0 hb3.size
  replace ca10 := (hb3.cell (p := ⟨w.heap.size + 1, 0, none⟩) ma1).trans ca10
  replace ca11 := (hb3.cell (p := ⟨w.heap.size + 1, 1, none⟩) ma1).trans ca11
  replace ca12 := (hb3.cell (p := ⟨w.heap.size + 1, 2, none⟩) ma1).trans ca12
  replace ma1 := Nat.lt_of_lt_of_le ma1 hb3.size
  have z3 := hb3.size
  clear hb3
  by_cases n0 : l0 < 0
  · go_wp2
    go_ret
    exact ⟨rfl, A0⟩
  have sz0 := Lib.hid (show xs0.length ≤ 1048576 from by rw [HL0.out]; omega)
  have l00 : 0 ≤ l0 := by omega
  have l01 : l0 ≤ 1048576 := by omega
  clear d0 n0 Z0
  have Z1 := Lib.hid (fun (v : Value) (wz : World) (h : LabR wz v (L1, S1, xs1)) => szLabels_c h (l := l0) (by omega) (by omega))
  simp only at Z1
  rw [HL1.out] at Z1
  have d1 := szS_bd l0 ln1 (by omega)
  generalize szS l0 ln1 = l1 at Z1 d1
  go_wp2_with fail
  refine (Z1.out _ _ (LabR.frame _ _ _ _ T1.out A0)).mono ?_
  rintro e w4 ⟨rfl, hb4⟩
  replace A0 := A0.trans (hb4.mono A0.size)
  replace ca00 := (hb4.cell (p := ⟨w.heap.size, 0, none⟩) ma0).trans ca00
  replace ca01 := (hb4.cell (p := ⟨w.heap.size, 1, none⟩) ma0).trans ca01
  replace ca02 := (hb4.cell (p := ⟨w.heap.size, 2, none⟩) ma0).trans ca02
  replace ma0 := Nat.lt_of_lt_of_le ma0 hb4.size
  replace ca10 := (hb4.cell (p := ⟨w.heap.size + 1, 0, none⟩) ma1).trans ca10
  replace ca11 := (hb4.cell (p := ⟨w.heap.size + 1, 1, none⟩) ma1).trans ca11
  replace ca12 := (hb4.cell (p := ⟨w.heap.size + 1, 2, none⟩) ma1).trans ca12
  replace ma1 := Nat.lt_of_lt_of_le ma1 hb4.size
  have z4 := hb4.size
  clear hb4
  by_cases n1 : l1 < 0
  · go_wp2
    go_ret
    exact ⟨rfl, A0⟩
  have sz1 := Lib.hid (show xs1.length ≤ 1048576 from by rw [HL1.out]; omega)
  have l10 : 0 ≤ l1 := by omega
  have l11 : l1 ≤ 1048576 := by omega
  clear d1 n1 Z1
  go_wp2
  have hS0 : w4.cell? ⟨w.heap.size, 0, none⟩ = some (.int .i64 L0) ∧ w4.cell? ⟨w.heap.size, 1, none⟩ = some (.int .i64 S0) ∧ w4.cell? ⟨w.heap.size, 2, none⟩ = some (.slice aa0 ln0 ac0) ∧ w4.cell? ⟨w.heap.size + 1, 0, none⟩ = some (.int .i64 L1) ∧ w4.cell? ⟨w.heap.size + 1, 1, none⟩ = some (.int .i64 S1) ∧ w4.cell? ⟨w.heap.size + 1, 2, none⟩ = some (.slice aa1 ln1 ac1) := ⟨ca00, ca01, ca02, ca10, ca11, ca12⟩
  have hSd : w4.drew.cell? ⟨w.heap.size, 0, none⟩ = some (.int .i64 L0) ∧ w4.drew.cell? ⟨w.heap.size, 1, none⟩ = some (.int .i64 S0) ∧ w4.drew.cell? ⟨w.heap.size, 2, none⟩ = some (.slice aa0 ln0 ac0) ∧ w4.drew.cell? ⟨w.heap.size + 1, 0, none⟩ = some (.int .i64 L1) ∧ w4.drew.cell? ⟨w.heap.size + 1, 1, none⟩ = some (.int .i64 S1) ∧ w4.drew.cell? ⟨w.heap.size + 1, 2, none⟩ = some (.slice aa1 ln1 ac1) := hS0
  have HS := Lib.hid (fun (w2 : World) (hb3 : Below w4.heap.size w4 w2) => (show w2.cell? ⟨w.heap.size, 0, none⟩ = some (.int .i64 L0) ∧ w2.cell? ⟨w.heap.size, 1, none⟩ = some (.int .i64 S0) ∧ w2.cell? ⟨w.heap.size, 2, none⟩ = some (.slice aa0 ln0 ac0) ∧ w2.cell? ⟨w.heap.size + 1, 0, none⟩ = some (.int .i64 L1) ∧ w2.cell? ⟨w.heap.size + 1, 1, none⟩ = some (.int .i64 S1) ∧ w2.cell? ⟨w.heap.size + 1, 2, none⟩ = some (.slice aa1 ln1 ac1) from ⟨(hb3.cell (p := ⟨w.heap.size, 0, none⟩) ma0).trans ca00, (hb3.cell (p := ⟨w.heap.size, 1, none⟩) ma0).trans ca01, (hb3.cell (p := ⟨w.heap.size, 2, none⟩) ma0).trans ca02, (hb3.cell (p := ⟨w.heap.size + 1, 0, none⟩) ma1).trans ca10, (hb3.cell (p := ⟨w.heap.size + 1, 1, none⟩) ma1).trans ca11, (hb3.cell (p := ⟨w.heap.size + 1, 2, none⟩) ma1).trans ca12⟩))
  have HA := Lib.hid (fun (w2 : World) (hb3 : Below w4.heap.size w4 w2) => A0.trans (hb3.mono A0.size))
  have C1 := Lib.hid (fun w2 (hb3 : Below w4.heap.size w4 w2) => toLabels_c (LabR.frame _ _ _ _ T0.out (A0.trans (hb3.mono A0.size))) sz0.out)
  have C2 := Lib.hid (fun w2 (hb3 : Below w4.heap.size w4 w2) => toLabels_c (LabR.frame _ _ _ _ T1.out (A0.trans (hb3.mono A0.size))) sz1.out)
  have C3 := Lib.hid (fun w2 (hb3 : Below w4.heap.size w4 w2) => fun va vb (h0 : LabR w2 va (L0, S0, xs0)) (h1 : LabR w2 vb (L1, S1, xs1)) => spec_ReadSame_c h0 h1)
  have B1 := (Below.refl w4.heap.size w4).drew
  go_region_held3 (fun w' => w'.cell? ⟨w.heap.size, 0, none⟩ = some (.int .i64 L0) ∧ w'.cell? ⟨w.heap.size, 1, none⟩ = some (.int .i64 S0) ∧ w'.cell? ⟨w.heap.size, 2, none⟩ = some (.slice aa0 ln0 ac0) ∧ w'.cell? ⟨w.heap.size + 1, 0, none⟩ = some (.int .i64 L1) ∧ w'.cell? ⟨w.heap.size + 1, 1, none⟩ = some (.int .i64 S1) ∧ w'.cell? ⟨w.heap.size + 1, 2, none⟩ = some (.slice aa1 ln1 ac1))
    (first | with_reducible exact hS3 | with_reducible exact hS2 | with_reducible exact hS1 | with_reducible exact hSd | with_reducible exact hS0 | go_keep)
    ((first
      | (go_at_call 48; (with_reducible refine (C3.out _ B3 _ _ hp0' hp1).mono ?_); rintro e w_4 ⟨rfl, hb⟩; have B4 := B3.trans (hb.mono B3.size); have hS3 := HS.out _ B4; clear hb)
      | (go_at_call 17; (with_reducible refine (C2.out _ B2).mono ?_); rintro e w_3 ⟨p1, rfl, hp1, hb⟩; have hp0' := LabR.frame _ _ _ _ hp0 hb; have B3 := B2.trans (hb.mono B2.size); have hS2 := HS.out _ B3; clear hb)
      | (go_at_call 17; (with_reducible refine (C1.out _ B1).mono ?_); rintro e w_2 ⟨p0, rfl, hp0, hb⟩; have B2 := B1.trans (hb.mono B1.size); have hS1 := HS.out _ B2; clear hb)
      | fail))
  have hbz := B4
  clear HS HA hS0 hSd
  replace A0 := A0.trans (hbz.mono A0.size)
  replace ca00 := (hbz.cell (p := ⟨w.heap.size, 0, none⟩) ma0).trans ca00
  replace ca01 := (hbz.cell (p := ⟨w.heap.size, 1, none⟩) ma0).trans ca01
  replace ca02 := (hbz.cell (p := ⟨w.heap.size, 2, none⟩) ma0).trans ca02
  replace ma0 := Nat.lt_of_lt_of_le ma0 hbz.size
  replace ca10 := (hbz.cell (p := ⟨w.heap.size + 1, 0, none⟩) ma1).trans ca10
  replace ca11 := (hbz.cell (p := ⟨w.heap.size + 1, 1, none⟩) ma1).trans ca11
  replace ca12 := (hbz.cell (p := ⟨w.heap.size + 1, 2, none⟩) ma1).trans ca12
  replace ma1 := Nat.lt_of_lt_of_le ma1 hbz.size
  have z5 := hbz.size
  clear hbz
  clear hp0 hp1 hp0' C1 C2 C3 B1 B2 B3 hS1 hS2
  go_wp2_with fail
  refine (toLabels_c (LabR.frame _ _ _ _ T0.out A0) sz0.out).mono ?_
  rintro e w6 ⟨x0, rfl, hx0, hb6⟩
  replace A0 := A0.trans (hb6.mono A0.size)
  replace ca00 := (hb6.cell (p := ⟨w.heap.size, 0, none⟩) ma0).trans ca00
  replace ca01 := (hb6.cell (p := ⟨w.heap.size, 1, none⟩) ma0).trans ca01
  replace ca02 := (hb6.cell (p := ⟨w.heap.size, 2, none⟩) ma0).trans ca02
  replace ma0 := Nat.lt_of_lt_of_le ma0 hb6.size
  replace ca10 := (hb6.cell (p := ⟨w.heap.size + 1, 0, none⟩) ma1).trans ca10
  replace ca11 := (hb6.cell (p := ⟨w.heap.size + 1, 1, none⟩) ma1).trans ca11
  replace ca12 := (hb6.cell (p := ⟨w.heap.size + 1, 2, none⟩) ma1).trans ca12
  replace ma1 := Nat.lt_of_lt_of_le ma1 hb6.size
  have z6 := hb6.size
  clear hb6
  have Hx0 := Lib.hid hx0
  clear hx0
  obtain ⟨vx0, ex0, _, ya0, yc0, hyv0, _, _, _, _⟩ := Hx0.out
  subst hyv0
  subst ex0
  try simp only at *
  go_wp2_with fail
  change Calls Try.prog _ _ (w6.alloc (.cells #[(.int .i64 L0), (.int .i64 S0), (.slice ya0 xs0.length yc0)] 28)) _
  obtain ⟨w7, ex, hb7, cx00, cx01, cx02, mx0⟩ := boxA3_ex w6 28 (.int .i64 L0) (.int .i64 S0) (.slice ya0 xs0.length yc0)
  rw [ex]
  clear ex
  replace A0 := A0.trans (hb7.mono A0.size)
  replace Hx0 := Lib.hid (LabR.frame _ _ _ _ Hx0.out hb7)
  replace ca00 := (hb7.cell (p := ⟨w.heap.size, 0, none⟩) ma0).trans ca00
  replace ca01 := (hb7.cell (p := ⟨w.heap.size, 1, none⟩) ma0).trans ca01
  replace ca02 := (hb7.cell (p := ⟨w.heap.size, 2, none⟩) ma0).trans ca02
  replace ma0 := Nat.lt_of_lt_of_le ma0 hb7.size
  replace ca10 := (hb7.cell (p := ⟨w.heap.size + 1, 0, none⟩) ma1).trans ca10
  replace ca11 := (hb7.cell (p := ⟨w.heap.size + 1, 1, none⟩) ma1).trans ca11
  replace ca12 := (hb7.cell (p := ⟨w.heap.size + 1, 2, none⟩) ma1).trans ca12
  replace ma1 := Nat.lt_of_lt_of_le ma1 hb7.size
  have z7 := hb7.size
  clear hb7
  refine (toLabels_c (LabR.frame _ _ _ _ T1.out A0) sz1.out).mono ?_
  rintro e w8 ⟨x1, rfl, hx1, hb8⟩
  replace A0 := A0.trans (hb8.mono A0.size)
  replace Hx0 := Lib.hid (LabR.frame _ _ _ _ Hx0.out hb8)
  replace ca00 := (hb8.cell (p := ⟨w.heap.size, 0, none⟩) ma0).trans ca00
  replace ca01 := (hb8.cell (p := ⟨w.heap.size, 1, none⟩) ma0).trans ca01
  replace ca02 := (hb8.cell (p := ⟨w.heap.size, 2, none⟩) ma0).trans ca02
  replace ma0 := Nat.lt_of_lt_of_le ma0 hb8.size
  replace ca10 := (hb8.cell (p := ⟨w.heap.size + 1, 0, none⟩) ma1).trans ca10
  replace ca11 := (hb8.cell (p := ⟨w.heap.size + 1, 1, none⟩) ma1).trans ca11
  replace ca12 := (hb8.cell (p := ⟨w.heap.size + 1, 2, none⟩) ma1).trans ca12
  replace ma1 := Nat.lt_of_lt_of_le ma1 hb8.size
  replace cx00 := (hb8.cell (p := ⟨w6.heap.size, 0, none⟩) mx0).trans cx00
  replace cx01 := (hb8.cell (p := ⟨w6.heap.size, 1, none⟩) mx0).trans cx01
  replace cx02 := (hb8.cell (p := ⟨w6.heap.size, 2, none⟩) mx0).trans cx02
  replace mx0 := Nat.lt_of_lt_of_le mx0 hb8.size
  have z8 := hb8.size
  clear hb8
  have Hx1 := Lib.hid hx1
  clear hx1
  obtain ⟨vx1, ex1, _, ya1, yc1, hyv1, _, _, _, _⟩ := Hx1.out
  subst hyv1
  subst ex1
  try simp only at *
  go_wp2_with fail
  change Calls Try.prog _ _ (w8.alloc (.cells #[(.int .i64 L1), (.int .i64 S1), (.slice ya1 xs1.length yc1)] 28)) _
  obtain ⟨w9, ex, hb9, cx10, cx11, cx12, mx1⟩ := boxA3_ex w8 28 (.int .i64 L1) (.int .i64 S1) (.slice ya1 xs1.length yc1)
  rw [ex]
  clear ex
  replace A0 := A0.trans (hb9.mono A0.size)
  replace Hx0 := Lib.hid (LabR.frame _ _ _ _ Hx0.out hb9)
  replace Hx1 := Lib.hid (LabR.frame _ _ _ _ Hx1.out hb9)
  replace ca00 := (hb9.cell (p := ⟨w.heap.size, 0, none⟩) ma0).trans ca00
  replace ca01 := (hb9.cell (p := ⟨w.heap.size, 1, none⟩) ma0).trans ca01
  replace ca02 := (hb9.cell (p := ⟨w.heap.size, 2, none⟩) ma0).trans ca02
  replace ma0 := Nat.lt_of_lt_of_le ma0 hb9.size
  replace ca10 := (hb9.cell (p := ⟨w.heap.size + 1, 0, none⟩) ma1).trans ca10
  replace ca11 := (hb9.cell (p := ⟨w.heap.size + 1, 1, none⟩) ma1).trans ca11
  replace ca12 := (hb9.cell (p := ⟨w.heap.size + 1, 2, none⟩) ma1).trans ca12
  replace ma1 := Nat.lt_of_lt_of_le ma1 hb9.size
  replace cx00 := (hb9.cell (p := ⟨w6.heap.size, 0, none⟩) mx0).trans cx00
  replace cx01 := (hb9.cell (p := ⟨w6.heap.size, 1, none⟩) mx0).trans cx01
  replace cx02 := (hb9.cell (p := ⟨w6.heap.size, 2, none⟩) mx0).trans cx02
  replace mx0 := Nat.lt_of_lt_of_le mx0 hb9.size
  have z9 := hb9.size
  clear hb9
  refine (impl_ReadSame_c Hx0.out Hx1.out).mono ?_
  rintro e w10 ⟨rfl, hb10⟩
  replace A0 := A0.trans (hb10.mono A0.size)
  replace Hx0 := Lib.hid (LabR.frame _ _ _ _ Hx0.out hb10)
  replace Hx1 := Lib.hid (LabR.frame _ _ _ _ Hx1.out hb10)
  replace ca00 := (hb10.cell (p := ⟨w.heap.size, 0, none⟩) ma0).trans ca00
  replace ca01 := (hb10.cell (p := ⟨w.heap.size, 1, none⟩) ma0).trans ca01
  replace ca02 := (hb10.cell (p := ⟨w.heap.size, 2, none⟩) ma0).trans ca02
  replace ma0 := Nat.lt_of_lt_of_le ma0 hb10.size
  replace ca10 := (hb10.cell (p := ⟨w.heap.size + 1, 0, none⟩) ma1).trans ca10
  replace ca11 := (hb10.cell (p := ⟨w.heap.size + 1, 1, none⟩) ma1).trans ca11
  replace ca12 := (hb10.cell (p := ⟨w.heap.size + 1, 2, none⟩) ma1).trans ca12
  replace ma1 := Nat.lt_of_lt_of_le ma1 hb10.size
  replace cx00 := (hb10.cell (p := ⟨w6.heap.size, 0, none⟩) mx0).trans cx00
  replace cx01 := (hb10.cell (p := ⟨w6.heap.size, 1, none⟩) mx0).trans cx01
  replace cx02 := (hb10.cell (p := ⟨w6.heap.size, 2, none⟩) mx0).trans cx02
  replace mx0 := Nat.lt_of_lt_of_le mx0 hb10.size
  replace cx10 := (hb10.cell (p := ⟨w8.heap.size, 0, none⟩) mx1).trans cx10
  replace cx11 := (hb10.cell (p := ⟨w8.heap.size, 1, none⟩) mx1).trans cx11
  replace cx12 := (hb10.cell (p := ⟨w8.heap.size, 2, none⟩) mx1).trans cx12
  replace mx1 := Nat.lt_of_lt_of_le mx1 hb10.size
  have z10 := hb10.size
  clear hb10
  go_wp2
  have hS0 : w10.cell? ⟨w6.heap.size, 0, none⟩ = some (.int .i64 L0) ∧ w10.cell? ⟨w6.heap.size, 1, none⟩ = some (.int .i64 S0) ∧ w10.cell? ⟨w6.heap.size, 2, none⟩ = some (.slice ya0 xs0.length yc0) ∧ w10.cell? ⟨w.heap.size, 0, none⟩ = some (.int .i64 L0) ∧ w10.cell? ⟨w.heap.size, 1, none⟩ = some (.int .i64 S0) ∧ w10.cell? ⟨w.heap.size, 2, none⟩ = some (.slice aa0 ln0 ac0) := ⟨cx00, cx01, cx02, ca00, ca01, ca02⟩
  have hSd : w10.drew.cell? ⟨w6.heap.size, 0, none⟩ = some (.int .i64 L0) ∧ w10.drew.cell? ⟨w6.heap.size, 1, none⟩ = some (.int .i64 S0) ∧ w10.drew.cell? ⟨w6.heap.size, 2, none⟩ = some (.slice ya0 xs0.length yc0) ∧ w10.drew.cell? ⟨w.heap.size, 0, none⟩ = some (.int .i64 L0) ∧ w10.drew.cell? ⟨w.heap.size, 1, none⟩ = some (.int .i64 S0) ∧ w10.drew.cell? ⟨w.heap.size, 2, none⟩ = some (.slice aa0 ln0 ac0) := hS0
  have HS := Lib.hid (fun (w2 : World) (hb3 : Below w10.heap.size w10 w2) => (show w2.cell? ⟨w6.heap.size, 0, none⟩ = some (.int .i64 L0) ∧ w2.cell? ⟨w6.heap.size, 1, none⟩ = some (.int .i64 S0) ∧ w2.cell? ⟨w6.heap.size, 2, none⟩ = some (.slice ya0 xs0.length yc0) ∧ w2.cell? ⟨w.heap.size, 0, none⟩ = some (.int .i64 L0) ∧ w2.cell? ⟨w.heap.size, 1, none⟩ = some (.int .i64 S0) ∧ w2.cell? ⟨w.heap.size, 2, none⟩ = some (.slice aa0 ln0 ac0) from ⟨(hb3.cell (p := ⟨w6.heap.size, 0, none⟩) mx0).trans cx00, (hb3.cell (p := ⟨w6.heap.size, 1, none⟩) mx0).trans cx01, (hb3.cell (p := ⟨w6.heap.size, 2, none⟩) mx0).trans cx02, (hb3.cell (p := ⟨w.heap.size, 0, none⟩) ma0).trans ca00, (hb3.cell (p := ⟨w.heap.size, 1, none⟩) ma0).trans ca01, (hb3.cell (p := ⟨w.heap.size, 2, none⟩) ma0).trans ca02⟩))
  have HA := Lib.hid (fun (w2 : World) (hb3 : Below w10.heap.size w10 w2) => A0.trans (hb3.mono A0.size))
  have C1 := Lib.hid (fun w2 (hb3 : Below w10.heap.size w10 w2) => toLabels_c (LabR.frame _ _ _ _ T0.out (A0.trans (hb3.mono A0.size))) sz0.out)
  have C2 := Lib.hid (fun w2 (hb3 : Below w10.heap.size w10 w2) => fun v (hy : LabR w2 v _) => eqLabels_same (LabR.frame _ _ _ _ Hx0.out hb3) hy)
  have B1 := (Below.refl w10.heap.size w10).drew
  go_region_held3 (fun w' => w'.cell? ⟨w6.heap.size, 0, none⟩ = some (.int .i64 L0) ∧ w'.cell? ⟨w6.heap.size, 1, none⟩ = some (.int .i64 S0) ∧ w'.cell? ⟨w6.heap.size, 2, none⟩ = some (.slice ya0 xs0.length yc0) ∧ w'.cell? ⟨w.heap.size, 0, none⟩ = some (.int .i64 L0) ∧ w'.cell? ⟨w.heap.size, 1, none⟩ = some (.int .i64 S0) ∧ w'.cell? ⟨w.heap.size, 2, none⟩ = some (.slice aa0 ln0 ac0))
    (first | with_reducible exact hS2 | with_reducible exact hS1 | with_reducible exact hSd | with_reducible exact hS0 | go_keep)
    ((first
      | (go_at_call 19; (with_reducible refine (C2.out _ B2 _ hy0).mono ?_); rintro e w_3 ⟨rfl, hb⟩; have B3 := B2.trans (hb.mono B2.size); have hS2 := HS.out _ B3; clear hb)
      | (go_at_call 17; (with_reducible refine (C1.out _ B1).mono ?_); rintro e w_2 ⟨y0, rfl, hy0, hb⟩; have B2 := B1.trans (hb.mono B1.size); have hS1 := HS.out _ B2; clear hb)
      | fail))
  have hbz := B3
  clear HS HA hS0 hSd
  replace A0 := A0.trans (hbz.mono A0.size)
  replace Hx0 := Lib.hid (LabR.frame _ _ _ _ Hx0.out hbz)
  replace Hx1 := Lib.hid (LabR.frame _ _ _ _ Hx1.out hbz)
  replace ca00 := (hbz.cell (p := ⟨w.heap.size, 0, none⟩) ma0).trans ca00
  replace ca01 := (hbz.cell (p := ⟨w.heap.size, 1, none⟩) ma0).trans ca01
  replace ca02 := (hbz.cell (p := ⟨w.heap.size, 2, none⟩) ma0).trans ca02
  replace ma0 := Nat.lt_of_lt_of_le ma0 hbz.size
  replace ca10 := (hbz.cell (p := ⟨w.heap.size + 1, 0, none⟩) ma1).trans ca10
  replace ca11 := (hbz.cell (p := ⟨w.heap.size + 1, 1, none⟩) ma1).trans ca11
  replace ca12 := (hbz.cell (p := ⟨w.heap.size + 1, 2, none⟩) ma1).trans ca12
  replace ma1 := Nat.lt_of_lt_of_le ma1 hbz.size
  replace cx00 := (hbz.cell (p := ⟨w6.heap.size, 0, none⟩) mx0).trans cx00
  replace cx01 := (hbz.cell (p := ⟨w6.heap.size, 1, none⟩) mx0).trans cx01
  replace cx02 := (hbz.cell (p := ⟨w6.heap.size, 2, none⟩) mx0).trans cx02
  replace mx0 := Nat.lt_of_lt_of_le mx0 hbz.size
  replace cx10 := (hbz.cell (p := ⟨w8.heap.size, 0, none⟩) mx1).trans cx10
  replace cx11 := (hbz.cell (p := ⟨w8.heap.size, 1, none⟩) mx1).trans cx11
  replace cx12 := (hbz.cell (p := ⟨w8.heap.size, 2, none⟩) mx1).trans cx12
  replace mx1 := Nat.lt_of_lt_of_le mx1 hbz.size
  have z11 := hbz.size
  clear hbz
  go_wp2
  have hS0 : w_3.cell? ⟨w8.heap.size, 0, none⟩ = some (.int .i64 L1) ∧ w_3.cell? ⟨w8.heap.size, 1, none⟩ = some (.int .i64 S1) ∧ w_3.cell? ⟨w8.heap.size, 2, none⟩ = some (.slice ya1 xs1.length yc1) ∧ w_3.cell? ⟨w.heap.size + 1, 0, none⟩ = some (.int .i64 L1) ∧ w_3.cell? ⟨w.heap.size + 1, 1, none⟩ = some (.int .i64 S1) ∧ w_3.cell? ⟨w.heap.size + 1, 2, none⟩ = some (.slice aa1 ln1 ac1) := ⟨cx10, cx11, cx12, ca10, ca11, ca12⟩
  have hSd : w_3.drew.cell? ⟨w8.heap.size, 0, none⟩ = some (.int .i64 L1) ∧ w_3.drew.cell? ⟨w8.heap.size, 1, none⟩ = some (.int .i64 S1) ∧ w_3.drew.cell? ⟨w8.heap.size, 2, none⟩ = some (.slice ya1 xs1.length yc1) ∧ w_3.drew.cell? ⟨w.heap.size + 1, 0, none⟩ = some (.int .i64 L1) ∧ w_3.drew.cell? ⟨w.heap.size + 1, 1, none⟩ = some (.int .i64 S1) ∧ w_3.drew.cell? ⟨w.heap.size + 1, 2, none⟩ = some (.slice aa1 ln1 ac1) := hS0
  have HS := Lib.hid (fun (w2 : World) (hb3 : Below w_3.heap.size w_3 w2) => (show w2.cell? ⟨w8.heap.size, 0, none⟩ = some (.int .i64 L1) ∧ w2.cell? ⟨w8.heap.size, 1, none⟩ = some (.int .i64 S1) ∧ w2.cell? ⟨w8.heap.size, 2, none⟩ = some (.slice ya1 xs1.length yc1) ∧ w2.cell? ⟨w.heap.size + 1, 0, none⟩ = some (.int .i64 L1) ∧ w2.cell? ⟨w.heap.size + 1, 1, none⟩ = some (.int .i64 S1) ∧ w2.cell? ⟨w.heap.size + 1, 2, none⟩ = some (.slice aa1 ln1 ac1) from ⟨(hb3.cell (p := ⟨w8.heap.size, 0, none⟩) mx1).trans cx10, (hb3.cell (p := ⟨w8.heap.size, 1, none⟩) mx1).trans cx11, (hb3.cell (p := ⟨w8.heap.size, 2, none⟩) mx1).trans cx12, (hb3.cell (p := ⟨w.heap.size + 1, 0, none⟩) ma1).trans ca10, (hb3.cell (p := ⟨w.heap.size + 1, 1, none⟩) ma1).trans ca11, (hb3.cell (p := ⟨w.heap.size + 1, 2, none⟩) ma1).trans ca12⟩))
  have HA := Lib.hid (fun (w2 : World) (hb3 : Below w_3.heap.size w_3 w2) => A0.trans (hb3.mono A0.size))
  have C1 := Lib.hid (fun w2 (hb3 : Below w_3.heap.size w_3 w2) => toLabels_c (LabR.frame _ _ _ _ T1.out (A0.trans (hb3.mono A0.size))) sz1.out)
  have C2 := Lib.hid (fun w2 (hb3 : Below w_3.heap.size w_3 w2) => fun v (hy : LabR w2 v _) => eqLabels_same (LabR.frame _ _ _ _ Hx1.out hb3) hy)
  have B1 := (Below.refl w_3.heap.size w_3).drew
  go_region_held3 (fun w' => w'.cell? ⟨w8.heap.size, 0, none⟩ = some (.int .i64 L1) ∧ w'.cell? ⟨w8.heap.size, 1, none⟩ = some (.int .i64 S1) ∧ w'.cell? ⟨w8.heap.size, 2, none⟩ = some (.slice ya1 xs1.length yc1) ∧ w'.cell? ⟨w.heap.size + 1, 0, none⟩ = some (.int .i64 L1) ∧ w'.cell? ⟨w.heap.size + 1, 1, none⟩ = some (.int .i64 S1) ∧ w'.cell? ⟨w.heap.size + 1, 2, none⟩ = some (.slice aa1 ln1 ac1))
    (first | with_reducible exact hS2 | with_reducible exact hS1 | with_reducible exact hSd | with_reducible exact hS0 | go_keep)
    ((first
      | (go_at_call 19; (with_reducible refine (C2.out _ B2 _ hy1).mono ?_); rintro e w_3 ⟨rfl, hb⟩; have B3 := B2.trans (hb.mono B2.size); have hS2 := HS.out _ B3; clear hb)
      | (go_at_call 17; (with_reducible refine (C1.out _ B1).mono ?_); rintro e w_2 ⟨y1, rfl, hy1, hb⟩; have B2 := B1.trans (hb.mono B1.size); have hS1 := HS.out _ B2; clear hb)
      | fail))
  have hbz := B3
  clear HS HA hS0 hSd
  replace A0 := A0.trans (hbz.mono A0.size)
  replace Hx0 := Lib.hid (LabR.frame _ _ _ _ Hx0.out hbz)
  replace Hx1 := Lib.hid (LabR.frame _ _ _ _ Hx1.out hbz)
  replace ca00 := (hbz.cell (p := ⟨w.heap.size, 0, none⟩) ma0).trans ca00
  replace ca01 := (hbz.cell (p := ⟨w.heap.size, 1, none⟩) ma0).trans ca01
  replace ca02 := (hbz.cell (p := ⟨w.heap.size, 2, none⟩) ma0).trans ca02
  replace ma0 := Nat.lt_of_lt_of_le ma0 hbz.size
  replace ca10 := (hbz.cell (p := ⟨w.heap.size + 1, 0, none⟩) ma1).trans ca10
  replace ca11 := (hbz.cell (p := ⟨w.heap.size + 1, 1, none⟩) ma1).trans ca11
  replace ca12 := (hbz.cell (p := ⟨w.heap.size + 1, 2, none⟩) ma1).trans ca12
  replace ma1 := Nat.lt_of_lt_of_le ma1 hbz.size
  replace cx00 := (hbz.cell (p := ⟨w6.heap.size, 0, none⟩) mx0).trans cx00
  replace cx01 := (hbz.cell (p := ⟨w6.heap.size, 1, none⟩) mx0).trans cx01
  replace cx02 := (hbz.cell (p := ⟨w6.heap.size, 2, none⟩) mx0).trans cx02
  replace mx0 := Nat.lt_of_lt_of_le mx0 hbz.size
  replace cx10 := (hbz.cell (p := ⟨w8.heap.size, 0, none⟩) mx1).trans cx10
  replace cx11 := (hbz.cell (p := ⟨w8.heap.size, 1, none⟩) mx1).trans cx11
  replace cx12 := (hbz.cell (p := ⟨w8.heap.size, 2, none⟩) mx1).trans cx12
  replace mx1 := Nat.lt_of_lt_of_le mx1 hbz.size
  have z12 := hbz.size
  clear hbz
  go_wp2
  go_ret
  exact ⟨rfl, A0⟩
end Go.Proofs.Ytjgiobapdkdhpaa
