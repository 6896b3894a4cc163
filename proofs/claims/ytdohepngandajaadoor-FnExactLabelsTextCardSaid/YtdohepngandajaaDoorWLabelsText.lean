/-
  The law on LabelsText, walked over the contracts of both sides.
-/
import Derived.Test.YtdohepngandajaaDoorLawKit
import Derived.Test.YtdohepngandajaaDoorLabH
import Derived.Test.YtdohepngandajaaDoorLabC
import Derived.Deep.RegionHeld3
import Derived.Deep.DeepCutAuto
import Derived.Test.YtdohepngandajaaDoorLab
import Derived.Test.YtdohepngandajaaDoorWordRank
import Derived.Test.YtdohepngandajaaDoorLabTxt
import Derived.Test.YtdohepngandajaaDoorOpen
namespace Go.Proofs.YtdohepngandajaaDoor
open Go.RowKit Go.Deep Go.Sd
set_option linter.unusedVariables false in
set_option maxHeartbeats 2000000 in
set_option maxRecDepth 10000 in
theorem law_LabelsText {w : World} {v0 : Value} {a0 : Lb} (t0 : LabR w v0 a0) (b0 : I64 a0.1 ∧ I64 a0.2.1) :
    Calls Tryd.prog 3 #[v0] w fun e w' => e = .returned (.bool true) ∧ Below w.heap.size w w' := by
  have T0 := Lib.hid t0
  obtain ⟨L0, S0, xs0⟩ := a0
  obtain ⟨va0, rfl, _, aa0, ac0, rfl, _, _, _, _⟩ := t0
  simp only at *
  have B0 := Lib.hid b0
  clear b0
  generalize hln0 : xs0.length = ln0 at *
  have HL0 := Lib.hid hln0
  clear hln0
  have A0 : Below w.heap.size w w := Below.refl _ _
  have Z0 := Lib.hid (fun (v : Value) (wz : World) (h : LabR wz v (L0, S0, xs0)) => szLabels_c h (l := 1048576) (by omega) (by omega))
  simp only at Z0
  rw [HL0.out] at Z0
  have d0 := szS_bd 1048576 ln0 (by omega)
  generalize szS 1048576 ln0 = l0 at Z0 d0
  go_enter Tryd.func3, Tryd.ntmps3
  go_wp2_with fail
  change Calls Tryd.prog _ _ (w.alloc (.cells #[(.int .i64 L0), (.int .i64 S0), (.slice aa0 ln0 ac0)] 24)) _
  obtain ⟨w1, ex, hb1, ca00, ca01, ca02, ma0⟩ := boxA3_ex w 24 (.int .i64 L0) (.int .i64 S0) (.slice aa0 ln0 ac0)
  rw [ex]
  clear ex
  replace A0 := A0.trans (hb1.mono A0.size)
  have z1 := hb1.size
  clear hb1
  refine (Z0.out _ _ (LabR.frame _ _ _ _ T0.out A0)).mono ?_
  rintro e w2 ⟨rfl, hb2⟩
  replace A0 := A0.trans (hb2.mono A0.size)
  replace ca00 := (hb2.cell (p := ⟨w.heap.size, 0, none⟩) ma0).trans ca00
  replace ca01 := (hb2.cell (p := ⟨w.heap.size, 1, none⟩) ma0).trans ca01
  replace ca02 := (hb2.cell (p := ⟨w.heap.size, 2, none⟩) ma0).trans ca02
  replace ma0 := Nat.lt_of_lt_of_le ma0 hb2.size
  have z2 := hb2.size
  clear hb2
  by_cases n0 : l0 < 0
  · go_wp2
    go_ret
    exact ⟨rfl, A0⟩
  have sz0 := Lib.hid (show xs0.length ≤ 1048576 from by rw [HL0.out]; omega)
  have l00 : 0 ≤ l0 := by omega
  have l01 : l0 ≤ 1048576 := by omega
  clear d0 n0 Z0
  go_wp2_with fail
  refine (toLabels_c (LabR.frame _ _ _ _ T0.out A0) sz0.out).mono ?_
  rintro e w3 ⟨p0, rfl, hp0, hb3⟩
  replace A0 := A0.trans (hb3.mono A0.size)
  replace ca00 := (hb3.cell (p := ⟨w.heap.size, 0, none⟩) ma0).trans ca00
  replace ca01 := (hb3.cell (p := ⟨w.heap.size, 1, none⟩) ma0).trans ca01
  replace ca02 := (hb3.cell (p := ⟨w.heap.size, 2, none⟩) ma0).trans ca02
  replace ma0 := Nat.lt_of_lt_of_le ma0 hb3.size
  have z3 := hb3.size
  clear hb3
  have Hp0 := Lib.hid hp0
  clear hp0
  go_wp2_with fail
  refine (spec_LabelsText_c Hp0.out sz0.out).mono ?_
  rintro e w4 ⟨rfl, hb4⟩
  replace A0 := A0.trans (hb4.mono A0.size)
  replace Hp0 := Lib.hid (LabR.frame _ _ _ _ Hp0.out hb4)
  replace ca00 := (hb4.cell (p := ⟨w.heap.size, 0, none⟩) ma0).trans ca00
  replace ca01 := (hb4.cell (p := ⟨w.heap.size, 1, none⟩) ma0).trans ca01
  replace ca02 := (hb4.cell (p := ⟨w.heap.size, 2, none⟩) ma0).trans ca02
  replace ma0 := Nat.lt_of_lt_of_le ma0 hb4.size
  have z4 := hb4.size
  clear hb4
  clear Hp0
  go_wp2_with fail
  refine (toLabels_c (LabR.frame _ _ _ _ T0.out A0) sz0.out).mono ?_
  rintro e w5 ⟨x0, rfl, hx0, hb5⟩
  replace A0 := A0.trans (hb5.mono A0.size)
  replace ca00 := (hb5.cell (p := ⟨w.heap.size, 0, none⟩) ma0).trans ca00
  replace ca01 := (hb5.cell (p := ⟨w.heap.size, 1, none⟩) ma0).trans ca01
  replace ca02 := (hb5.cell (p := ⟨w.heap.size, 2, none⟩) ma0).trans ca02
  replace ma0 := Nat.lt_of_lt_of_le ma0 hb5.size
  have z5 := hb5.size
  clear hb5
  have Hx0 := Lib.hid hx0
  clear hx0
  obtain ⟨vx0, ex0, _, ya0, yc0, hyv0, _, _, _, _⟩ := Hx0.out
  subst hyv0
  subst ex0
  try simp only at *
  go_wp2_with fail
  change Calls Tryd.prog _ _ (w5.alloc (.cells #[(.int .i64 L0), (.int .i64 S0), (.slice ya0 xs0.length yc0)] 29)) _
  obtain ⟨w6, ex, hb6, cx00, cx01, cx02, mx0⟩ := boxA3_ex w5 29 (.int .i64 L0) (.int .i64 S0) (.slice ya0 xs0.length yc0)
  rw [ex]
  clear ex
  replace A0 := A0.trans (hb6.mono A0.size)
  replace Hx0 := Lib.hid (LabR.frame _ _ _ _ Hx0.out hb6)
  replace ca00 := (hb6.cell (p := ⟨w.heap.size, 0, none⟩) ma0).trans ca00
  replace ca01 := (hb6.cell (p := ⟨w.heap.size, 1, none⟩) ma0).trans ca01
  replace ca02 := (hb6.cell (p := ⟨w.heap.size, 2, none⟩) ma0).trans ca02
  replace ma0 := Nat.lt_of_lt_of_le ma0 hb6.size
  have z6 := hb6.size
  clear hb6
  refine (impl_LabelsText_c Hx0.out sz0.out).mono ?_
  rintro e w7 ⟨rfl, hb7⟩
  replace A0 := A0.trans (hb7.mono A0.size)
  replace Hx0 := Lib.hid (LabR.frame _ _ _ _ Hx0.out hb7)
  replace ca00 := (hb7.cell (p := ⟨w.heap.size, 0, none⟩) ma0).trans ca00
  replace ca01 := (hb7.cell (p := ⟨w.heap.size, 1, none⟩) ma0).trans ca01
  replace ca02 := (hb7.cell (p := ⟨w.heap.size, 2, none⟩) ma0).trans ca02
  replace ma0 := Nat.lt_of_lt_of_le ma0 hb7.size
  replace cx00 := (hb7.cell (p := ⟨w5.heap.size, 0, none⟩) mx0).trans cx00
  replace cx01 := (hb7.cell (p := ⟨w5.heap.size, 1, none⟩) mx0).trans cx01
  replace cx02 := (hb7.cell (p := ⟨w5.heap.size, 2, none⟩) mx0).trans cx02
  replace mx0 := Nat.lt_of_lt_of_le mx0 hb7.size
  have z7 := hb7.size
  clear hb7
  go_wp2
  have hS0 : w7.cell? ⟨w5.heap.size, 0, none⟩ = some (.int .i64 L0) ∧ w7.cell? ⟨w5.heap.size, 1, none⟩ = some (.int .i64 S0) ∧ w7.cell? ⟨w5.heap.size, 2, none⟩ = some (.slice ya0 xs0.length yc0) ∧ w7.cell? ⟨w.heap.size, 0, none⟩ = some (.int .i64 L0) ∧ w7.cell? ⟨w.heap.size, 1, none⟩ = some (.int .i64 S0) ∧ w7.cell? ⟨w.heap.size, 2, none⟩ = some (.slice aa0 ln0 ac0) := ⟨cx00, cx01, cx02, ca00, ca01, ca02⟩
  have hSd : w7.drew.cell? ⟨w5.heap.size, 0, none⟩ = some (.int .i64 L0) ∧ w7.drew.cell? ⟨w5.heap.size, 1, none⟩ = some (.int .i64 S0) ∧ w7.drew.cell? ⟨w5.heap.size, 2, none⟩ = some (.slice ya0 xs0.length yc0) ∧ w7.drew.cell? ⟨w.heap.size, 0, none⟩ = some (.int .i64 L0) ∧ w7.drew.cell? ⟨w.heap.size, 1, none⟩ = some (.int .i64 S0) ∧ w7.drew.cell? ⟨w.heap.size, 2, none⟩ = some (.slice aa0 ln0 ac0) := hS0
  have HS := Lib.hid (fun (w2 : World) (hb3 : Below w7.heap.size w7 w2) => (show w2.cell? ⟨w5.heap.size, 0, none⟩ = some (.int .i64 L0) ∧ w2.cell? ⟨w5.heap.size, 1, none⟩ = some (.int .i64 S0) ∧ w2.cell? ⟨w5.heap.size, 2, none⟩ = some (.slice ya0 xs0.length yc0) ∧ w2.cell? ⟨w.heap.size, 0, none⟩ = some (.int .i64 L0) ∧ w2.cell? ⟨w.heap.size, 1, none⟩ = some (.int .i64 S0) ∧ w2.cell? ⟨w.heap.size, 2, none⟩ = some (.slice aa0 ln0 ac0) from ⟨(hb3.cell (p := ⟨w5.heap.size, 0, none⟩) mx0).trans cx00, (hb3.cell (p := ⟨w5.heap.size, 1, none⟩) mx0).trans cx01, (hb3.cell (p := ⟨w5.heap.size, 2, none⟩) mx0).trans cx02, (hb3.cell (p := ⟨w.heap.size, 0, none⟩) ma0).trans ca00, (hb3.cell (p := ⟨w.heap.size, 1, none⟩) ma0).trans ca01, (hb3.cell (p := ⟨w.heap.size, 2, none⟩) ma0).trans ca02⟩))
  have HA := Lib.hid (fun (w2 : World) (hb3 : Below w7.heap.size w7 w2) => A0.trans (hb3.mono A0.size))
  have C1 := Lib.hid (fun w2 (hb3 : Below w7.heap.size w7 w2) => toLabels_c (LabR.frame _ _ _ _ T0.out (A0.trans (hb3.mono A0.size))) sz0.out)
  have C2 := Lib.hid (fun w2 (hb3 : Below w7.heap.size w7 w2) => fun v (hy : LabR w2 v _) => eqLabels_same (LabR.frame _ _ _ _ Hx0.out hb3) hy)
  have B1 := (Below.refl w7.heap.size w7).drew
  go_region_held3 (fun w' => w'.cell? ⟨w5.heap.size, 0, none⟩ = some (.int .i64 L0) ∧ w'.cell? ⟨w5.heap.size, 1, none⟩ = some (.int .i64 S0) ∧ w'.cell? ⟨w5.heap.size, 2, none⟩ = some (.slice ya0 xs0.length yc0) ∧ w'.cell? ⟨w.heap.size, 0, none⟩ = some (.int .i64 L0) ∧ w'.cell? ⟨w.heap.size, 1, none⟩ = some (.int .i64 S0) ∧ w'.cell? ⟨w.heap.size, 2, none⟩ = some (.slice aa0 ln0 ac0))
    (first | with_reducible exact hS2 | with_reducible exact hS1 | with_reducible exact hSd | with_reducible exact hS0 | go_keep)
    ((first
      | (go_at_call 9; (with_reducible refine (C2.out _ B2 _ hy0).mono ?_); rintro e w_3 ⟨rfl, hb⟩; have B3 := B2.trans (hb.mono B2.size); have hS2 := HS.out _ B3; clear hb)
      | (go_at_call 7; (with_reducible refine (C1.out _ B1).mono ?_); rintro e w_2 ⟨y0, rfl, hy0, hb⟩; have B2 := B1.trans (hb.mono B1.size); have hS1 := HS.out _ B2; clear hb)
      | fail))
  have hbz := B3
  clear HS HA hS0 hSd
  replace A0 := A0.trans (hbz.mono A0.size)
  replace Hx0 := Lib.hid (LabR.frame _ _ _ _ Hx0.out hbz)
  replace ca00 := (hbz.cell (p := ⟨w.heap.size, 0, none⟩) ma0).trans ca00
  replace ca01 := (hbz.cell (p := ⟨w.heap.size, 1, none⟩) ma0).trans ca01
  replace ca02 := (hbz.cell (p := ⟨w.heap.size, 2, none⟩) ma0).trans ca02
  replace ma0 := Nat.lt_of_lt_of_le ma0 hbz.size
  replace cx00 := (hbz.cell (p := ⟨w5.heap.size, 0, none⟩) mx0).trans cx00
  replace cx01 := (hbz.cell (p := ⟨w5.heap.size, 1, none⟩) mx0).trans cx01
  replace cx02 := (hbz.cell (p := ⟨w5.heap.size, 2, none⟩) mx0).trans cx02
  replace mx0 := Nat.lt_of_lt_of_le mx0 hbz.size
  have z8 := hbz.size
  clear hbz
  go_wp2
  go_ret
  exact ⟨rfl, A0⟩
end Go.Proofs.YtdohepngandajaaDoor
