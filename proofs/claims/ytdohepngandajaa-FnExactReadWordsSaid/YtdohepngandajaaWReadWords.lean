/-
  The law on ReadWords, walked over the contracts of both sides.
-/
import Derived.Test.YtdohepngandajaaLawKit
import Derived.Test.YtdohepngandajaaLabH
import Derived.Test.YtdohepngandajaaLabO
import Derived.Test.YtdohepngandajaaLabC
import Derived.Deep.RegionHeld3
import Derived.Deep.DeepCutAuto
import Derived.Test.YtdohepngandajaaLab
import Derived.Test.YtdohepngandajaaStrs
import Derived.Test.YtdohepngandajaaRdwI
import Derived.Test.YtdohepngandajaaRdwS
import Derived.Test.YtdohepngandajaaRdwBd
import Derived.Test.YtdohepngandajaaOpen
namespace Go.Proofs.Ytdohepngandajaa
open Go.RowKit Go.Deep Go.Sd
set_option linter.unusedVariables false in
set_option maxHeartbeats 4000000 in
set_option maxRecDepth 100000 in
theorem law_ReadWords {w : World} {v0 : Value} {a0 : Lb} (t0 : LabR w v0 a0) (b0 : I64 a0.1 ∧ I64 a0.2.1) {a1 : Int} (t1 : I64 a1) :
    Calls Try.prog 5 #[v0, .int .i64 a1] w fun e w' => e = .returned (.bool true) ∧ Below w.heap.size w w' := by
  have qg0 : (((rdwM a0 a1)).length : Int) ≤ 1099511627776 := rdwM_bd a0 a1
  have rg0 : 0 ≤ (((rdwM a0 a1)).length : Int) := by omega
  have Qg0 := Lib.hid qg0
  have Rg0 := Lib.hid rg0
  clear qg0 rg0
  have T0 := Lib.hid t0
  obtain ⟨L0, S0, xs0⟩ := a0
  obtain ⟨va0, rfl, _, aa0, ac0, rfl, _, _, _, _⟩ := t0
  simp only at *
  have B0 := Lib.hid b0
  clear b0
  generalize hln0 : xs0.length = ln0 at *
  have HL0 := Lib.hid hln0
  clear hln0
  have A0 : Below w.heap.size w w := Below.refl _ _
  have Z0 := Lib.hid (fun (v : Value) (wz : World) (h : LabR wz v (L0, S0, xs0)) => szLabels_c h (l := 1048576) (by omega) (by omega))
  simp only at Z0
  rw [HL0.out] at Z0
  have d0 := szS_bd 1048576 ln0 (by omega)
  generalize szS 1048576 ln0 = l0 at Z0 d0
  go_enter Try.func5, Try.ntmps5
  go_wp2_with fail
  obtain ⟨w1, ex, hb1, ca00, ca01, ca02, ma0⟩ := boxA3_ex w 24 (.int .i64 L0) (.int .i64 S0) (.slice aa0 ln0 ac0)
  change Calls Try.prog _ _ (w.alloc (.cells #[.int .i64 L0, .int .i64 S0, .slice aa0 ln0 ac0] 24)) _
  rw [ex]
  clear ex
  have qa0 := ma0
  replace A0 := A0.trans (hb1.mono A0.size)
  have z1 := hb1.size
  clear hb1
  refine (Z0.out _ _ (LabR.frame _ _ _ _ T0.out A0)).mono ?_
  rintro e w2 ⟨rfl, hb2⟩
  replace A0 := A0.trans (hb2.mono A0.size)
  replace ca00 := (hb2.cell (p := ⟨w.heap.size, 0, none⟩) ma0).trans ca00
  replace ca01 := (hb2.cell (p := ⟨w.heap.size, 1, none⟩) ma0).trans ca01
  replace ca02 := (hb2.cell (p := ⟨w.heap.size, 2, none⟩) ma0).trans ca02
  replace ma0 := Nat.lt_of_lt_of_le ma0 hb2.size
  have z2 := hb2.size
  clear hb2
  by_cases n0 : l0 < 0
  · go_wp2
    go_ret
    exact ⟨rfl, A0⟩
  have sz0 := Lib.hid (show xs0.length ≤ 1048576 from by rw [HL0.out]; omega)
  have ln0b : (ln0 : Int) ≤ 1048576 := by omega
  have l00 : 0 ≤ l0 := by omega
  have l01 : l0 ≤ 1048576 := by omega
  clear d0 n0 Z0
  go_wp2_with fail
  refine (toLabels_o (LabR.frame _ _ _ _ T0.out A0) sz0.out).mono ?_
  rintro e w3 ⟨p0, rfl, hp0, hb3⟩
  replace A0 := A0.trans (hb3.mono A0.size)
  replace ca00 := (hb3.cell (p := ⟨w.heap.size, 0, none⟩) ma0).trans ca00
  replace ca01 := (hb3.cell (p := ⟨w.heap.size, 1, none⟩) ma0).trans ca01
  replace ca02 := (hb3.cell (p := ⟨w.heap.size, 2, none⟩) ma0).trans ca02
  replace ma0 := Nat.lt_of_lt_of_le ma0 hb3.size
  have z3 := hb3.size
  clear hb3
  replace hp0 := hp0.inn OLab.held
  go_wp2_with fail
  refine (spec_ReadWords_c (New.lab hp0.new) t1).mono ?_
  rintro e w4 ⟨s0, rfl, hs0, hb4⟩
  replace A0 := A0.trans (hb4.mono A0.size)
  replace hp0 := hp0.keep OLab.held hb4 (by omega)
  replace ca00 := (hb4.cell (p := ⟨w.heap.size, 0, none⟩) ma0).trans ca00
  replace ca01 := (hb4.cell (p := ⟨w.heap.size, 1, none⟩) ma0).trans ca01
  replace ca02 := (hb4.cell (p := ⟨w.heap.size, 2, none⟩) ma0).trans ca02
  replace ma0 := Nat.lt_of_lt_of_le ma0 hb4.size
  have z4 := hb4.size
  clear hb4
  replace hs0 := hs0.inn OStrs.held
  clear hp0
  have R0 : StrsR w4 s0 (rdwM (L0, S0, xs0) a1) := (New.strs hs0.new)
  clear hs0
  have hwA : Below w4.heap.size w4 w4 := Below.refl _ _
  go_wp2_with fail
  refine (toLabels_o (LabR.frame _ _ _ _ T0.out A0) sz0.out).mono ?_
  rintro e w5 ⟨x0, rfl, hx0, hb5⟩
  replace A0 := A0.trans (hb5.mono A0.size)
  replace hwA := hwA.trans (hb5.mono hwA.size)
  replace ca00 := (hb5.cell (p := ⟨w.heap.size, 0, none⟩) ma0).trans ca00
  replace ca01 := (hb5.cell (p := ⟨w.heap.size, 1, none⟩) ma0).trans ca01
  replace ca02 := (hb5.cell (p := ⟨w.heap.size, 2, none⟩) ma0).trans ca02
  replace ma0 := Nat.lt_of_lt_of_le ma0 hb5.size
  have z5 := hb5.size
  clear hb5
  replace hx0 := hx0.inn OLab.held
  have hrx0 := (New.lab hx0.new)
  obtain ⟨vx0, ex0, _, ya0, yc0, hyv0, _, _, _, _⟩ := hrx0
  subst hyv0
  subst ex0
  simp only at hx0 ⊢
  rw [HL0.out] at hx0 ⊢
  go_wp2_with fail
  obtain ⟨w6, ex, hb6, cx00, cx01, cx02, mx0⟩ := boxA3_ex w5 28 (.int .i64 L0) (.int .i64 S0) (.slice ya0 ln0 yc0)
  change Calls Try.prog _ _ (w5.alloc (.cells #[.int .i64 L0, .int .i64 S0, .slice ya0 ln0 yc0] 28)) _
  rw [ex]
  clear ex
  have qx0 := mx0
  replace A0 := A0.trans (hb6.mono A0.size)
  replace hwA := hwA.trans (hb6.mono hwA.size)
  replace hx0 := hx0.keep OLab.held hb6 (by omega)
  replace ca00 := (hb6.cell (p := ⟨w.heap.size, 0, none⟩) ma0).trans ca00
  replace ca01 := (hb6.cell (p := ⟨w.heap.size, 1, none⟩) ma0).trans ca01
  replace ca02 := (hb6.cell (p := ⟨w.heap.size, 2, none⟩) ma0).trans ca02
  replace ma0 := Nat.lt_of_lt_of_le ma0 hb6.size
  have z6 := hb6.size
  clear hb6
  refine (impl_ReadWords_c (New.lab hx0.new) t1).mono ?_
  rintro e w7 ⟨g0, rfl, hg0, hb7⟩
  replace A0 := A0.trans (hb7.mono A0.size)
  replace hwA := hwA.trans (hb7.mono hwA.size)
  replace hx0 := hx0.keep OLab.held hb7 (by omega)
  replace ca00 := (hb7.cell (p := ⟨w.heap.size, 0, none⟩) ma0).trans ca00
  replace ca01 := (hb7.cell (p := ⟨w.heap.size, 1, none⟩) ma0).trans ca01
  replace ca02 := (hb7.cell (p := ⟨w.heap.size, 2, none⟩) ma0).trans ca02
  replace ma0 := Nat.lt_of_lt_of_le ma0 hb7.size
  replace cx00 := (hb7.cell (p := ⟨w5.heap.size, 0, none⟩) mx0).trans cx00
  replace cx01 := (hb7.cell (p := ⟨w5.heap.size, 1, none⟩) mx0).trans cx01
  replace cx02 := (hb7.cell (p := ⟨w5.heap.size, 2, none⟩) mx0).trans cx02
  replace mx0 := Nat.lt_of_lt_of_le mx0 hb7.size
  have z7 := hb7.size
  clear hb7
  replace hg0 := hg0.inn OStrs.held
  go_wp2_with fail
  refine (eqStringS_same (New.strs hg0.new) (StrsR.frame _ _ _ _ R0 hwA)).mono ?_
  rintro e w8 ⟨rfl, hdr⟩
  have hb8 := hdr.below w7.heap.size
  clear hdr
  replace A0 := A0.trans (hb8.mono A0.size)
  replace hwA := hwA.trans (hb8.mono hwA.size)
  replace hx0 := hx0.keep OLab.held hb8 (by omega)
  replace hg0 := hg0.keep OStrs.held hb8 (by omega)
  replace ca00 := (hb8.cell (p := ⟨w.heap.size, 0, none⟩) ma0).trans ca00
  replace ca01 := (hb8.cell (p := ⟨w.heap.size, 1, none⟩) ma0).trans ca01
  replace ca02 := (hb8.cell (p := ⟨w.heap.size, 2, none⟩) ma0).trans ca02
  replace ma0 := Nat.lt_of_lt_of_le ma0 hb8.size
  replace cx00 := (hb8.cell (p := ⟨w5.heap.size, 0, none⟩) mx0).trans cx00
  replace cx01 := (hb8.cell (p := ⟨w5.heap.size, 1, none⟩) mx0).trans cx01
  replace cx02 := (hb8.cell (p := ⟨w5.heap.size, 2, none⟩) mx0).trans cx02
  replace mx0 := Nat.lt_of_lt_of_le mx0 hb8.size
  have z8 := hb8.size
  clear hb8
  go_wp2
  have hrx := New.lab hx0.new
  have hS0 : w8.cell? ⟨w5.heap.size, 0, none⟩ = some (.int .i64 L0) ∧ w8.cell? ⟨w5.heap.size, 1, none⟩ = some (.int .i64 S0) ∧ w8.cell? ⟨w5.heap.size, 2, none⟩ = some (.slice ya0 ln0 yc0) ∧ w8.cell? ⟨w.heap.size, 0, none⟩ = some (.int .i64 L0) ∧ w8.cell? ⟨w.heap.size, 1, none⟩ = some (.int .i64 S0) ∧ w8.cell? ⟨w.heap.size, 2, none⟩ = some (.slice aa0 ln0 ac0) := ⟨cx00, cx01, cx02, ca00, ca01, ca02⟩
  have hSd : w8.drew.cell? ⟨w5.heap.size, 0, none⟩ = some (.int .i64 L0) ∧ w8.drew.cell? ⟨w5.heap.size, 1, none⟩ = some (.int .i64 S0) ∧ w8.drew.cell? ⟨w5.heap.size, 2, none⟩ = some (.slice ya0 ln0 yc0) ∧ w8.drew.cell? ⟨w.heap.size, 0, none⟩ = some (.int .i64 L0) ∧ w8.drew.cell? ⟨w.heap.size, 1, none⟩ = some (.int .i64 S0) ∧ w8.drew.cell? ⟨w.heap.size, 2, none⟩ = some (.slice aa0 ln0 ac0) := hS0
  have HS := Lib.hid (fun (w2 : World) (hb3 : Below w8.heap.size w8 w2) => (show w2.cell? ⟨w5.heap.size, 0, none⟩ = some (.int .i64 L0) ∧ w2.cell? ⟨w5.heap.size, 1, none⟩ = some (.int .i64 S0) ∧ w2.cell? ⟨w5.heap.size, 2, none⟩ = some (.slice ya0 ln0 yc0) ∧ w2.cell? ⟨w.heap.size, 0, none⟩ = some (.int .i64 L0) ∧ w2.cell? ⟨w.heap.size, 1, none⟩ = some (.int .i64 S0) ∧ w2.cell? ⟨w.heap.size, 2, none⟩ = some (.slice aa0 ln0 ac0) from ⟨(hb3.cell (p := ⟨w5.heap.size, 0, none⟩) mx0).trans cx00, (hb3.cell (p := ⟨w5.heap.size, 1, none⟩) mx0).trans cx01, (hb3.cell (p := ⟨w5.heap.size, 2, none⟩) mx0).trans cx02, (hb3.cell (p := ⟨w.heap.size, 0, none⟩) ma0).trans ca00, (hb3.cell (p := ⟨w.heap.size, 1, none⟩) ma0).trans ca01, (hb3.cell (p := ⟨w.heap.size, 2, none⟩) ma0).trans ca02⟩))
  have C1 := Lib.hid (fun w2 (hb3 : Below w8.heap.size w8 w2) => toLabels_c (LabR.frame _ _ _ _ T0.out (A0.trans (hb3.mono A0.size))) sz0.out)
  have C2 := Lib.hid (fun w2 (hb3 : Below w8.heap.size w8 w2) => fun v (hy : LabR w2 v _) => eqLabels_same (LabR.frame _ _ _ _ hrx hb3) hy)
  have B1 := (Below.refl w8.heap.size w8).drew
  go_region_held3 (fun w' => w'.cell? ⟨w5.heap.size, 0, none⟩ = some (.int .i64 L0) ∧ w'.cell? ⟨w5.heap.size, 1, none⟩ = some (.int .i64 S0) ∧ w'.cell? ⟨w5.heap.size, 2, none⟩ = some (.slice ya0 ln0 yc0) ∧ w'.cell? ⟨w.heap.size, 0, none⟩ = some (.int .i64 L0) ∧ w'.cell? ⟨w.heap.size, 1, none⟩ = some (.int .i64 S0) ∧ w'.cell? ⟨w.heap.size, 2, none⟩ = some (.slice aa0 ln0 ac0))
    (first | with_reducible exact hS2 | with_reducible exact hS1 | with_reducible exact hSd | with_reducible exact hS0 | go_keep)
    ((first
      | (go_at_call 17; (with_reducible refine (C2.out _ B2 _ hy0).mono ?_); rintro e w_3 ⟨rfl, hb⟩; have B3 := B2.trans (hb.mono B2.size); have hS2 := HS.out _ B3; clear hb)
      | (go_at_call 15; (with_reducible refine (C1.out _ B1).mono ?_); rintro e w_2 ⟨y0, rfl, hy0, hb⟩; have B2 := B1.trans (hb.mono B1.size); have hS1 := HS.out _ B2; clear hb)
      | fail))
  have hbz := B3
  clear hS0 hSd HS C1 C2 B1 B2 B3 hy0 hS1 hrx
  replace A0 := A0.trans (hbz.mono A0.size)
  replace hwA := hwA.trans (hbz.mono hwA.size)
  replace hx0 := hx0.keep OLab.held hbz (by omega)
  replace hg0 := hg0.keep OStrs.held hbz (by omega)
  replace ca00 := (hbz.cell (p := ⟨w.heap.size, 0, none⟩) ma0).trans ca00
  replace ca01 := (hbz.cell (p := ⟨w.heap.size, 1, none⟩) ma0).trans ca01
  replace ca02 := (hbz.cell (p := ⟨w.heap.size, 2, none⟩) ma0).trans ca02
  replace ma0 := Nat.lt_of_lt_of_le ma0 hbz.size
  replace cx00 := (hbz.cell (p := ⟨w5.heap.size, 0, none⟩) mx0).trans cx00
  replace cx01 := (hbz.cell (p := ⟨w5.heap.size, 1, none⟩) mx0).trans cx01
  replace cx02 := (hbz.cell (p := ⟨w5.heap.size, 2, none⟩) mx0).trans cx02
  replace mx0 := Nat.lt_of_lt_of_le mx0 hbz.size
  have z9 := hbz.size
  clear hbz
  have M := Lib.hid (markLabels_in (k0 := 1) hx0 (by omega) (by simp only; rw [HL0.out]; omega) (by omega))
  simp only at M
  rw [HL0.out] at M
  go_wp2_with fail
  refine M.out.mono ?_
  rintro e w10 ⟨rfl, hm10, ho10⟩
  clear M
  replace A0 := A0.trans (ho10.below (by omega) A0.size)
  replace hwA := hwA.trans (ho10.below (by omega) hwA.size)
  replace hg0 := hg0.off OStrs.held ho10 (by omega)
  replace ca00 := (ho10.cell3 (p := ⟨w.heap.size, 0, none⟩) ma0 (by simp <;> omega)).trans ca00
  replace ca01 := (ho10.cell3 (p := ⟨w.heap.size, 1, none⟩) ma0 (by simp <;> omega)).trans ca01
  replace ca02 := (ho10.cell3 (p := ⟨w.heap.size, 2, none⟩) ma0 (by simp <;> omega)).trans ca02
  replace ma0 := Nat.lt_of_lt_of_le ma0 ho10.size
  replace cx00 := (ho10.cell3 (p := ⟨w5.heap.size, 0, none⟩) mx0 (by simp <;> omega)).trans cx00
  replace cx01 := (ho10.cell3 (p := ⟨w5.heap.size, 1, none⟩) mx0 (by simp <;> omega)).trans cx01
  replace cx02 := (ho10.cell3 (p := ⟨w5.heap.size, 2, none⟩) mx0 (by simp <;> omega)).trans cx02
  replace mx0 := Nat.lt_of_lt_of_le mx0 ho10.size
  have z10 := ho10.size
  clear ho10
  clear hx0 hm10
  go_wp2_with fail
  refine (eqStringS_same (New.strs hg0.new) (StrsR.frame _ _ _ _ R0 hwA)).mono ?_
  rintro e w11 ⟨rfl, hdr⟩
  have hb11 := hdr.below w10.heap.size
  clear hdr
  replace A0 := A0.trans (hb11.mono A0.size)
  replace hwA := hwA.trans (hb11.mono hwA.size)
  replace hg0 := hg0.keep OStrs.held hb11 (by omega)
  replace ca00 := (hb11.cell (p := ⟨w.heap.size, 0, none⟩) ma0).trans ca00
  replace ca01 := (hb11.cell (p := ⟨w.heap.size, 1, none⟩) ma0).trans ca01
  replace ca02 := (hb11.cell (p := ⟨w.heap.size, 2, none⟩) ma0).trans ca02
  replace ma0 := Nat.lt_of_lt_of_le ma0 hb11.size
  replace cx00 := (hb11.cell (p := ⟨w5.heap.size, 0, none⟩) mx0).trans cx00
  replace cx01 := (hb11.cell (p := ⟨w5.heap.size, 1, none⟩) mx0).trans cx01
  replace cx02 := (hb11.cell (p := ⟨w5.heap.size, 2, none⟩) mx0).trans cx02
  replace mx0 := Nat.lt_of_lt_of_le mx0 hb11.size
  have z11 := hb11.size
  clear hb11
  have qg0 := Qg0.out
  have rg0 := Rg0.out
  generalize eqg0 : (((rdwM (L0, S0, xs0) a1)).length : Int) = cg0 at qg0 rg0
  have Hg0 := Lib.hid eqg0
  clear eqg0
  have M := Lib.hid (markStringS_in (k0 := 1) hg0 (by omega) (by rw [Hg0.out]; omega))
  rw [Hg0.out] at M
  go_wp2_with fail
  refine M.out.mono ?_
  rintro e w12 ⟨rfl, hm12, ho12⟩
  clear M
  replace A0 := A0.trans (ho12.below (by omega) A0.size)
  replace hwA := hwA.trans (ho12.below (by omega) hwA.size)
  replace ca00 := (ho12.cell3 (p := ⟨w.heap.size, 0, none⟩) ma0 (by simp <;> omega)).trans ca00
  replace ca01 := (ho12.cell3 (p := ⟨w.heap.size, 1, none⟩) ma0 (by simp <;> omega)).trans ca01
  replace ca02 := (ho12.cell3 (p := ⟨w.heap.size, 2, none⟩) ma0 (by simp <;> omega)).trans ca02
  replace ma0 := Nat.lt_of_lt_of_le ma0 ho12.size
  replace cx00 := (ho12.cell3 (p := ⟨w5.heap.size, 0, none⟩) mx0 (by simp <;> omega)).trans cx00
  replace cx01 := (ho12.cell3 (p := ⟨w5.heap.size, 1, none⟩) mx0 (by simp <;> omega)).trans cx01
  replace cx02 := (ho12.cell3 (p := ⟨w5.heap.size, 2, none⟩) mx0 (by simp <;> omega)).trans cx02
  replace mx0 := Nat.lt_of_lt_of_le mx0 ho12.size
  have z12 := ho12.size
  clear ho12
  clear hg0
  have hg0 := hm12
  clear hm12
  have M := Lib.hid (heldStringS_same (k0 := 1) (New.strs hg0.new) (by omega) (by rw [Hg0.out]; omega))
  rw [Hg0.out] at M
  go_wp2_with fail
  refine (M.out).mono ?_
  rintro e w13 ⟨rfl, hb13⟩
  replace A0 := A0.trans (hb13.mono A0.size)
  replace hwA := hwA.trans (hb13.mono hwA.size)
  replace hg0 := hg0.keep OStrs.held hb13 (by omega)
  replace ca00 := (hb13.cell (p := ⟨w.heap.size, 0, none⟩) ma0).trans ca00
  replace ca01 := (hb13.cell (p := ⟨w.heap.size, 1, none⟩) ma0).trans ca01
  replace ca02 := (hb13.cell (p := ⟨w.heap.size, 2, none⟩) ma0).trans ca02
  replace ma0 := Nat.lt_of_lt_of_le ma0 hb13.size
  replace cx00 := (hb13.cell (p := ⟨w5.heap.size, 0, none⟩) mx0).trans cx00
  replace cx01 := (hb13.cell (p := ⟨w5.heap.size, 1, none⟩) mx0).trans cx01
  replace cx02 := (hb13.cell (p := ⟨w5.heap.size, 2, none⟩) mx0).trans cx02
  replace mx0 := Nat.lt_of_lt_of_le mx0 hb13.size
  have z13 := hb13.size
  clear hb13
  clear M
  go_wp2_with fail
  refine (toLabels_o (LabR.frame _ _ _ _ T0.out A0) sz0.out).mono ?_
  rintro e w14 ⟨u0, rfl, hu0, hb14⟩
  replace A0 := A0.trans (hb14.mono A0.size)
  replace hwA := hwA.trans (hb14.mono hwA.size)
  replace hg0 := hg0.keep OStrs.held hb14 (by omega)
  replace ca00 := (hb14.cell (p := ⟨w.heap.size, 0, none⟩) ma0).trans ca00
  replace ca01 := (hb14.cell (p := ⟨w.heap.size, 1, none⟩) ma0).trans ca01
  replace ca02 := (hb14.cell (p := ⟨w.heap.size, 2, none⟩) ma0).trans ca02
  replace ma0 := Nat.lt_of_lt_of_le ma0 hb14.size
  replace cx00 := (hb14.cell (p := ⟨w5.heap.size, 0, none⟩) mx0).trans cx00
  replace cx01 := (hb14.cell (p := ⟨w5.heap.size, 1, none⟩) mx0).trans cx01
  replace cx02 := (hb14.cell (p := ⟨w5.heap.size, 2, none⟩) mx0).trans cx02
  replace mx0 := Nat.lt_of_lt_of_le mx0 hb14.size
  have z14 := hb14.size
  clear hb14
  replace hu0 := hu0.inn OLab.held
  go_wp2_with fail
  refine (impl_ReadWords_c (New.lab hu0.new) t1).mono ?_
  rintro e w15 ⟨f0, rfl, hf0, hb15⟩
  replace A0 := A0.trans (hb15.mono A0.size)
  replace hwA := hwA.trans (hb15.mono hwA.size)
  replace hg0 := hg0.keep OStrs.held hb15 (by omega)
  replace hu0 := hu0.keep OLab.held hb15 (by omega)
  replace ca00 := (hb15.cell (p := ⟨w.heap.size, 0, none⟩) ma0).trans ca00
  replace ca01 := (hb15.cell (p := ⟨w.heap.size, 1, none⟩) ma0).trans ca01
  replace ca02 := (hb15.cell (p := ⟨w.heap.size, 2, none⟩) ma0).trans ca02
  replace ma0 := Nat.lt_of_lt_of_le ma0 hb15.size
  replace cx00 := (hb15.cell (p := ⟨w5.heap.size, 0, none⟩) mx0).trans cx00
  replace cx01 := (hb15.cell (p := ⟨w5.heap.size, 1, none⟩) mx0).trans cx01
  replace cx02 := (hb15.cell (p := ⟨w5.heap.size, 2, none⟩) mx0).trans cx02
  replace mx0 := Nat.lt_of_lt_of_le mx0 hb15.size
  have z15 := hb15.size
  clear hb15
  replace hf0 := hf0.inn OStrs.held
  clear hu0
  go_wp2_with fail
  refine (eqStringS_same (New.strs hf0.new) (StrsR.frame _ _ _ _ R0 hwA)).mono ?_
  rintro e w16 ⟨rfl, hdr⟩
  have hb16 := hdr.below w15.heap.size
  clear hdr
  replace A0 := A0.trans (hb16.mono A0.size)
  replace hwA := hwA.trans (hb16.mono hwA.size)
  replace hg0 := hg0.keep OStrs.held hb16 (by omega)
  replace hf0 := hf0.keep OStrs.held hb16 (by omega)
  replace ca00 := (hb16.cell (p := ⟨w.heap.size, 0, none⟩) ma0).trans ca00
  replace ca01 := (hb16.cell (p := ⟨w.heap.size, 1, none⟩) ma0).trans ca01
  replace ca02 := (hb16.cell (p := ⟨w.heap.size, 2, none⟩) ma0).trans ca02
  replace ma0 := Nat.lt_of_lt_of_le ma0 hb16.size
  replace cx00 := (hb16.cell (p := ⟨w5.heap.size, 0, none⟩) mx0).trans cx00
  replace cx01 := (hb16.cell (p := ⟨w5.heap.size, 1, none⟩) mx0).trans cx01
  replace cx02 := (hb16.cell (p := ⟨w5.heap.size, 2, none⟩) mx0).trans cx02
  replace mx0 := Nat.lt_of_lt_of_le mx0 hb16.size
  have z16 := hb16.size
  clear hb16
  have M := Lib.hid (heldStringS_same (k0 := 1) (New.strs hg0.new) (by omega) (by rw [Hg0.out]; omega))
  rw [Hg0.out] at M
  go_wp2_with fail
  refine (M.out).mono ?_
  rintro e w17 ⟨rfl, hb17⟩
  replace A0 := A0.trans (hb17.mono A0.size)
  replace hwA := hwA.trans (hb17.mono hwA.size)
  replace hg0 := hg0.keep OStrs.held hb17 (by omega)
  replace hf0 := hf0.keep OStrs.held hb17 (by omega)
  replace ca00 := (hb17.cell (p := ⟨w.heap.size, 0, none⟩) ma0).trans ca00
  replace ca01 := (hb17.cell (p := ⟨w.heap.size, 1, none⟩) ma0).trans ca01
  replace ca02 := (hb17.cell (p := ⟨w.heap.size, 2, none⟩) ma0).trans ca02
  replace ma0 := Nat.lt_of_lt_of_le ma0 hb17.size
  replace cx00 := (hb17.cell (p := ⟨w5.heap.size, 0, none⟩) mx0).trans cx00
  replace cx01 := (hb17.cell (p := ⟨w5.heap.size, 1, none⟩) mx0).trans cx01
  replace cx02 := (hb17.cell (p := ⟨w5.heap.size, 2, none⟩) mx0).trans cx02
  replace mx0 := Nat.lt_of_lt_of_le mx0 hb17.size
  have z17 := hb17.size
  clear hb17
  clear M
  go_wp2
  go_ret
  exact ⟨rfl, A0⟩
end Go.Proofs.Ytdohepngandajaa
