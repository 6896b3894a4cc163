/-
  The law on TurnStep, walked over the contracts of both sides.
-/
import Derived.Test.YtiecliglmfampaaLawKit
import Derived.Test.YtiecliglmfampaaBoxKit
import Derived.Deep.RegionHeld3
import Derived.Deep.DeepCutAuto
import Derived.Test.YtiecliglmfampaaStepH
import Derived.Test.YtiecliglmfampaaTurnStep
import Derived.Test.YtiecliglmfampaaOpen
namespace Go.Proofs.Ytiecliglmfampaa
open Go.RowKit Go.Deep Go.Sd
set_option linter.unusedVariables false in
set_option maxHeartbeats 2000000 in
set_option maxRecDepth 10000 in
theorem law_TurnStep {w : World} {v0 : Value} {a0 : List (List Int) × List (List Int)} (t0 : StepR w v0 a0) (b0 : StpI64 a0) :
    Calls Try.prog 9 #[v0] w fun e w' => e = .returned (.bool true) ∧ Below w.heap.size w w' := by
  clear b0
  have T0 := t0
  obtain ⟨kaa0, kna0, kca0, laa0, lna0, lca0, rfl⟩ := t0.slices
  clear t0
  have T0' := Lib.hid T0
  clear T0
  have A0 : Below w.heap.size w w := Below.refl _ _
  have Z0 := Lib.hid (fun (v : Value) (wz : World) (h : StepR wz v a0) => szStep_c h (l := 1048576) (by omega) (by omega))
  have c0 := szStp_bd a0 1048576 (by omega)
  have d0 := fun h => cntStp_le a0 1048576 (by omega) h
  generalize szStp a0 1048576 = l0 at Z0 c0 d0
  have D0 := Lib.hid d0
  clear d0
  go_enter Try.func9, Try.ntmps9
  go_wp2_with fail
  obtain ⟨w1, ex, hb1, ca00, ca01, ma0⟩ := boxA_ex w 39 (.slice kaa0 kna0 kca0) (.slice laa0 lna0 lca0)
  have y1 := ma0
  change Calls Try.prog _ _ (w.alloc (.cells #[(.slice kaa0 kna0 kca0), (.slice laa0 lna0 lca0)] 39)) _
  rw [ex]
  clear ex
  replace A0 := A0.trans (hb1.mono A0.size)
  have z1 := hb1.size
  clear hb1
  refine (Z0.out _ _ (StepR.frame _ _ _ _ T0'.out A0)).mono ?_
  rintro e w2 ⟨rfl, hb2⟩
  replace A0 := A0.trans (hb2.mono A0.size)
  replace ca00 := (hb2.cell (p := ⟨w.heap.size, 0, none⟩) ma0).trans ca00
  replace ca01 := (hb2.cell (p := ⟨w.heap.size, 1, none⟩) ma0).trans ca01
  replace ma0 := Nat.lt_of_lt_of_le ma0 hb2.size
  have z2 := hb2.size
  clear hb2
  by_cases n0 : l0 < 0
  · go_wp2
    go_ret
    exact ⟨rfl, A0⟩
  have d0' := D0.out (by omega)
  have S0 := Lib.hid (StpSz.mk' a0 d0' (by omega) (by omega))
  have E0 := Lib.hid (show cntStp a0 ≤ 1048576 from by omega)
  have l00 : 0 ≤ l0 := by omega
  have l01 : l0 ≤ 1048576 := by omega
  clear c0 d0' n0 Z0 D0
  go_wp2_with fail
  refine (toStep_c (StepR.frame _ _ _ _ T0'.out A0) S0.out).mono ?_
  rintro e w3 ⟨p0, rfl, hp0, hb3⟩
  replace A0 := A0.trans (hb3.mono A0.size)
  replace ca00 := (hb3.cell (p := ⟨w.heap.size, 0, none⟩) ma0).trans ca00
  replace ca01 := (hb3.cell (p := ⟨w.heap.size, 1, none⟩) ma0).trans ca01
  replace ma0 := Nat.lt_of_lt_of_le ma0 hb3.size
  have z3 := hb3.size
  clear hb3
  replace hp0 := hp0.inn OStep.held
  go_wp2_with fail
  refine (spec_TurnStep_c (New.stp hp0.new) S0.out).mono ?_
  rintro e w4 ⟨s0, rfl, hs0, hb4⟩
  replace A0 := A0.trans (hb4.mono A0.size)
  replace hp0 := hp0.keep OStep.held hb4 (by omega)
  replace ca00 := (hb4.cell (p := ⟨w.heap.size, 0, none⟩) ma0).trans ca00
  replace ca01 := (hb4.cell (p := ⟨w.heap.size, 1, none⟩) ma0).trans ca01
  replace ma0 := Nat.lt_of_lt_of_le ma0 hb4.size
  have z4 := hb4.size
  clear hb4
  replace hs0 := hs0.inn OStep.held
  obtain ⟨kas0, kns0, kcs0, las0, lns0, lcs0, rfl⟩ := (New.stp hs0.new).slices
  clear hp0
  have R0' : StepR w4 (.agg #[(.slice kas0 kns0 kcs0), (.slice las0 lns0 lcs0)]) ((a0.2, a0.1)) := (New.stp hs0.new)
  have R0 := Lib.hid R0'
  clear R0'
  clear hs0
  have hwA : Below w4.heap.size w4 w4 := Below.refl _ _
  go_wp2_with fail
  obtain ⟨w5, ex, hb5, cs00, cs01, ms0⟩ := boxA_ex w4 41 (.slice kas0 kns0 kcs0) (.slice las0 lns0 lcs0)
  have y5 := ms0
  change Calls Try.prog _ _ (w4.alloc (.cells #[(.slice kas0 kns0 kcs0), (.slice las0 lns0 lcs0)] 41)) _
  rw [ex]
  clear ex
  replace A0 := A0.trans (hb5.mono A0.size)
  replace hwA := hwA.trans (hb5.mono hwA.size)
  replace ca00 := (hb5.cell (p := ⟨w.heap.size, 0, none⟩) ma0).trans ca00
  replace ca01 := (hb5.cell (p := ⟨w.heap.size, 1, none⟩) ma0).trans ca01
  replace ma0 := Nat.lt_of_lt_of_le ma0 hb5.size
  have z5 := hb5.size
  clear hb5
  refine (toStep_c (StepR.frame _ _ _ _ T0'.out A0) S0.out).mono ?_
  rintro e w6 ⟨x0, rfl, hx0, hb6⟩
  replace A0 := A0.trans (hb6.mono A0.size)
  replace hwA := hwA.trans (hb6.mono hwA.size)
  replace ca00 := (hb6.cell (p := ⟨w.heap.size, 0, none⟩) ma0).trans ca00
  replace ca01 := (hb6.cell (p := ⟨w.heap.size, 1, none⟩) ma0).trans ca01
  replace ma0 := Nat.lt_of_lt_of_le ma0 hb6.size
  replace cs00 := (hb6.cell (p := ⟨w4.heap.size, 0, none⟩) ms0).trans cs00
  replace cs01 := (hb6.cell (p := ⟨w4.heap.size, 1, none⟩) ms0).trans cs01
  replace ms0 := Nat.lt_of_lt_of_le ms0 hb6.size
  have z6 := hb6.size
  clear hb6
  replace hx0 := hx0.inn OStep.held
  obtain ⟨kax0, knx0, kcx0, lax0, lnx0, lcx0, rfl⟩ := (New.stp hx0.new).slices
  go_wp2_with fail
  obtain ⟨w7, ex, hb7, cx00, cx01, mx0⟩ := boxA_ex w6 41 (.slice kax0 knx0 kcx0) (.slice lax0 lnx0 lcx0)
  have y7 := mx0
  change Calls Try.prog _ _ (w6.alloc (.cells #[(.slice kax0 knx0 kcx0), (.slice lax0 lnx0 lcx0)] 41)) _
  rw [ex]
  clear ex
  replace A0 := A0.trans (hb7.mono A0.size)
  replace hwA := hwA.trans (hb7.mono hwA.size)
  replace hx0 := hx0.keep OStep.held hb7 (by omega)
  replace ca00 := (hb7.cell (p := ⟨w.heap.size, 0, none⟩) ma0).trans ca00
  replace ca01 := (hb7.cell (p := ⟨w.heap.size, 1, none⟩) ma0).trans ca01
  replace ma0 := Nat.lt_of_lt_of_le ma0 hb7.size
  replace cs00 := (hb7.cell (p := ⟨w4.heap.size, 0, none⟩) ms0).trans cs00
  replace cs01 := (hb7.cell (p := ⟨w4.heap.size, 1, none⟩) ms0).trans cs01
  replace ms0 := Nat.lt_of_lt_of_le ms0 hb7.size
  have z7 := hb7.size
  clear hb7
  refine (impl_TurnStep_c (New.stp hx0.new) S0.out).mono ?_
  rintro e w8 ⟨g0, rfl, hg0, hb8⟩
  replace A0 := A0.trans (hb8.mono A0.size)
  replace hwA := hwA.trans (hb8.mono hwA.size)
  replace hx0 := hx0.keep OStep.held hb8 (by omega)
  replace ca00 := (hb8.cell (p := ⟨w.heap.size, 0, none⟩) ma0).trans ca00
  replace ca01 := (hb8.cell (p := ⟨w.heap.size, 1, none⟩) ma0).trans ca01
  replace ma0 := Nat.lt_of_lt_of_le ma0 hb8.size
  replace cs00 := (hb8.cell (p := ⟨w4.heap.size, 0, none⟩) ms0).trans cs00
  replace cs01 := (hb8.cell (p := ⟨w4.heap.size, 1, none⟩) ms0).trans cs01
  replace ms0 := Nat.lt_of_lt_of_le ms0 hb8.size
  replace cx00 := (hb8.cell (p := ⟨w6.heap.size, 0, none⟩) mx0).trans cx00
  replace cx01 := (hb8.cell (p := ⟨w6.heap.size, 1, none⟩) mx0).trans cx01
  replace mx0 := Nat.lt_of_lt_of_le mx0 hb8.size
  have z8 := hb8.size
  clear hb8
  replace hg0 := hg0.inn OStep.held
  obtain ⟨kag0, kng0, kcg0, lag0, lng0, lcg0, rfl⟩ := (New.stp hg0.new).slices
  go_wp2_with fail
  obtain ⟨w9, ex, hb9, cg00, cg01, mg0⟩ := boxA_ex w8 41 (.slice kag0 kng0 kcg0) (.slice lag0 lng0 lcg0)
  have y9 := mg0
  change Calls Try.prog _ _ (w8.alloc (.cells #[(.slice kag0 kng0 kcg0), (.slice lag0 lng0 lcg0)] 41)) _
  rw [ex]
  clear ex
  replace A0 := A0.trans (hb9.mono A0.size)
  replace hwA := hwA.trans (hb9.mono hwA.size)
  replace hx0 := hx0.keep OStep.held hb9 (by omega)
  replace hg0 := hg0.keep OStep.held hb9 (by omega)
  replace ca00 := (hb9.cell (p := ⟨w.heap.size, 0, none⟩) ma0).trans ca00
  replace ca01 := (hb9.cell (p := ⟨w.heap.size, 1, none⟩) ma0).trans ca01
  replace ma0 := Nat.lt_of_lt_of_le ma0 hb9.size
  replace cs00 := (hb9.cell (p := ⟨w4.heap.size, 0, none⟩) ms0).trans cs00
  replace cs01 := (hb9.cell (p := ⟨w4.heap.size, 1, none⟩) ms0).trans cs01
  replace ms0 := Nat.lt_of_lt_of_le ms0 hb9.size
  replace cx00 := (hb9.cell (p := ⟨w6.heap.size, 0, none⟩) mx0).trans cx00
  replace cx01 := (hb9.cell (p := ⟨w6.heap.size, 1, none⟩) mx0).trans cx01
  replace mx0 := Nat.lt_of_lt_of_le mx0 hb9.size
  have z9 := hb9.size
  clear hb9
  refine (eqStep_same (New.stp hg0.new) (StepR.frame _ _ _ _ R0.out hwA)).mono ?_
  rintro e w10 ⟨rfl, hb10⟩
  replace A0 := A0.trans (hb10.mono A0.size)
  replace hwA := hwA.trans (hb10.mono hwA.size)
  replace hx0 := hx0.keep OStep.held hb10 (by omega)
  replace hg0 := hg0.keep OStep.held hb10 (by omega)
  replace ca00 := (hb10.cell (p := ⟨w.heap.size, 0, none⟩) ma0).trans ca00
  replace ca01 := (hb10.cell (p := ⟨w.heap.size, 1, none⟩) ma0).trans ca01
  replace ma0 := Nat.lt_of_lt_of_le ma0 hb10.size
  replace cs00 := (hb10.cell (p := ⟨w4.heap.size, 0, none⟩) ms0).trans cs00
  replace cs01 := (hb10.cell (p := ⟨w4.heap.size, 1, none⟩) ms0).trans cs01
  replace ms0 := Nat.lt_of_lt_of_le ms0 hb10.size
  replace cx00 := (hb10.cell (p := ⟨w6.heap.size, 0, none⟩) mx0).trans cx00
  replace cx01 := (hb10.cell (p := ⟨w6.heap.size, 1, none⟩) mx0).trans cx01
  replace mx0 := Nat.lt_of_lt_of_le mx0 hb10.size
  replace cg00 := (hb10.cell (p := ⟨w8.heap.size, 0, none⟩) mg0).trans cg00
  replace cg01 := (hb10.cell (p := ⟨w8.heap.size, 1, none⟩) mg0).trans cg01
  replace mg0 := Nat.lt_of_lt_of_le mg0 hb10.size
  have z10 := hb10.size
  clear hb10
  go_wp2
  have hS0 := (show w10.cell? ⟨w6.heap.size, 0, none⟩ = some (.slice kax0 knx0 kcx0) ∧ w10.cell? ⟨w6.heap.size, 1, none⟩ = some (.slice lax0 lnx0 lcx0) ∧ w10.cell? ⟨w.heap.size, 0, none⟩ = some (.slice kaa0 kna0 kca0) ∧ w10.cell? ⟨w.heap.size, 1, none⟩ = some (.slice laa0 lna0 lca0) from ⟨cx00, cx01, ca00, ca01⟩)
  go_region_held3 (fun w' => w'.cell? ⟨w6.heap.size, 0, none⟩ = some (.slice kax0 knx0 kcx0) ∧ w'.cell? ⟨w6.heap.size, 1, none⟩ = some (.slice lax0 lnx0 lcx0) ∧ w'.cell? ⟨w.heap.size, 0, none⟩ = some (.slice kaa0 kna0 kca0) ∧ w'.cell? ⟨w.heap.size, 1, none⟩ = some (.slice laa0 lna0 lca0))
    (first | exact hS2 | exact hS1 | exact hS0 | go_keep)
    ((first
      | (have hg1 := hS1; go_at_call 39; refine (eqStep_same (New.stp hx0.new) (New.stp hy0.new)).mono ?_; rintro e w12 ⟨rfl, hb12⟩; replace A0 := A0.trans (hb12.mono A0.size); replace hwA := hwA.trans (hb12.mono hwA.size); replace hx0 := hx0.keep OStep.held hb12 (by omega); replace hg0 := hg0.keep OStep.held hb12 (by omega); replace hy0 := hy0.keep OStep.held hb12 (by omega); replace ca00 := (hb12.cell (p := ⟨w.heap.size, 0, none⟩) ma0).trans ca00; replace ca01 := (hb12.cell (p := ⟨w.heap.size, 1, none⟩) ma0).trans ca01; replace ma0 := Nat.lt_of_lt_of_le ma0 hb12.size; replace cs00 := (hb12.cell (p := ⟨w4.heap.size, 0, none⟩) ms0).trans cs00; replace cs01 := (hb12.cell (p := ⟨w4.heap.size, 1, none⟩) ms0).trans cs01; replace ms0 := Nat.lt_of_lt_of_le ms0 hb12.size; replace cx00 := (hb12.cell (p := ⟨w6.heap.size, 0, none⟩) mx0).trans cx00; replace cx01 := (hb12.cell (p := ⟨w6.heap.size, 1, none⟩) mx0).trans cx01; replace mx0 := Nat.lt_of_lt_of_le mx0 hb12.size; replace cg00 := (hb12.cell (p := ⟨w8.heap.size, 0, none⟩) mg0).trans cg00; replace cg01 := (hb12.cell (p := ⟨w8.heap.size, 1, none⟩) mg0).trans cg01; replace mg0 := Nat.lt_of_lt_of_le mg0 hb12.size; have z12 := hb12.size; clear hb12; have hS2 := (show w12.cell? ⟨w6.heap.size, 0, none⟩ = some (.slice kax0 knx0 kcx0) ∧ w12.cell? ⟨w6.heap.size, 1, none⟩ = some (.slice lax0 lnx0 lcx0) ∧ w12.cell? ⟨w.heap.size, 0, none⟩ = some (.slice kaa0 kna0 kca0) ∧ w12.cell? ⟨w.heap.size, 1, none⟩ = some (.slice laa0 lna0 lca0) from ⟨cx00, cx01, ca00, ca01⟩))
      | (have hbd := (Below.refl w10.heap.size w10).drew; replace A0 := A0.trans (hbd.mono A0.size); replace hwA := hwA.trans (hbd.mono hwA.size); replace hx0 := hx0.keep OStep.held hbd (by omega); replace hg0 := hg0.keep OStep.held hbd (by omega); replace ca00 := (hbd.cell (p := ⟨w.heap.size, 0, none⟩) ma0).trans ca00; replace ca01 := (hbd.cell (p := ⟨w.heap.size, 1, none⟩) ma0).trans ca01; replace ma0 := Nat.lt_of_lt_of_le ma0 hbd.size; replace cs00 := (hbd.cell (p := ⟨w4.heap.size, 0, none⟩) ms0).trans cs00; replace cs01 := (hbd.cell (p := ⟨w4.heap.size, 1, none⟩) ms0).trans cs01; replace ms0 := Nat.lt_of_lt_of_le ms0 hbd.size; replace cx00 := (hbd.cell (p := ⟨w6.heap.size, 0, none⟩) mx0).trans cx00; replace cx01 := (hbd.cell (p := ⟨w6.heap.size, 1, none⟩) mx0).trans cx01; replace mx0 := Nat.lt_of_lt_of_le mx0 hbd.size; replace cg00 := (hbd.cell (p := ⟨w8.heap.size, 0, none⟩) mg0).trans cg00; replace cg01 := (hbd.cell (p := ⟨w8.heap.size, 1, none⟩) mg0).trans cg01; replace mg0 := Nat.lt_of_lt_of_le mg0 hbd.size; have z10 := hbd.size; clear hbd; go_at_call 37; refine (toStep_c (StepR.frame _ _ _ _ T0'.out A0) S0.out).mono ?_; rintro e w11 ⟨y0, rfl, hy0, hb11⟩; replace A0 := A0.trans (hb11.mono A0.size); replace hwA := hwA.trans (hb11.mono hwA.size); replace hx0 := hx0.keep OStep.held hb11 (by omega); replace hg0 := hg0.keep OStep.held hb11 (by omega); replace ca00 := (hb11.cell (p := ⟨w.heap.size, 0, none⟩) ma0).trans ca00; replace ca01 := (hb11.cell (p := ⟨w.heap.size, 1, none⟩) ma0).trans ca01; replace ma0 := Nat.lt_of_lt_of_le ma0 hb11.size; replace cs00 := (hb11.cell (p := ⟨w4.heap.size, 0, none⟩) ms0).trans cs00; replace cs01 := (hb11.cell (p := ⟨w4.heap.size, 1, none⟩) ms0).trans cs01; replace ms0 := Nat.lt_of_lt_of_le ms0 hb11.size; replace cx00 := (hb11.cell (p := ⟨w6.heap.size, 0, none⟩) mx0).trans cx00; replace cx01 := (hb11.cell (p := ⟨w6.heap.size, 1, none⟩) mx0).trans cx01; replace mx0 := Nat.lt_of_lt_of_le mx0 hb11.size; replace cg00 := (hb11.cell (p := ⟨w8.heap.size, 0, none⟩) mg0).trans cg00; replace cg01 := (hb11.cell (p := ⟨w8.heap.size, 1, none⟩) mg0).trans cg01; replace mg0 := Nat.lt_of_lt_of_le mg0 hb11.size; have z11 := hb11.size; clear hb11; replace hy0 := hy0.inn OStep.held; have hS1 := (show w11.cell? ⟨w6.heap.size, 0, none⟩ = some (.slice kax0 knx0 kcx0) ∧ w11.cell? ⟨w6.heap.size, 1, none⟩ = some (.slice lax0 lnx0 lcx0) ∧ w11.cell? ⟨w.heap.size, 0, none⟩ = some (.slice kaa0 kna0 kca0) ∧ w11.cell? ⟨w.heap.size, 1, none⟩ = some (.slice laa0 lna0 lca0) from ⟨cx00, cx01, ca00, ca01⟩))
      | fail))
  clear hS0 hS1 hS2
  clear hy0
  have q0d := E0.out
  have r0d := cntStp_nn a0
  generalize hq0 : cntStp a0 = cq0 at q0d r0d
  have Hq0 := Lib.hid hq0
  clear hq0
  have M := Lib.hid (markStep_in (k0 := 1) hx0 (by omega) (by rw [Hq0.out]; omega))
  rw [Hq0.out] at M
  go_wp2_with fail
  refine M.out.mono ?_
  rintro e w13 ⟨rfl, hm13, ho13⟩
  clear M
  replace A0 := A0.trans (ho13.below (by omega) A0.size)
  replace hwA := hwA.trans (ho13.below (by omega) hwA.size)
  replace hg0 := hg0.off OStep.held ho13 (by omega)
  replace ca00 := (ho13.cell ma0 (by omega)).trans ca00
  replace ca01 := (ho13.cell ma0 (by omega)).trans ca01
  replace ma0 := Nat.lt_of_lt_of_le ma0 ho13.size
  replace cs00 := (ho13.cell ms0 (by omega)).trans cs00
  replace cs01 := (ho13.cell ms0 (by omega)).trans cs01
  replace ms0 := Nat.lt_of_lt_of_le ms0 ho13.size
  replace cx00 := (ho13.cell mx0 (by omega)).trans cx00
  replace cx01 := (ho13.cell mx0 (by omega)).trans cx01
  replace mx0 := Nat.lt_of_lt_of_le mx0 ho13.size
  replace cg00 := (ho13.cell mg0 (by omega)).trans cg00
  replace cg01 := (ho13.cell mg0 (by omega)).trans cg01
  replace mg0 := Nat.lt_of_lt_of_le mg0 ho13.size
  have z13 := ho13.size
  clear hx0 ho13
  clear hm13
  go_wp2_with fail
  refine (eqStep_same (New.stp hg0.new) (StepR.frame _ _ _ _ R0.out hwA)).mono ?_
  rintro e w14 ⟨rfl, hb14⟩
  replace A0 := A0.trans (hb14.mono A0.size)
  replace hwA := hwA.trans (hb14.mono hwA.size)
  replace hg0 := hg0.keep OStep.held hb14 (by omega)
  replace ca00 := (hb14.cell (p := ⟨w.heap.size, 0, none⟩) ma0).trans ca00
  replace ca01 := (hb14.cell (p := ⟨w.heap.size, 1, none⟩) ma0).trans ca01
  replace ma0 := Nat.lt_of_lt_of_le ma0 hb14.size
  replace cs00 := (hb14.cell (p := ⟨w4.heap.size, 0, none⟩) ms0).trans cs00
  replace cs01 := (hb14.cell (p := ⟨w4.heap.size, 1, none⟩) ms0).trans cs01
  replace ms0 := Nat.lt_of_lt_of_le ms0 hb14.size
  replace cx00 := (hb14.cell (p := ⟨w6.heap.size, 0, none⟩) mx0).trans cx00
  replace cx01 := (hb14.cell (p := ⟨w6.heap.size, 1, none⟩) mx0).trans cx01
  replace mx0 := Nat.lt_of_lt_of_le mx0 hb14.size
  replace cg00 := (hb14.cell (p := ⟨w8.heap.size, 0, none⟩) mg0).trans cg00
  replace cg01 := (hb14.cell (p := ⟨w8.heap.size, 1, none⟩) mg0).trans cg01
  replace mg0 := Nat.lt_of_lt_of_le mg0 hb14.size
  have z14 := hb14.size
  clear hb14
  have qg0 : cntStp ((a0.2, a0.1)) ≤ 1099511627776 := Int.le_trans (Int.le_trans (Int.le_of_eq (cntStp_turn a0)) E0.out) (by decide)
  have rg0 : 0 ≤ cntStp ((a0.2, a0.1)) := cntStp_nn _
  generalize eqg0 : cntStp ((a0.2, a0.1)) = cg0 at qg0 rg0
  have Hg0 := Lib.hid eqg0
  clear eqg0
  have M := Lib.hid (markStep_in (k0 := 1) hg0 (by omega) (by rw [Hg0.out]; omega))
  rw [Hg0.out] at M
  go_wp2_with fail
  refine M.out.mono ?_
  rintro e w15 ⟨rfl, hm15, ho15⟩
  clear M
  replace A0 := A0.trans (ho15.below (by omega) A0.size)
  replace hwA := hwA.trans (ho15.below (by omega) hwA.size)
  replace ca00 := (ho15.cell ma0 (by omega)).trans ca00
  replace ca01 := (ho15.cell ma0 (by omega)).trans ca01
  replace ma0 := Nat.lt_of_lt_of_le ma0 ho15.size
  replace cs00 := (ho15.cell ms0 (by omega)).trans cs00
  replace cs01 := (ho15.cell ms0 (by omega)).trans cs01
  replace ms0 := Nat.lt_of_lt_of_le ms0 ho15.size
  replace cx00 := (ho15.cell mx0 (by omega)).trans cx00
  replace cx01 := (ho15.cell mx0 (by omega)).trans cx01
  replace mx0 := Nat.lt_of_lt_of_le mx0 ho15.size
  replace cg00 := (ho15.cell mg0 (by omega)).trans cg00
  replace cg01 := (ho15.cell mg0 (by omega)).trans cg01
  replace mg0 := Nat.lt_of_lt_of_le mg0 ho15.size
  have z15 := ho15.size
  clear hg0 ho15
  have hg0 := hm15
  clear hm15
  have M := Lib.hid (heldStep_same (k0 := 1) (New.stp hg0.new) (by omega) (by rw [Hg0.out]; omega))
  rw [Hg0.out] at M
  go_wp2_with fail
  refine (M.out).mono ?_
  rintro e w16 ⟨rfl, hb16⟩
  replace A0 := A0.trans (hb16.mono A0.size)
  replace hwA := hwA.trans (hb16.mono hwA.size)
  replace hg0 := hg0.keep OStep.held hb16 (by omega)
  replace ca00 := (hb16.cell (p := ⟨w.heap.size, 0, none⟩) ma0).trans ca00
  replace ca01 := (hb16.cell (p := ⟨w.heap.size, 1, none⟩) ma0).trans ca01
  replace ma0 := Nat.lt_of_lt_of_le ma0 hb16.size
  replace cs00 := (hb16.cell (p := ⟨w4.heap.size, 0, none⟩) ms0).trans cs00
  replace cs01 := (hb16.cell (p := ⟨w4.heap.size, 1, none⟩) ms0).trans cs01
  replace ms0 := Nat.lt_of_lt_of_le ms0 hb16.size
  replace cx00 := (hb16.cell (p := ⟨w6.heap.size, 0, none⟩) mx0).trans cx00
  replace cx01 := (hb16.cell (p := ⟨w6.heap.size, 1, none⟩) mx0).trans cx01
  replace mx0 := Nat.lt_of_lt_of_le mx0 hb16.size
  replace cg00 := (hb16.cell (p := ⟨w8.heap.size, 0, none⟩) mg0).trans cg00
  replace cg01 := (hb16.cell (p := ⟨w8.heap.size, 1, none⟩) mg0).trans cg01
  replace mg0 := Nat.lt_of_lt_of_le mg0 hb16.size
  have z16 := hb16.size
  clear hb16
  clear M
  go_wp2_with fail
  refine (toStep_c (StepR.frame _ _ _ _ T0'.out A0) S0.out).mono ?_
  rintro e w17 ⟨u0, rfl, hu0, hb17⟩
  replace A0 := A0.trans (hb17.mono A0.size)
  replace hwA := hwA.trans (hb17.mono hwA.size)
  replace hg0 := hg0.keep OStep.held hb17 (by omega)
  replace ca00 := (hb17.cell (p := ⟨w.heap.size, 0, none⟩) ma0).trans ca00
  replace ca01 := (hb17.cell (p := ⟨w.heap.size, 1, none⟩) ma0).trans ca01
  replace ma0 := Nat.lt_of_lt_of_le ma0 hb17.size
  replace cs00 := (hb17.cell (p := ⟨w4.heap.size, 0, none⟩) ms0).trans cs00
  replace cs01 := (hb17.cell (p := ⟨w4.heap.size, 1, none⟩) ms0).trans cs01
  replace ms0 := Nat.lt_of_lt_of_le ms0 hb17.size
  replace cx00 := (hb17.cell (p := ⟨w6.heap.size, 0, none⟩) mx0).trans cx00
  replace cx01 := (hb17.cell (p := ⟨w6.heap.size, 1, none⟩) mx0).trans cx01
  replace mx0 := Nat.lt_of_lt_of_le mx0 hb17.size
  replace cg00 := (hb17.cell (p := ⟨w8.heap.size, 0, none⟩) mg0).trans cg00
  replace cg01 := (hb17.cell (p := ⟨w8.heap.size, 1, none⟩) mg0).trans cg01
  replace mg0 := Nat.lt_of_lt_of_le mg0 hb17.size
  have z17 := hb17.size
  clear hb17
  replace hu0 := hu0.inn OStep.held
  go_wp2_with fail
  refine (impl_TurnStep_c (New.stp hu0.new) S0.out).mono ?_
  rintro e w18 ⟨f0, rfl, hf0, hb18⟩
  replace A0 := A0.trans (hb18.mono A0.size)
  replace hwA := hwA.trans (hb18.mono hwA.size)
  replace hg0 := hg0.keep OStep.held hb18 (by omega)
  replace hu0 := hu0.keep OStep.held hb18 (by omega)
  replace ca00 := (hb18.cell (p := ⟨w.heap.size, 0, none⟩) ma0).trans ca00
  replace ca01 := (hb18.cell (p := ⟨w.heap.size, 1, none⟩) ma0).trans ca01
  replace ma0 := Nat.lt_of_lt_of_le ma0 hb18.size
  replace cs00 := (hb18.cell (p := ⟨w4.heap.size, 0, none⟩) ms0).trans cs00
  replace cs01 := (hb18.cell (p := ⟨w4.heap.size, 1, none⟩) ms0).trans cs01
  replace ms0 := Nat.lt_of_lt_of_le ms0 hb18.size
  replace cx00 := (hb18.cell (p := ⟨w6.heap.size, 0, none⟩) mx0).trans cx00
  replace cx01 := (hb18.cell (p := ⟨w6.heap.size, 1, none⟩) mx0).trans cx01
  replace mx0 := Nat.lt_of_lt_of_le mx0 hb18.size
  replace cg00 := (hb18.cell (p := ⟨w8.heap.size, 0, none⟩) mg0).trans cg00
  replace cg01 := (hb18.cell (p := ⟨w8.heap.size, 1, none⟩) mg0).trans cg01
  replace mg0 := Nat.lt_of_lt_of_le mg0 hb18.size
  have z18 := hb18.size
  clear hb18
  replace hf0 := hf0.inn OStep.held
  obtain ⟨kaf0, knf0, kcf0, laf0, lnf0, lcf0, rfl⟩ := (New.stp hf0.new).slices
  clear hu0
  go_wp2_with fail
  obtain ⟨w19, ex, hb19, cf00, cf01, mf0⟩ := boxA_ex w18 41 (.slice kaf0 knf0 kcf0) (.slice laf0 lnf0 lcf0)
  have y19 := mf0
  change Calls Try.prog _ _ (w18.alloc (.cells #[(.slice kaf0 knf0 kcf0), (.slice laf0 lnf0 lcf0)] 41)) _
  rw [ex]
  clear ex
  replace A0 := A0.trans (hb19.mono A0.size)
  replace hwA := hwA.trans (hb19.mono hwA.size)
  replace hg0 := hg0.keep OStep.held hb19 (by omega)
  replace hf0 := hf0.keep OStep.held hb19 (by omega)
  replace ca00 := (hb19.cell (p := ⟨w.heap.size, 0, none⟩) ma0).trans ca00
  replace ca01 := (hb19.cell (p := ⟨w.heap.size, 1, none⟩) ma0).trans ca01
  replace ma0 := Nat.lt_of_lt_of_le ma0 hb19.size
  replace cs00 := (hb19.cell (p := ⟨w4.heap.size, 0, none⟩) ms0).trans cs00
  replace cs01 := (hb19.cell (p := ⟨w4.heap.size, 1, none⟩) ms0).trans cs01
  replace ms0 := Nat.lt_of_lt_of_le ms0 hb19.size
  replace cx00 := (hb19.cell (p := ⟨w6.heap.size, 0, none⟩) mx0).trans cx00
  replace cx01 := (hb19.cell (p := ⟨w6.heap.size, 1, none⟩) mx0).trans cx01
  replace mx0 := Nat.lt_of_lt_of_le mx0 hb19.size
  replace cg00 := (hb19.cell (p := ⟨w8.heap.size, 0, none⟩) mg0).trans cg00
  replace cg01 := (hb19.cell (p := ⟨w8.heap.size, 1, none⟩) mg0).trans cg01
  replace mg0 := Nat.lt_of_lt_of_le mg0 hb19.size
  have z19 := hb19.size
  clear hb19
  refine (eqStep_same (New.stp hf0.new) (StepR.frame _ _ _ _ R0.out hwA)).mono ?_
  rintro e w20 ⟨rfl, hb20⟩
  replace A0 := A0.trans (hb20.mono A0.size)
  replace hwA := hwA.trans (hb20.mono hwA.size)
  replace hg0 := hg0.keep OStep.held hb20 (by omega)
  replace hf0 := hf0.keep OStep.held hb20 (by omega)
  replace ca00 := (hb20.cell (p := ⟨w.heap.size, 0, none⟩) ma0).trans ca00
  replace ca01 := (hb20.cell (p := ⟨w.heap.size, 1, none⟩) ma0).trans ca01
  replace ma0 := Nat.lt_of_lt_of_le ma0 hb20.size
  replace cs00 := (hb20.cell (p := ⟨w4.heap.size, 0, none⟩) ms0).trans cs00
  replace cs01 := (hb20.cell (p := ⟨w4.heap.size, 1, none⟩) ms0).trans cs01
  replace ms0 := Nat.lt_of_lt_of_le ms0 hb20.size
  replace cx00 := (hb20.cell (p := ⟨w6.heap.size, 0, none⟩) mx0).trans cx00
  replace cx01 := (hb20.cell (p := ⟨w6.heap.size, 1, none⟩) mx0).trans cx01
  replace mx0 := Nat.lt_of_lt_of_le mx0 hb20.size
  replace cg00 := (hb20.cell (p := ⟨w8.heap.size, 0, none⟩) mg0).trans cg00
  replace cg01 := (hb20.cell (p := ⟨w8.heap.size, 1, none⟩) mg0).trans cg01
  replace mg0 := Nat.lt_of_lt_of_le mg0 hb20.size
  replace cf00 := (hb20.cell (p := ⟨w18.heap.size, 0, none⟩) mf0).trans cf00
  replace cf01 := (hb20.cell (p := ⟨w18.heap.size, 1, none⟩) mf0).trans cf01
  replace mf0 := Nat.lt_of_lt_of_le mf0 hb20.size
  have z20 := hb20.size
  clear hb20
  have M := Lib.hid (heldStep_same (k0 := 1) (New.stp hg0.new) (by omega) (by rw [Hg0.out]; omega))
  rw [Hg0.out] at M
  go_wp2_with fail
  refine (M.out).mono ?_
  rintro e w21 ⟨rfl, hb21⟩
  replace A0 := A0.trans (hb21.mono A0.size)
  replace hwA := hwA.trans (hb21.mono hwA.size)
  replace hg0 := hg0.keep OStep.held hb21 (by omega)
  replace hf0 := hf0.keep OStep.held hb21 (by omega)
  replace ca00 := (hb21.cell (p := ⟨w.heap.size, 0, none⟩) ma0).trans ca00
  replace ca01 := (hb21.cell (p := ⟨w.heap.size, 1, none⟩) ma0).trans ca01
  replace ma0 := Nat.lt_of_lt_of_le ma0 hb21.size
  replace cs00 := (hb21.cell (p := ⟨w4.heap.size, 0, none⟩) ms0).trans cs00
  replace cs01 := (hb21.cell (p := ⟨w4.heap.size, 1, none⟩) ms0).trans cs01
  replace ms0 := Nat.lt_of_lt_of_le ms0 hb21.size
  replace cx00 := (hb21.cell (p := ⟨w6.heap.size, 0, none⟩) mx0).trans cx00
  replace cx01 := (hb21.cell (p := ⟨w6.heap.size, 1, none⟩) mx0).trans cx01
  replace mx0 := Nat.lt_of_lt_of_le mx0 hb21.size
  replace cg00 := (hb21.cell (p := ⟨w8.heap.size, 0, none⟩) mg0).trans cg00
  replace cg01 := (hb21.cell (p := ⟨w8.heap.size, 1, none⟩) mg0).trans cg01
  replace mg0 := Nat.lt_of_lt_of_le mg0 hb21.size
  replace cf00 := (hb21.cell (p := ⟨w18.heap.size, 0, none⟩) mf0).trans cf00
  replace cf01 := (hb21.cell (p := ⟨w18.heap.size, 1, none⟩) mf0).trans cf01
  replace mf0 := Nat.lt_of_lt_of_le mf0 hb21.size
  have z21 := hb21.size
  clear hb21
  clear M
  go_wp2
  go_ret
  exact ⟨rfl, A0⟩
end Go.Proofs.Ytiecliglmfampaa
